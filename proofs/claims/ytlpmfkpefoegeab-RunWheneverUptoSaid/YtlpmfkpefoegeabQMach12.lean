/-
  The machine: collect.
-/
import Derived.Test.YtlpmfkpefoegeabQMach11
import Derived.Test.YtlpmfkpefoegeabPMVis
import Derived.Test.YtlpmfkpefoegeabQCollect
import Derived.Test.YtlpmfkpefoegeabQTwo
import Derived.Test.YtlpmfkpefoegeabQMarksOf
namespace Go.Proofs.Ytlpmfkpefoegeab
set_option linter.unusedVariables false
set_option linter.unusedSimpArgs false
open Go.RowKit
structure TwoN (B : Nat) (w : World) (la lb : List Int) (av bv : Value) : Prop where
  a : OwnN w B la av
  b : OwnN w B lb bv
  sep : ∀ k, ownB av = some k → ownB bv ≠ some k
theorem TwoN.swap {B : Nat} {w : World} {la lb : List Int} {av bv : Value} (h : TwoN B w la lb av bv) : TwoN B w lb la bv av := ⟨h.b, h.a, fun k h1 h2 => h.sep k h2 h1⟩
theorem TwoN.nil (B : Nat) (w : World) : TwoN B w [] [] (.slice none 0 0) (.slice none 0 0) := ⟨OwnF.nil, OwnF.nil, fun k h => by simp [ownB] at h⟩
theorem TwoN.below {B : Nat} {w w' : World} {la lb : List Int} {av bv : Value} (h : TwoN B w la lb av bv) (hb : Below w.heap.size w w') : TwoN B w' la lb av bv := ⟨h.a.below hb, h.b.below hb, h.sep⟩
theorem TwoN.app {B : Nat} {w w' : World} {la lb ys : List Int} {av bv v' : Value} (h : TwoN B w la lb av bv) (h1 : OwnN w' B (la ++ ys) v') (hg : Grew w w' av v') : TwoN B w' (la ++ ys) lb v' bv :=
  ⟨h1, h.b.kept fun k hk => hg.grown.block k (h.b.lt k hk).2 (fun e => h.sep k e.symm hk), fun k e e2 => hg.new (h.b.lt k e2).2 (fun e3 => h.sep k e3 e2) e⟩
theorem OutN.app {B : Nat} {w w' : World} {av bv v' z : Value} {zs : List Int} (hg : Grew w w' av v') (hz : NumsR (Out B av bv) w zs z) : NumsR (Out B v' bv) w' zs z := by
  have h2 := SlR.mono (A' := fun b => Out B av bv b ∧ ownB v' ≠ some b) numR_lasts (by omega) hz (fun b hb hb' => ⟨hb', hg.new hb hb'.2.1⟩)
  have h3 := SlR.keeps numR_lasts h2 (hg.keeps (A := fun b => Out B av bv b ∧ ownB v' ≠ some b) (fun b hb => hb.1.2.1))
  exact SlR.mono numR_lasts (by omega) h3 (fun b _ hb => ⟨hb.1.1, hb.2, hb.1.2.2⟩)
theorem OutN.below {B : Nat} {w w' : World} {av bv z : Value} {zs : List Int} (hb : Below w.heap.size w w') (hz : NumsR (Out B av bv) w zs z) : NumsR (Out B av bv) w' zs z := SlR.keeps numR_lasts hz (Keeps.of_below hb)
theorem OutN.made {B : Nat} {w : World} {av bv : Value} {la lb : List Int} {x : Int} (h : TwoN B w la lb av bv) (hB : B ≤ w.heap.size) (hx : I64 x) :
    NumsR (Out B av bv) (w.alloc (.cells #[.int .i64 x] 3)) [x] (.slice (some ⟨w.heap.size, 0, none⟩) 1 1) := by
  refine ⟨w.heap.size, 0, ⟨by simp, .inr ⟨by simp, ⟨hB, fun e => by have := (h.a.lt _ e).2; omega, fun e => by have := (h.b.lt _ e).2; omega⟩, 1, rfl, by simp, by simp [maxLen]⟩⟩, ?_⟩
  exact elems_one numR_lasts (vs := [.int .i64 x]) _ rfl ⟨hx, rfl⟩
theorem made1 {w : World} {x : Int} (hx : I64 x) : NumsR (fun b => b = w.heap.size) (w.alloc (.cells #[.int .i64 x] 3)) [x] (.slice (some ⟨w.heap.size, 0, none⟩) 1 1) := by
  refine ⟨w.heap.size, 0, ⟨by simp, .inr ⟨by simp, rfl, 1, rfl, by simp, by simp [maxLen]⟩⟩, ?_⟩
  exact elems_one numR_lasts (vs := [.int .i64 x]) _ rfl ⟨hx, rfl⟩
def MColPost (base : Nat) (P : List Cl) (q g : Nat) (pv : Value) (o : Mo) (m' : Mv) (w : World) (e : Ending) (w' : World) : Prop := (∃ r, e = .returned r) ∧ MaStep base P q g pv o m' w w'
structure CoPre (q : Nat) (m : Mv) : Prop where
  vis : ∀ n ∈ startsM m, 0 ≤ n → Vis m.goals m.h.cells n.toNat
  i64 : ∀ n ∈ startsM m, I64 n
  qr : ∀ v : Nat, v < q → I64 (m.query + (v : Nat))
  col : (collectF m.h (rootsM q m) (m.choices.reverse.map fun c => (c.top : Int)) (m.choices.reverse.map fun c => (c.trail : Int))).err = 0 →
    (collectF m.h (rootsM q m) (m.choices.reverse.map fun c => (c.top : Int)) (m.choices.reverse.map fun c => (c.trail : Int))).roots.length = (rootsM q m).length ∧
    (collectF m.h (rootsM q m) (m.choices.reverse.map fun c => (c.top : Int)) (m.choices.reverse.map fun c => (c.trail : Int))).tops.length = m.choices.length ∧
    (collectF m.h (rootsM q m) (m.choices.reverse.map fun c => (c.top : Int)) (m.choices.reverse.map fun c => (c.trail : Int))).mks.length = m.choices.length ∧
    (∀ x ∈ (collectF m.h (rootsM q m) (m.choices.reverse.map fun c => (c.top : Int)) (m.choices.reverse.map fun c => (c.trail : Int))).tops, 0 ≤ x ∧ x ≤ 1000000) ∧
    (∀ x ∈ (collectF m.h (rootsM q m) (m.choices.reverse.map fun c => (c.top : Int)) (m.choices.reverse.map fun c => (c.trail : Int))).mks, 0 ≤ x ∧ x ≤ 1000000)
section
variable {base : Nat} {P : List Cl} {q g : Nat} {pv hc ht : Value} {o : Mo} {m : Mv} {w : World}
theorem MvI.setC {n j : Nat} {u : Value} {y : Cm} {cb : Nat} (h : MvI base P q g pv hc ht o m w) (hn : n < m.choices.reverse.length) (hb : ownB o.cv = some cb) (hj : j < 4) (hy : cmV y = (cmV m.choices.reverse[n]).set j u) (hok : cmOk y) :
    MvI base P q g pv hc ht o { m with choices := (m.choices.reverse.set n y).reverse } (w.setCell ⟨cb, n * 4 + j, none⟩ u) ∧ Ch (MM g o) w (w.setCell ⟨cb, n * 4 + j, none⟩ u) := by
  have hap := h.apart
  have hch0 : Ch (fun b => b = cb) w (w.setCell ⟨cb, n * 4 + j, none⟩ u) := (Ch.refl (fun b => b = cb) w).setCell (p := ⟨cb, n * 4 + j, none⟩) (.inl rfl) _
  have hZ : ∀ b, b = cb → MM g o b := fun b e => .inr (.inr (.inl (e ▸ hb)))
  have hch : Ch (MM g o) w (w.setCell ⟨cb, n * 4 + j, none⟩ u) := hch0.mono fun b _ hb => hZ b hb
  refine ⟨⟨(Below.heap_setCell _ _ _ _ (fun e => hap.cg (by rw [hb]; exact congrArg some e.symm))).trans h.box, SlR.keeps McR_lasts h.prog (hch.keeps fun b hb' hA e => by have := (h.mm_lt b e).1; have := hA.1; have := hA.2; omega), mm_heap h.heap hch (MGrow.refl _ _), h.keepG hch0 fun b hb' e => hap.gc b hb' (e ▸ hb), ?_, h.keepO hch0 hZ (fun b hb' e => hap.co cb hb (e ▸ hb')) (MGrow.refl _ _) rfl, ⟨h.bg.1, Nat.le_trans h.bg.2 hch.size⟩, h.nowb, h.qb, h.fu, h.qq, h.gl, by simpa using h.cl, h.ol⟩, hch⟩
  rw [List.reverse_reverse]
  exact OwnF.set cmV_len h.chc hb hn hj hy hok
structure FstAt (B : Nat) (w : World) (gs : List Gm) (q : Nat) (query : Int) (ns : List Int) (vb : Nat) (sv : Value) (vis visR : List Nat) (v : Value) (wr : World) : Prop where
  bel : Below B w wr
  two : TwoN B wr (rootsTo q query gs visR) ns v sv
  marks : OwnB wr B (visB gs.length vis) (.slice (some ⟨vb, 0, none⟩) gs.length gs.length)
theorem FstAt.mark {B : Nat} {gs : List Gm} {query : Int} {ns : List Int} {vb : Nat} {sv v : Value} {vis visR : List Nat} {wr : World} (h : FstAt B w gs q query ns vb sv vis visR v wr) {k : Nat} (hk : k < gs.length) :
    FstAt B w gs q query ns vb sv (vis ++ [k]) visR v (wr.setCell ⟨vb, k, none⟩ (.bool true)) := by
  obtain ⟨hm, -, he, hB, hs⟩ := OwnB.mark h.marks (k := k) (by rw [visB_len]; exact hk)
  rw [visB_set] at hm
  obtain ⟨cm, hcm⟩ := own_ty h.marks.1 he
  have hv : ∀ b, ownB v = some b → b ≠ vb := fun b hb e => by
    obtain ⟨c, hc⟩ := own_ty h.two.a.1 hb
    rw [e] at hc
    exact absurd (blk_ty hc hcm) (by decide)
  have hsv : ∀ b, ownB sv = some b → b ≠ vb := fun b hb e => by
    obtain ⟨c, hc⟩ := own_ty h.two.b.1 hb
    rw [e] at hc
    exact absurd (blk_ty hc hcm) (by decide)
  refine ⟨h.bel.setCell hB _, ⟨h.two.a.kept fun b hb => Below.heap_setCell _ _ _ _ (hv b hb), h.two.b.kept fun b hb => Below.heap_setCell _ _ _ _ (hsv b hb), h.two.sep⟩, hm⟩
theorem FstAt.grow {B : Nat} {gs : List Gm} {query : Int} {ns : List Int} {vb : Nat} {sv v v2 : Value} {vis visR : List Nat} {wr w2 : World} {x : Int} {k : Nat} {cells : Array Value} (h : FstAt B w gs q query ns vb sv vis visR v wr) (hB : B ≤ wr.heap.size)
    (hx : x = ((gs[k]?).getD default).at_) (h1 : OwnN w2 B (rootsTo q query gs visR ++ [x]) v2) (hg : Grew (wr.alloc (.cells cells 3)) w2 v v2) : FstAt B w gs q query ns vb sv vis (visR ++ [k]) v2 w2 := by
  refine ⟨hg.below (h.bel.alloc hB _) (by simp; omega) (fun k hk => (h.two.a.lt k hk).1), ?_, ?_⟩
  · rw [rootsTo_next, ← hx]
    exact (h.two.below ((Below.refl _ wr).alloc (Nat.le_refl _) _)).app h1 hg
  · refine (h.marks.below ((Below.refl _ wr).alloc (Nat.le_refl _) (.cells cells 3))).kept fun b hb => hg.grown.block b (by have := (h.marks.lt b hb).2; simp; omega) fun e => ?_
    obtain ⟨c, hc⟩ := own_ty h.marks.1 hb
    obtain ⟨c2, hc2⟩ := own_ty h.two.a.1 e.symm
    exact absurd (blk_ty hc hc2) (by decide)
theorem MvI.setC2 {n : Nat} {x : Cm} {tv kv : Int} {cb : Nat} {cs' : List Cm} {h0 : Hp} {gs : List Gm} {nw qr : Int} {fl : Nat} {ou : List Ev} (h : MvI base P q g pv hc ht o ⟨h0, gs, cs'.reverse, nw, qr, fl, ou⟩ w) (hn : n < cs'.length) (hb : ownB o.cv = some cb) (hx : cs'[n] = x) (ht' : 0 ≤ tv ∧ tv ≤ 1000000) (hk' : 0 ≤ kv ∧ kv ≤ 1000000) :
    MvI base P q g pv hc ht o ⟨h0, gs, (cs'.set n ⟨x.goal, x.from_, tv.toNat, kv.toNat⟩).reverse, nw, qr, fl, ou⟩ ((w.setCell ⟨cb, n * 4 + 2, none⟩ (.int .i64 tv)).setCell ⟨cb, n * 4 + 3, none⟩ (.int .i64 kv)) ∧
      Ch (MM g o) w ((w.setCell ⟨cb, n * 4 + 2, none⟩ (.int .i64 tv)).setCell ⟨cb, n * 4 + 3, none⟩ (.int .i64 kv)) := by
  subst hx
  have hok := h.chc.2 cs'[n] (by simp)
  obtain ⟨k1, k2, k3, k4⟩ := hok
  have e1 : ((tv.toNat : Nat) : Int) = tv := Int.toNat_of_nonneg ht'.1
  have e2 : ((kv.toNat : Nat) : Int) = kv := Int.toNat_of_nonneg hk'.1
  obtain ⟨a1, a2⟩ := h.setC (n := n) (j := 2) (u := .int .i64 tv) (y := ⟨cs'[n].goal, cs'[n].from_, tv.toNat, cs'[n].trail⟩) (by simpa using hn) hb (by omega) (by simp [cmV, e1]) ⟨k1, k2, by show tv.toNat ≤ 1000000; omega, k4⟩
  simp only [List.reverse_reverse] at a1
  obtain ⟨a3, a4⟩ := a1.setC (n := n) (j := 3) (u := .int .i64 kv) (y := ⟨cs'[n].goal, cs'[n].from_, tv.toNat, kv.toNat⟩) (by simpa using hn) hb (by omega) (by simp [cmV, e2]) ⟨k1, k2, by show tv.toNat ≤ 1000000; omega, by show kv.toNat ≤ 1000000; omega⟩
  simp only [List.reverse_reverse, List.set_set] at a3
  exact ⟨a3, a2.trans a4 (fun b h => .inl h)⟩
theorem nums_mid {g : Nat} {o o' : Mo} {w w' : World} {l : List Int} {v : Value} (h : NumsR (MA g o) w l v) (hc : Ch (MM g o) w w') (hg : MGrow w o o') : NumsR (MA g o') w' l v := by
  obtain ⟨h1, h2⟩ := mm_mid hc hg
  exact SlR.mono numR_lasts (by omega) (SlR.keeps numR_lasts (SlR.mono (A' := fun b => MA g o b ∧ b < w.heap.size) numR_lasts (by omega) h (fun b hb hA => ⟨hA, hb⟩)) h1) (fun b _ hb => h2 b hb)
theorem nums_read {A : Nat → Prop} {w : World} {l : List Int} {a : Option Addr} {len cap : Nat} (h : NumsR A w l (.slice a len cap)) {k : Nat} (hk : k < l.length) :
    ∃ b off, a = some ⟨b, off, none⟩ ∧ A b ∧ b < w.heap.size ∧ w.cell? ⟨b, off + k, none⟩ = some (.int .i64 l[k]) ∧ I64 l[k] := by
  obtain ⟨a', cap', b, off, e, -, -, -, ha, he⟩ := SlR.at h
  simp only [Value.slice.injEq] at e
  obtain ⟨rfl, -, -⟩ := e
  obtain ⟨rfl, hA⟩ := ha (by omega)
  obtain ⟨h1, h2⟩ := num_cell he hA (Keeps.refl _ _) hk
  exact ⟨b, off, rfl, hA, World.block_lt_of_cell? w ⟨b, off + k, none⟩ h1, h1, h2⟩
theorem nums_val {A : Nat → Prop} {w : World} {l : List Int} {v : Value} (h : NumsR A w l v) : ∃ a cap, v = .slice a l.length cap ∧ l.length ≤ cap ∧ cap ≤ maxLen := by
  obtain ⟨a', cap', b, off, e, h1, h2, -⟩ := SlR.at h
  exact ⟨_, _, e, h1, h2⟩
theorem MvI.goalsOnly {w' : World} {gs' : List Gm} (h : MvI base P q g pv hc ht o m w) (hch0 : Ch (fun b => ownB o.gv = some b) w w') (hg : OwnG w' base gs' o.gv) (hl : gs'.length ≤ 6000) :
    MvI base P q g pv hc ht o { m with goals := gs' } w' ∧ Ch (MM g o) w w' := by
  have hap := h.apart
  have hZ : ∀ b, ownB o.gv = some b → MM g o b := fun b e => .inr (.inl e)
  have hch : Ch (MM g o) w w' := hch0.mono fun b _ hb => hZ b hb
  exact ⟨⟨(hch0.block g h.lt.1 (fun e => hap.gg e)).trans h.box, SlR.keeps McR_lasts h.prog (hch.keeps fun b hb' hA e => by have := (h.mm_lt b e).1; have := hA.1; have := hA.2; omega), mm_heap h.heap hch (MGrow.refl _ _), hg, h.keepC hch0 fun b hb' e => hap.gc b e hb', h.keepO hch0 hZ (fun b hb' e => hap.go b e hb') (MGrow.refl _ _) rfl, ⟨h.bg.1, Nat.le_trans h.bg.2 hch.size⟩, h.nowb, h.qb, h.fu, h.qq, hl, h.cl, h.ol⟩, hch⟩
structure SndAt (base : Nat) (o : Mo) (W2 : World) (gs : List Gm) (q : Nat) (R : List Int) (ns : List Int) (vb : Nat) (sv : Value) (vis visG : List Nat) (wr : World) : Prop where
  gl : OwnG wr base (goalsTo R q visG gs) o.gv
  ch : Ch (fun b => ownB o.gv = some b) W2 wr
  marks : OwnB wr W2.heap.size (visB gs.length vis) (.slice (some ⟨vb, 0, none⟩) gs.length gs.length)
  st : OwnN wr W2.heap.size ns sv
  lt : ∀ b, ownB o.gv = some b → b < W2.heap.size
theorem SndAt.mark {W2 wr : World} {gs : List Gm} {R ns : List Int} {vb : Nat} {sv : Value} {vis visG : List Nat} (h : SndAt base o W2 gs q R ns vb sv vis visG wr) {k : Nat} (hk : k < gs.length) :
    SndAt base o W2 gs q R ns vb sv (vis ++ [k]) visG (wr.setCell ⟨vb, k, none⟩ (.bool true)) := by
  obtain ⟨hm, -, he, hB, hs⟩ := OwnB.mark h.marks (k := k) (by rw [visB_len]; exact hk)
  rw [visB_set] at hm
  obtain ⟨cm, hcm⟩ := own_ty h.marks.1 he
  have hsv : ∀ b, ownB sv = some b → b ≠ vb := fun b hb e => by
    obtain ⟨c, hc⟩ := own_ty h.st.1 hb
    rw [e] at hc
    exact absurd (blk_ty hc hcm) (by decide)
  exact ⟨h.gl.kept fun b hb => Below.heap_setCell _ _ _ _ (by have := h.lt b hb; show b ≠ vb; omega), h.ch.setCell (p := ⟨vb, k, none⟩) (.inr hB) _, hm, h.st.kept fun b hb => Below.heap_setCell _ _ _ _ (hsv b hb), h.lt⟩
theorem SndAt.turn {W2 wr : World} {gs : List Gm} {R ns : List Int} {vb gb : Nat} {sv : Value} {vis visG : List Nat} (h : SndAt base o W2 gs q R ns vb sv vis visG wr) {k : Nat} (hk : k < gs.length) (hm : k ∉ visG) (hb : ownB o.gv = some gb) (hI : I64 ((R[q + visG.length]?).getD 0)) :
    SndAt base o W2 gs q R ns vb sv vis (visG ++ [k]) (wr.setCell ⟨gb, k * 3, none⟩ (.int .i64 ((R[q + visG.length]?).getD 0))) := by
  have hgb := h.lt gb hb
  have hk2 : k < (goalsTo R q visG gs).length := by rw [goalsTo_len]; exact hk
  have hok := h.gl.2 _ (List.getElem_mem hk2)
  rw [goalsTo_old hk hm] at hok
  refine ⟨?_, h.ch.setCell (p := ⟨gb, k * 3, none⟩) (.inl hb) _, h.marks.kept fun b hb' => Below.heap_setCell _ _ _ _ (by have := (h.marks.lt b hb').1; show b ≠ gb; omega), h.st.kept fun b hb' => Below.heap_setCell _ _ _ _ (by have := (h.st.lt b hb').1; show b ≠ gb; omega), h.lt⟩
  rw [← goalsTo_step hk hm]
  have := OwnF.set (y := (⟨(R[q + visG.length]?).getD 0, gs[k].bar, gs[k].next⟩ : Gm)) (u := .int .i64 ((R[q + visG.length]?).getD 0)) gmV_len h.gl hb (i := k) (j := 0) hk2 (by omega) (by rw [goalsTo_old hk hm]; rfl) ⟨hI, hok.2.1, hok.2.2⟩
  simpa using this
theorem SndAt.drew {W2 wr : World} {gs : List Gm} {R ns : List Int} {vb : Nat} {sv : Value} {vis visG : List Nat} (h : SndAt base o W2 gs q R ns vb sv vis visG wr) : SndAt base o W2 gs q R ns vb sv vis visG wr.drew :=
  have hb : Below wr.heap.size wr wr.drew := (Below.refl _ _).drew
  ⟨h.gl.below hb, h.ch.drew, h.marks.below hb, h.st.below hb, h.lt⟩
def StartsAt (m : Mv) (w0 : World) (v48 v49 : Value) (wx : World) : Prop := ∃ (sa : Option Addr) (sc : Nat), v48 = .slice sa (startsM m).length sc ∧ v49 = .int .i64 ((startsM m).length : Int) ∧ Below w0.heap.size w0 wx ∧ OwnN wx w0.heap.size (startsM m) (.slice sa (startsM m).length sc)
set_option maxRecDepth 100000 in
set_option maxHeartbeats 16000000 in
theorem mcollect_ok (h : MvI base P q g pv hc ht o m w) (hpre : CoPre q m) :
    Calls Try.prog 53 #[.pointer (some ⟨g, 0, none⟩)] w (MColPost base P q g pv o (collectM q m) w) := by
  have HU := hid h
  have HPRE := hid hpre
  have HMM := hid (show ∀ b, MM g o b → b < w.heap.size from fun b hb => (h.mm_lt b hb).2)
  obtain ⟨hl1, hl2⟩ := h.lt
  obtain ⟨gv, cv, ov⟩ := o
  obtain ⟨pa, pc, ga, gc, ca, cc, oa, oc, ha, hac, hb, hbc, rfl, rfl, rfl, rfl, rfl, rfl, -, -, g1, g2, c1, c2, -⟩ := h.vals
  obtain ⟨b0, b1, b2, b3, b4, b5, b6, b7, b8, b9, bf⟩ := box10 h.box
  simp only at b3 b4 b9
  unfold maxLen at g2 c2
  have hq8 := h.qq
  have hgl := h.gl
  have hcl := h.cl
  clear h hpre
  go_enter Try.func53, Try.ntmps53
  go_wp2_with fail
  -- the query's places
  go_loopw [22, 2] (fun i v wr => ∃ (j : Nat), j ≤ q ∧ i = .int .i64 (j : Int) ∧ Below w.heap.size w wr ∧ OwnN wr w.heap.size ((List.range j).map fun v => m.query + (v : Nat)) v) (fun i _ _ => q - (intOf i).toNat)
  case atStart => exact ⟨0, Nat.zero_le _, rfl, Below.refl _ _, OwnF.nil⟩
  case round =>
    obtain ⟨j, hj, rfl, hbw, hown⟩ := hrel
    have HB := hid hbw
    have HO := hid hown
    have hz := hbw.size
    have hj0 : (0 : Int) ≤ (j : Int) := Int.natCast_nonneg _
    clear hbw hown b0 b1 b2 b3 b4 b5 b6 b7 b8 b9 bf
    obtain ⟨b0, b1, b2, b3, b4, b5, b6, b7, b8, b9, bf⟩ := box10 (HU.out.below HB.out).box
    simp only at b3 b4 b9
    have hgl2 := (HU.out.below HB.out).lt.1
    obtain ⟨va, vc, hv, hvl, hvm⟩ := OwnF.val HO.out
    rw [show ((List.range j).map fun v => m.query + (v : Nat)).length = j by simp] at hv hvl
    subst hv
    unfold maxLen at hvm
    by_cases hlt : j < q
    · have hlt' : (j : Int) < (q : Int) := by omega
      have hI := HPRE.out.qr j hlt
      have HI := hid hI
      have hwr : IntKind.i64.wrap (m.query + (j : Int)) = m.query + (j : Int) := IntWalk.i64_in _ hI
      have HOR := hid (HO.out.ownR numV_len (fun _ => True))
      have HTK := hid (show ((List.range (j + 1)).map fun v => m.query + (v : Nat)) = ((List.range j).map fun v => m.query + (v : Nat)) ++ [m.query + (j : Int)] by simp [List.range_succ])
      have HL := hid (show ((List.range j).map fun v => m.query + (v : Nat)).length < 4194304 ∧ w.heap.size ≤ wr.heap.size from ⟨by simp; omega, hz⟩)
      clear hI
      go_wp2_with (at_builtin; go_must (refine wpList_app1 rfl (.tmp 25) (.tmp 32) 28 rfl w.heap.size 3 1 8 tyNums numR_lasts (A := fun _ => True) (.slice va j vc) ((List.range j).map fun v => m.query + (v : Nat)) rfl HOR.out (m.query + (j : Int)) [.int .i64 (m.query + (j : Int))] rfl rfl ⟨HI.out, rfl⟩ HL.out ?_); go_must (intro v2 w2 hown2 hgrew))
      have HO2 := hid (OwnF.of_ownR hown2)
      have HB2 := hid (hgrew.below (HB.out.alloc hz _) (by simp; omega) (fun k hk => (HO.out.lt k hk).1))
      clear hown2 hgrew
      go_roundw
      case rel => exact ⟨j + 1, by omega, by go_num, HB2.out, by rw [HTK.out]; exact HO2.out⟩
      case measure => simp [intOf]; omega
    · have hje : j = q := by omega
      subst hje
      have HV := hid (HU.out.below HB.out)
      have HO1 := hid (show OwnN wr w.heap.size (rootsTo j m.query m.goals []) (.slice va j vc) from by rw [rootsTo, List.map_nil, List.append_nil]; exact HO.out)
      clear HO hlt
      have hgl0 : (0 : Int) ≤ (m.goals.length : Int) := Int.natCast_nonneg _
      have hgl6 : (m.goals.length : Int) ≤ 6000 := by omega
      have qM : ∀ W : World, (Instr.makeSlice 79 (.int .i64 (m.goals.length : Int)) (.int .i64 (m.goals.length : Int))).run Try.prog W = .ok (.slice (some ⟨W.heap.size, 0, none⟩) m.goals.length m.goals.length) (W.alloc (.cells (Array.replicate m.goals.length (.bool false)) 4)) := fun W => make_one (bytes := 1) W Try.underlying79 (by kernel_rfl) rfl _ (by omega) (by omega)
      go_wp2_with fail
      obtain ⟨vb, hvb⟩ : ∃ b, b = wr.heap.size := ⟨_, rfl⟩
      obtain ⟨W6, hW6⟩ : ∃ W, W = wr.alloc (.cells (Array.replicate m.goals.length (.bool false)) 4) := ⟨_, rfl⟩
      have HM6 := hid (show OwnB W6 w.heap.size (visB m.goals.length []) (.slice (some ⟨vb, 0, none⟩) m.goals.length m.goals.length) by
        rw [visB_nil, hW6, hvb]; exact OwnF.rebase (OwnB.fresh wr m.goals.length (by unfold maxLen; omega)) (fun k hk => by simp [ownB] at hk; omega))
      have HB6 := hid (show Below w.heap.size w W6 by rw [hW6]; exact HB.out.alloc hz _)
      have HO6 := hid (show OwnN W6 w.heap.size (rootsTo j m.query m.goals []) (.slice va j vc) by rw [hW6]; exact HO1.out.below ((Below.refl _ _).alloc (Nat.le_refl _) _))
      have HV6 := hid (HU.out.below HB6.out)
      have hz6 := HB6.out.size
      rw [← hvb, ← hW6]
      clear hvb hW6 qM HB HO1 HV hz b0 b1 b2 b3 b4 b5 b6 b7 b8 b9 bf
      go_upto_region 7 with fail
      go_cut [48, 49, 50] (fun v48 v49 v50 wx => StartsAt m W6 v48 v49 wx ∧ v50 = .int .i64 0)
      case first => as_aux_lemma =>
        have HNOW := hid (fun (W : World) (hbw : Below W6.heap.size W6 W) => (show W.cell? ⟨g, 5, none⟩ = some (.int .i64 m.now) from (box10 (HV6.out.below hbw).box).2.2.2.2.2.1))
        have HSTR := hid (fun (W : World) (hbw : Below W6.heap.size W6 W) => mstarted_ok (HV6.out.below hbw))
        have HF : ∀ {k : Nat}, Below W6.heap.size W6 W6.drew := fun {k} => (Below.refl _ _).drew
        have hI := hid (show I64 m.now from HV6.out.nowb)
        have hlm := hid (show (m.choices.reverse.map fun c => (c.goal : Int)).length + 1 ≤ 4194304 by have := HV6.out.cl; (try simp only at this); simp; omega)
        have hsl := hid (show (startsM m) = (m.choices.reverse.map fun c => (c.goal : Int)) ++ [m.now] from rfl)
        refine wp_region_F (F := fun k w' => Below W6.heap.size W6 w') (by kernel_rfl) ?_
        refine wpTk (i := 0) (v := ?_) rfl (Or.inl ⟨by rfl, ?_⟩) (HF (k := 0)) ?_
        rotate_left
        · (intro w' hw; clear hw; go_simp <;> with_reducible rfl)
        try simp only [Act.put, List.setIfInBounds_toArray, List.set_cons_zero, List.set_cons_succ]
        refine wpTk (i := 2) (v := ?_) rfl (Or.inl ⟨by rfl, ?_⟩) (HF (k := 0)) ?_
        rotate_left
        · (intro w' hw; clear hw; go_simp <;> with_reducible rfl)
        try simp only [Act.put, List.setIfInBounds_toArray, List.set_cons_zero, List.set_cons_succ]
        refine wpTk (i := 3) (v := ?_) rfl (Or.inl ⟨by rfl, ?_⟩) (HF (k := 0)) ?_
        rotate_left
        · (intro w' hw; clear hw; go_simp <;> with_reducible rfl)
        try simp only [Act.put, List.setIfInBounds_toArray, List.set_cons_zero, List.set_cons_succ]
        refine wpTk (i := 4) (v := ?_) rfl (Or.inl ⟨by rfl, ?_⟩) (HF (k := 0)) ?_
        rotate_left
        · (intro w' hw; clear hw; go_simp <;> with_reducible rfl)
        try simp only [Act.put, List.setIfInBounds_toArray, List.set_cons_zero, List.set_cons_succ]
        refine wpTk (i := 5) (v := ?_) rfl (Or.inl ⟨by rfl, ?_⟩) (HF (k := 0)) ?_
        rotate_left
        · (intro w' hw; have q0 := HNOW.out w' hw; clear hw; go_simp <;> with_reducible rfl)
        try simp only [Act.put, List.setIfInBounds_toArray, List.set_cons_zero, List.set_cons_succ]
        refine wpTk (i := 9) (v := ?_) rfl (Or.inl ⟨by rfl, ?_⟩) (HF (k := 0)) ?_
        rotate_left
        · (intro w' hw; clear hw; go_simp <;> with_reducible rfl)
        try simp only [Act.put, List.setIfInBounds_toArray, List.set_cons_zero, List.set_cons_succ]
        clear HF
        have HBa := hid (show Below W6.heap.size W6 W6.drew from (Below.refl _ _).drew)
        generalize W6.drew = Wa at *
        refine wpAnyF_two (i := 1) (j := 6) (by kernel_rfl) (wpOp_run rfl (by rfl) ?_) (wpOp_run rfl (by rfl) ?_)
        · go_simp
          refine (HSTR.out Wa HBa.out).mono ?_
          rintro e Wc ⟨sv, rfl, hb5, hown5⟩
          have HBc := hid (HBa.out.trans (hb5.mono HBa.out.size))
          have HOc := hid (OwnF.rebase hown5 (base' := W6.heap.size) (fun k hk => by have h1 := (hown5.lt k hk).1; have h2 := HBa.out.size; omega))
          clear hb5 hown5
          refine ⟨fun _ _ _ => HBc.out, ?_⟩
          try simp only [Act.put, List.setIfInBounds_toArray, List.set_cons_zero, List.set_cons_succ]
          refine wpAnyF_one (i := 6) (by kernel_rfl) (wpOp_run rfl (by rfl) ?_)
          go_simp
          have HBb := hid (HBc.out.alloc HBc.out.size (.cells #[.int .i64 m.now] 3))
          obtain ⟨bz, hbz⟩ : ∃ bz, bz = Wc.heap.size := ⟨_, rfl⟩
          have hzs : (Wc.alloc (.cells #[.int .i64 m.now] 3)).heap.size = bz + 1 := by rw [hbz]; simp
          have HZb := hid (show NumsR (fun b => b = bz) (Wc.alloc (.cells #[.int .i64 m.now] 3)) [m.now] (.slice (some ⟨bz, 0, none⟩) 1 1) from by
            rw [hbz]
            exact made1 hI.out)
          have HOb := hid (HOc.out.below ((Below.refl _ Wc).alloc (Nat.le_refl _) (.cells #[.int .i64 m.now] 3)))
          have hne : ∀ b, b = bz → ownB sv ≠ some b := fun b hb e => by have := (HOc.out.lt b e).2; omega
          rw [← hbz]
          clear hbz
          refine ⟨fun _ _ _ => HBb.out, ?_⟩
          generalize Wc.alloc (.cells #[.int .i64 m.now] 3) = Wb at *
          try simp only [Act.put, List.setIfInBounds_toArray, List.set_cons_zero, List.set_cons_succ]
          refine wpAnyF_one (i := 7) (by kernel_rfl) (wpOp_run rfl (by rfl) ?_)
          have HORb := hid (show OwnR _ W6.heap.size 3 1 numR (fun _ => True) (m.choices.reverse.map fun c => (c.goal : Int)) sv from HOb.out.ownR numV_len _)
          refine wp_appS (.tmp 42) (.tmp 47) 28 rfl W6.heap.size 3 1 8 tyNums numR_lasts (A := fun _ => True) sv (m.choices.reverse.map fun c => (c.goal : Int)) rfl HORb.out (.slice (some ⟨bz, 0, none⟩) 1 1) rfl [m.now] (SlR.mono numR_lasts (by omega) HZb.out (fun b _ hb => ⟨trivial, hne b hb⟩)) hlm.out HBb.out.size ?_
          intro v2 w2 hown2 hgrew
          have HO2 := hid (OwnF.of_ownR hown2)
          have HB2 := hid (hgrew.below HBb.out HBb.out.size (fun k hk => (HOb.out.lt k hk).1))
          obtain ⟨va2, vc2, hv2, hvl2, hvm2⟩ := OwnF.val HO2.out
          rw [← hsl.out] at hv2 HO2
          subst hv2
          clear hown2 hgrew
          refine ⟨fun _ _ _ => HB2.out, ?_⟩
          try simp only [Act.put, List.setIfInBounds_toArray, List.set_cons_zero, List.set_cons_succ]
          refine wpAnyF_one (i := 8) (by kernel_rfl) (wpOp_run rfl (by rfl) ?_)
          go_simp
          refine ⟨fun _ _ h => h, wpAnyF_done (by kernel_rfl) ?_ _⟩
          try simp only [Act.put, List.setIfInBounds_toArray, List.set_cons_zero, List.set_cons_succ]
          go_wp2_with fail
          go_meet
          case rel => exact ⟨⟨va2, vc2, rfl, rfl, HB2.out, HO2.out⟩, rfl⟩
        · go_simp
          have HBb := hid (HBa.out.alloc HBa.out.size (.cells #[.int .i64 m.now] 3))
          obtain ⟨bz, hbz⟩ : ∃ bz, bz = Wa.heap.size := ⟨_, rfl⟩
          have hzs : (Wa.alloc (.cells #[.int .i64 m.now] 3)).heap.size = bz + 1 := by rw [hbz]; simp
          have HZb := hid (show NumsR (fun b => b = bz) (Wa.alloc (.cells #[.int .i64 m.now] 3)) [m.now] (.slice (some ⟨bz, 0, none⟩) 1 1) from by
            rw [hbz]
            exact made1 hI.out)
          rw [← hbz]
          clear hbz
          refine ⟨fun _ _ _ => HBb.out, ?_⟩
          generalize Wa.alloc (.cells #[.int .i64 m.now] 3) = Wb at *
          try simp only [Act.put, List.setIfInBounds_toArray, List.set_cons_zero, List.set_cons_succ]
          refine wpAnyF_one (i := 1) (by kernel_rfl) (wpOp_run rfl (by rfl) ?_)
          go_simp
          refine (HSTR.out Wb HBb.out).mono ?_
          rintro e Wc ⟨sv, rfl, hb5, hown5⟩
          have HBc := hid (HBb.out.trans (hb5.mono HBb.out.size))
          have HOc := hid (OwnF.rebase hown5 (base' := W6.heap.size) (fun k hk => by have h1 := (hown5.lt k hk).1; have h2 := HBb.out.size; omega))
          have HZc := hid (SlR.keeps numR_lasts HZb.out (Keeps.of_below hb5))
          have hzb := hb5.size
          have HSVx := hid (fun k (hk : ownB sv = some k) => (hown5.lt k hk).1)
          clear hb5 hown5
          refine ⟨fun _ _ _ => HBc.out, ?_⟩
          try simp only [Act.put, List.setIfInBounds_toArray, List.set_cons_zero, List.set_cons_succ]
          have hne : ∀ b, b = bz → ownB sv ≠ some b := fun b hb e => by have := HSVx.out b e; omega
          clear HBb HZb
          have HBb := hid HBc.out
          have HOb := hid HOc.out
          have HZb := hid HZc.out
          refine wpAnyF_one (i := 7) (by kernel_rfl) (wpOp_run rfl (by rfl) ?_)
          have HORb := hid (show OwnR _ W6.heap.size 3 1 numR (fun _ => True) (m.choices.reverse.map fun c => (c.goal : Int)) sv from HOb.out.ownR numV_len _)
          refine wp_appS (.tmp 42) (.tmp 47) 28 rfl W6.heap.size 3 1 8 tyNums numR_lasts (A := fun _ => True) sv (m.choices.reverse.map fun c => (c.goal : Int)) rfl HORb.out (.slice (some ⟨bz, 0, none⟩) 1 1) rfl [m.now] (SlR.mono numR_lasts (by omega) HZb.out (fun b _ hb => ⟨trivial, hne b hb⟩)) hlm.out HBb.out.size ?_
          intro v2 w2 hown2 hgrew
          have HO2 := hid (OwnF.of_ownR hown2)
          have HB2 := hid (hgrew.below HBb.out HBb.out.size (fun k hk => (HOb.out.lt k hk).1))
          obtain ⟨va2, vc2, hv2, hvl2, hvm2⟩ := OwnF.val HO2.out
          rw [← hsl.out] at hv2 HO2
          subst hv2
          clear hown2 hgrew
          refine ⟨fun _ _ _ => HB2.out, ?_⟩
          try simp only [Act.put, List.setIfInBounds_toArray, List.set_cons_zero, List.set_cons_succ]
          refine wpAnyF_one (i := 8) (by kernel_rfl) (wpOp_run rfl (by rfl) ?_)
          go_simp
          refine ⟨fun _ _ h => h, wpAnyF_done (by kernel_rfl) ?_ _⟩
          try simp only [Act.put, List.setIfInBounds_toArray, List.set_cons_zero, List.set_cons_succ]
          go_wp2_with fail
          go_meet
          case rel => exact ⟨⟨va2, vc2, rfl, rfl, HB2.out, HO2.out⟩, rfl⟩
      case rest =>
        obtain ⟨⟨sa, sc, rfl, rfl, hbc0, hownc⟩, rfl⟩ := hcut
        have HF0 := hid (show FstAt w.heap.size w m.goals j m.query (startsM m) vb (.slice sa (startsM m).length sc) (needTo m.goals (startsM m) 0) (needTo m.goals (startsM m) 0) (.slice va j vc) wc from
          ⟨HB6.out.trans (hbc0.mono hz6), ⟨HO6.out.below hbc0, OwnF.rebase hownc (fun k hk => by have := (hownc.lt k hk).1; omega), fun k e e2 => by have h1 := (HO6.out.lt k e).2; have h2 := (hownc.lt k e2).1; omega⟩, HM6.out.below hbc0⟩)
        obtain ⟨ns, hns⟩ : ∃ ns, ns = startsM m := ⟨_, rfl⟩
        have HNS := hid hns
        have HNV := hid (fun n (h : n ∈ ns) => HPRE.out.vis n (hns ▸ h))
        have HNI := hid (fun n (h : n ∈ ns) => HPRE.out.i64 n (hns ▸ h))
        have hnl : ns.length ≤ 1001 := by rw [hns]; simp [startsM]; omega
        rw [← hns] at HF0 hownc
        rw [← hns]
        have hscm := hid (OwnF.val hownc)
        have hnl0 : (0 : Int) ≤ (ns.length : Int) := Int.natCast_nonneg _
        clear hbc0 hownc hns HM6 HO6
        go_wp2_with fail
        go_loopw [50, 2] (fun i v wr => ∃ (i1 : Nat), i1 ≤ ns.length ∧ i = .int .i64 (i1 : Int) ∧ FstAt w.heap.size w m.goals j m.query ns vb (.slice sa ns.length sc) (needTo m.goals ns i1) (needTo m.goals ns i1) v wr) (fun i _ _ => ns.length - (intOf i).toNat)
        case atStart => exact ⟨0, Nat.zero_le _, rfl, HF0.out⟩
        case round =>
          obtain ⟨i1, hi1, rfl, hf1⟩ := hrel
          have HF1 := hid hf1
          have hi0 : (0 : Int) ≤ (i1 : Int) := Int.natCast_nonneg _
          clear hf1 HF0
          by_cases hli : i1 < ns.length
          · have hli' : (i1 : Int) < (ns.length : Int) := by omega
            obtain ⟨sg, scp, hse, -, -, -, -, -, hsl, -, hsc⟩ := OwnF.at numV_len HF1.out.two.b (by omega)
            simp only [Value.slice.injEq, true_and] at hse
            obtain ⟨rfl, rfl⟩ := hse
            have hs0 := hsc i1 hli 0 _ rfl
            simp only [Nat.mul_one, Nat.add_zero] at hs0
            have HI1 := hid (HNI.out _ (List.getElem_mem hli))
            have HU1 := hid (show Under m.goals m.h.cells (needTo m.goals ns (i1 + 1)) ns[i1] (needTo m.goals ns i1) by
              rw [needTo_next hli]; exact Under.start (needTo_lt HNV.out i1) (needTo_nd ns i1) (HNV.out _ (List.getElem_mem hli)))
            generalize ns[i1] = n0 at *
            clear hsc
            go_wp2_with fail
            clear hs0 hsl
            go_loopw [8, 2] (fun nv v wr => ∃ (n : Int) (vis : List Nat), nv = .int .i64 n ∧ Under m.goals m.h.cells (needTo m.goals ns (i1 + 1)) n vis ∧ I64 n ∧ FstAt w.heap.size w m.goals j m.query ns vb (.slice (some ⟨sg, 0, none⟩) ns.length sc) vis vis v wr) (fun nv _ _ => (intOf nv + 1).toNat)
            case atStart => exact ⟨n0, _, rfl, HU1.out, HI1.out, HF1.out⟩
            case round =>
              obtain ⟨n, vis, rfl, hun, hni, hf2⟩ := hrel
              have HUN := hid hun
              have HF2 := hid hf2
              clear hun hf2 HU1 HF1 HI1
              by_cases hn0 : n < 0
              · have hT := hid (HUN.out.neg hn0)
                have hnn : ¬ (0 ≤ n) := by omega
                go_wp2_with fail
                go_roundw
                case rel => exact ⟨i1 + 1, by omega, by go_num, by rw [hT.out]; exact HF2.out⟩
                case measure => simp [intOf]; omega
              · obtain ⟨k, rfl⟩ := Int.eq_ofNat_of_zero_le (show 0 ≤ n by omega)
                obtain ⟨hkl, hdn⟩ := HUN.out.down (by omega)
                rw [Int.toNat_natCast] at hkl hdn
                have hk0 : (0 : Int) ≤ (k : Int) := Int.natCast_nonneg _
                have hk1 : (k : Int) < (m.goals.length : Int) := by omega
                have hbz2 := HF2.out.bel.size
                have hvm0 := OwnB.cells HF2.out.marks k (by rw [visB_len]; exact hkl)
                rw [visB_get] at hvm0
                obtain ⟨hvbg, hvbl⟩ := HF2.out.marks.lt vb (by simp [ownB]; intro h; simp [h] at hkl)
                by_cases hmem : k ∈ vis
                · have hT := hid (HUN.out.seen (by omega) (by rw [Int.toNat_natCast]; exact hmem))
                  rw [decide_eq_true hmem] at hvm0
                  clear hmem hdn hn0
                  go_wp2_with fail
                  go_roundw
                  case rel => exact ⟨i1 + 1, by omega, by go_num, by rw [hT.out]; exact HF2.out⟩
                  case measure => simp [intOf]; omega
                · have HUN2 := hid (HUN.out.next (by omega) (by rw [Int.toNat_natCast]; exact hmem))
                  rw [Int.toNat_natCast] at HUN2
                  rw [decide_eq_false hmem] at hvm0
                  have HF3 := hid (HF2.out.mark hkl)
                  clear hmem hn0
                  have HV3 := hid (HU.out.below HF2.out.bel)
                  obtain ⟨b0, b1, b2, b3, b4, b5, b6, b7, b8, b9, bf⟩ := box10 HV3.out.box
                  simp only at b3
                  have hgl3 := HV3.out.lt.1
                  obtain ⟨gb, rfl, hogb, hgbl, -, -, e0, e1, e2, eok⟩ := OwnG.cells HV3.out.goals hkl
                  have hgb0 := hid (HMM.out gb (.inr (.inl hogb)))
                  have hgbv : gb ≠ vb := by have := hgb0.out; omega
                  have hgv : g ≠ vb := by omega
                  have hcs := cell_set
                  obtain ⟨-, hfv, -⟩ := OwnB.mark HF2.out.marks (k := k) (by rw [visB_len]; exact hkl)
                  rw [List.getElem?_eq_getElem hkl] at HUN2
                  simp only [Option.getD_some] at HUN2
                  have HGK := hid (show m.goals[k].at_ = ((m.goals[k]?).getD default).at_ by rw [List.getElem?_eq_getElem hkl]; rfl)
                  have HIN := hid eok.2.1
                  have HIA := hid eok.1
                  have hz3 := HF3.out.bel.size
                  obtain ⟨xa, xc, hxe, hxl, hxm⟩ := OwnF.val HF2.out.two.a
                  rw [rootsTo_len] at hxe hxl
                  have hvl := hid (show vis.length ≤ 6000 by have := HUN.out.few; omega)
                  have HOR := hid (show OwnR _ w.heap.size 3 1 numR (fun _ => True) (rootsTo j m.query m.goals vis) _ from HF3.out.two.a.ownR numV_len _)
                  have HL := hid (show (rootsTo j m.query m.goals vis).length < 4194304 ∧ w.heap.size ≤ (wr.setCell ⟨vb, k, none⟩ (.bool true)).heap.size from ⟨by rw [rootsTo_len]; have := hvl.out; omega, hz3⟩)
                  rw [List.getElem?_eq_getElem hkl] at hdn
                  have HDN := hid (show m.goals[k].next < (k : Int) from hdn)
                  obtain ⟨gk, hgk⟩ : ∃ gk, gk = m.goals[k] := ⟨_, rfl⟩
                  rw [← hgk] at e0 e1 e2 eok HUN2 HGK HIN HIA HDN
                  have HGE := hid hgk
                  subst hxe
                  clear hz3 hgk hdn
                  go_wp2_with (at_builtin; go_must (refine wpList_app1 rfl (.tmp 66) (.tmp 75) 28 rfl w.heap.size 3 1 8 tyNums numR_lasts (A := fun _ => True) _ (rootsTo j m.query m.goals vis) rfl HOR.out gk.at_ [.int .i64 gk.at_] (by simp only [World.size_setCell]; rfl) rfl ⟨HIA.out, rfl⟩ HL.out ?_); go_must (intro v2 w2 hown2 hgrew; have HF4 := hid (FstAt.grow HF3.out HL.out.2 HGK.out (OwnF.of_ownR hown2) hgrew); clear hown2 hgrew b0 b1 b2 b3 b4 b5 b6 b7 b8 b9 bf e0 e1 e2 eok hbz2; have hbz4 := HF4.out.bel.size; have HV4 := hid (HU.out.below HF4.out.bel); obtain ⟨b0, b1, b2, b3, b4, b5, b6, b7, b8, b9, bf⟩ := box10 HV4.out.box; simp only at b3; obtain ⟨gb4, hgb4, -, hgbl4, -, -, e0, e1, e2, -⟩ := OwnG.cells HV4.out.goals hkl; simp only [Option.some.injEq, Addr.mk.injEq, and_true] at hgb4; subst hgb4; rw [← HGE.out] at e0 e1 e2; have hgl4 := HV4.out.lt.1))
                  go_roundw
                  case rel => exact ⟨gk.next, vis ++ [k], rfl, HUN2.out, HIN.out, HF4.out⟩
                  case measure => have := HDN.out; simp [intOf]; omega
          · have hT := hid (needTo_all (gs := m.goals) (ns := ns) (j := i1) (by omega))
            have hf5 := HF1.out
            rw [hT.out] at hf5
            obtain ⟨ra, rc, hre, hrl, hrm⟩ := OwnF.val hf5.two.a
            rw [rootsTo_len] at hre hrl
            subst hre
            have HF5 := hid hf5
            obtain ⟨W5, hW5⟩ : ∃ W5 : World, W5 = wr := ⟨_, rfl⟩
            rw [← hW5] at HF5
            have HV5 := hid (HU.out.below HF5.out.bel)
            have hz5 := HF5.out.bel.size
            obtain ⟨b0, b1, b2, b3, b4, b5, b6, b7, b8, b9, bf⟩ := box10 HV5.out.box
            simp only at b4
            have hgl5 := HV5.out.lt.1
            have hcl0 : (0 : Int) ≤ (m.choices.length : Int) := Int.natCast_nonneg _
            rw [← hW5]
            have hli' : (ns.length : Int) ≤ (i1 : Int) := by omega
            clear hf5 HF1 hT hli hW5
            go_wp2_with fail
            clear b0 b1 b2 b3 b4 b5 b6 b7 b8 b9 bf
            obtain ⟨cs, hcse⟩ : ∃ cs, cs = m.choices.reverse := ⟨_, rfl⟩
            have hclen : m.choices.length = cs.length := by rw [hcse, List.length_reverse]
            have HCS := hid hcse
            have HCH5 := hid (show OwnM W5 base cs (.slice ca cs.length cc) by have := HV5.out.chc; rw [← hcse] at this; simp only at this; rwa [hclen] at this)
            rw [hclen]
            rw [hclen] at hcl c1 hcl0
            have HCL := hid hclen
            clear hcse hclen
            go_loopw [91, 3, 4] (fun i tv kv wr => ∃ (j4 : Nat), j4 ≤ cs.length ∧ i = .int .i64 (j4 : Int) ∧ Below W5.heap.size W5 wr ∧ TwoN W5.heap.size wr ((cs.take j4).map fun c => (c.top : Int)) ((cs.take j4).map fun c => (c.trail : Int)) tv kv) (fun i _ _ _ => cs.length - (intOf i).toNat)
            case atStart => exact ⟨0, Nat.zero_le _, rfl, Below.refl _ _, TwoN.nil _ _⟩
            case round =>
              obtain ⟨j4, hj4, rfl, hb4, htwo⟩ := hrel
              have HB4 := hid hb4
              have HTW := hid htwo
              have hzr4 := hb4.size
              have hj40 : (0 : Int) ≤ (j4 : Int) := Int.natCast_nonneg _
              clear hb4 htwo
              by_cases hl4 : j4 < cs.length
              · have hl4' : (j4 : Int) < (cs.length : Int) := by omega
                obtain ⟨cb, rfl, hocb, hcbl, -, -, d0, d1, d2, d3, dok⟩ := OwnM.cells (HCH5.out.below HB4.out) hl4
                have HTK1 := hid (show (cs.take (j4 + 1)).map (fun c => (c.top : Int)) = (cs.take j4).map (fun c => (c.top : Int)) ++ [(cs[j4].top : Int)] by
                  rw [List.take_succ_eq_append_getElem hl4, List.map_append, List.map_singleton])
                have HTK2 := hid (show (cs.take (j4 + 1)).map (fun c => (c.trail : Int)) = (cs.take j4).map (fun c => (c.trail : Int)) ++ [(cs[j4].trail : Int)] by
                  rw [List.take_succ_eq_append_getElem hl4, List.map_append, List.map_singleton])
                generalize cs[j4] = x at *
                have HI1 := hid (show I64 (x.top : Int) by have := dok.2.2.1; unfold I64; omega)
                have HI2 := hid (show I64 (x.trail : Int) by have := dok.2.2.2; unfold I64; omega)
                obtain ⟨W8, hW8⟩ : ∃ W8, W8 = wr.alloc (.cells #[.int .i64 (x.goal : Int), .int .i64 (x.from_ : Int), .int .i64 (x.top : Int), .int .i64 (x.trail : Int)] 133) := ⟨_, rfl⟩
                obtain ⟨xb, hxb⟩ : ∃ xb, xb = wr.heap.size := ⟨_, rfl⟩
                have hax := hid (fun tv (h : ∀ b, ownB tv = some b → b < wr.heap.size) (e : ownB tv = some xb) => by have := h _ e; omega)
                have HT8 := hid (HTW.out.below ((Below.refl _ wr).alloc (Nat.le_refl _) (.cells #[.int .i64 (x.goal : Int), .int .i64 (x.from_ : Int), .int .i64 (x.top : Int), .int .i64 (x.trail : Int)] 133)))
                have HB8 := hid (HB4.out.alloc hzr4 (.cells #[.int .i64 (x.goal : Int), .int .i64 (x.from_ : Int), .int .i64 (x.top : Int), .int .i64 (x.trail : Int)] 133))
                have HX8 := hid (blk_new wr (.cells #[.int .i64 (x.goal : Int), .int .i64 (x.from_ : Int), .int .i64 (x.top : Int), .int .i64 (x.trail : Int)] 133))
                rw [← hW8] at HT8 HB8 HX8
                rw [← hxb] at HX8
                have hlen4 := hid (show cs.length ≤ 1000 by omega)
                have HW8 := hid hW8
                have HXBE := hid hxb
                have hcs := cell_set
                clear hW8 hxb
                go_wp2_with fail
                rw [← HXBE.out, ← HW8.out]
                have HAX := hid (show ∀ b, ownB u3 = some b → b ≠ xb from fun b hb => by have := (HTW.out.a.lt b hb).2; have := HXBE.out; omega)
                have HBX := hid (show ∀ b, ownB u4 = some b → b ≠ xb from fun b hb => by have := (HTW.out.b.lt b hb).2; have := HXBE.out; omega)
                clear d0 d1 d2 d3 dok hcs HXBE HW8 hocb
                refine wp_region_F (F := fun k w' => w'.heap[xb]? = some (.cells #[.int .i64 (x.goal : Int), .int .i64 (x.from_ : Int), .int .i64 (x.top : Int), .int .i64 (x.trail : Int)] 133 (0, 0))) (by kernel_rfl) ?_
                have HX8d : W8.drew.heap[xb]? = some (.cells #[.int .i64 (x.goal : Int), .int .i64 (x.from_ : Int), .int .i64 (x.top : Int), .int .i64 (x.trail : Int)] 133 (0, 0)) := HX8.out
                have HT8d := hid (HT8.out.below ((Below.refl _ W8).drew))
                have HB8d := hid (HB8.out.drew)
                have HF : ∀ {k : Nat}, W8.drew.heap[xb]? = some (.cells #[.int .i64 (x.goal : Int), .int .i64 (x.from_ : Int), .int .i64 (x.top : Int), .int .i64 (x.trail : Int)] 133 (0, 0)) := fun {k} => HX8d
                refine wpTk (i := 0) (v := ?_) rfl (Or.inl ⟨by rfl, ?_⟩) (HF (k := 0)) ?_
                rotate_left
                · (intro w' hw; clear hw; go_simp <;> with_reducible rfl)
                try simp only [Act.put, List.setIfInBounds_toArray, List.set_cons_zero, List.set_cons_succ]
                refine wpTk (i := 1) (v := ?_) rfl (Or.inl ⟨by rfl, ?_⟩) (HF (k := 0)) ?_
                rotate_left
                · (intro w' hw; clear hw; go_simp <;> with_reducible rfl)
                try simp only [Act.put, List.setIfInBounds_toArray, List.set_cons_zero, List.set_cons_succ]
                refine wpTk (i := 2) (v := ?_) rfl (Or.inl ⟨by rfl, ?_⟩) (HF (k := 0)) ?_
                rotate_left
                · (intro w' hw; obtain ⟨q0, q1, q2, q3, qf⟩ := blk4 hw; clear hw; go_simp <;> with_reducible rfl)
                try simp only [Act.put, List.setIfInBounds_toArray, List.set_cons_zero, List.set_cons_succ]
                refine wpTk (i := 5) (v := ?_) rfl (Or.inl ⟨by rfl, ?_⟩) (HF (k := 0)) ?_
                rotate_left
                · (intro w' hw; clear hw; go_simp <;> with_reducible rfl)
                try simp only [Act.put, List.setIfInBounds_toArray, List.set_cons_zero, List.set_cons_succ]
                refine wpTk (i := 6) (v := ?_) rfl (Or.inl ⟨by rfl, ?_⟩) (HF (k := 0)) ?_
                rotate_left
                · (intro w' hw; clear hw; go_simp <;> with_reducible rfl)
                try simp only [Act.put, List.setIfInBounds_toArray, List.set_cons_zero, List.set_cons_succ]
                refine wpTk (i := 7) (v := ?_) rfl (Or.inl ⟨by rfl, ?_⟩) (HF (k := 0)) ?_
                rotate_left
                · (intro w' hw; obtain ⟨q0, q1, q2, q3, qf⟩ := blk4 hw; clear hw; go_simp <;> with_reducible rfl)
                try simp only [Act.put, List.setIfInBounds_toArray, List.set_cons_zero, List.set_cons_succ]
                have HXWa := hid HX8d
                have HTWa := hid HT8d.out
                have HBWa := hid HB8d.out
                clear HF HX8d HT8d HB8d HT8 HB8 HX8
                generalize W8.drew = Wa at *
                refine wpAnyF_two (i := 3) (j := 8) (by kernel_rfl) (wpOp_run rfl (by rfl) ?_) (wpOp_run rfl (by rfl) ?_)
                · go_simp
                  have HS1X1 := hid (OutN.made HTWa.out HBWa.out.size HI1.out)
                  have HBX1 := hid (HBWa.out.alloc HBWa.out.size (.cells #[.int .i64 (x.top : Int)] 3))
                  have HTX1 := hid (HTWa.out.below ((Below.refl _ Wa).alloc (Nat.le_refl _) (.cells #[.int .i64 (x.top : Int)] 3)))
                  have HXX1 := hid (blk_alloc HXWa.out (.cells #[.int .i64 (x.top : Int)] 3))
                  obtain ⟨z1, hz1⟩ : ∃ z, z = Wa.heap.size := ⟨_, rfl⟩
                  rw [← hz1] at HS1X1
                  rw [← hz1]
                  clear hz1
                  refine ⟨fun _ _ _ => HXX1.out, ?_⟩
                  generalize Wa.alloc (.cells #[.int .i64 (x.top : Int)] 3) = X1 at *
                  try simp only [Act.put, List.setIfInBounds_toArray, List.set_cons_zero, List.set_cons_succ]
                  refine wpAnyF_two (i := 4) (j := 8) (by kernel_rfl) (wpOp_run rfl (by rfl) ?_) (wpOp_run rfl (by rfl) ?_)
                  · have HOR := hid (show OwnR X1 W5.heap.size 3 1 numR (fun _ => True) ((cs.take j4).map fun c => (c.top : Int)) u3 from HTX1.out.a.ownR numV_len _)
                    refine wp_appS (.tmp 95) (.tmp 98) 28 rfl W5.heap.size 3 1 8 tyNums numR_lasts (A := fun _ => True) u3 ((cs.take j4).map fun c => (c.top : Int)) rfl HOR.out (.slice (some ⟨z1, 0, none⟩) 1 1) rfl [(x.top : Int)] (SlR.mono numR_lasts (by omega) HS1X1.out (fun b _ hb => ⟨trivial, hb.2.1⟩)) (by have := hlen4.out; simp; omega) HBX1.out.size ?_
                    intro va X2 hown2 hgrew
                    have HTX2 := hid (HTX1.out.app (OwnF.of_ownR hown2) hgrew)
                    have HBX2 := hid (hgrew.below HBX1.out HBX1.out.size (fun k hk => (HTX1.out.a.lt k hk).1))
                    have HXX2 := hid ((hgrew.grown.block xb (blk_lt HXX1.out) (fun e => HAX.out _ e.symm rfl)).trans HXX1.out)
                    clear hown2 hgrew HOR
                    refine ⟨fun _ _ _ => HXX2.out, ?_⟩
                    try simp only [Act.put, List.setIfInBounds_toArray, List.set_cons_zero, List.set_cons_succ]
                    refine wpAnyF_one (i := 8) (by kernel_rfl) (wpOp_run rfl (by rfl) ?_)
                    go_simp
                    have HS2X3 := hid (OutN.made HTX2.out HBX2.out.size HI2.out)
                    have HBX3 := hid (HBX2.out.alloc HBX2.out.size (.cells #[.int .i64 (x.trail : Int)] 3))
                    have HTX3 := hid (HTX2.out.below ((Below.refl _ X2).alloc (Nat.le_refl _) (.cells #[.int .i64 (x.trail : Int)] 3)))
                    have HXX3 := hid (blk_alloc HXX2.out (.cells #[.int .i64 (x.trail : Int)] 3))
                    obtain ⟨z2, hz2⟩ : ∃ z, z = X2.heap.size := ⟨_, rfl⟩
                    rw [← hz2] at HS2X3
                    rw [← hz2]
                    clear hz2
                    refine ⟨fun _ _ _ => HXX3.out, ?_⟩
                    generalize X2.alloc (.cells #[.int .i64 (x.trail : Int)] 3) = X3 at *
                    try simp only [Act.put, List.setIfInBounds_toArray, List.set_cons_zero, List.set_cons_succ]
                    refine wpAnyF_one (i := 9) (by kernel_rfl) (wpOp_run rfl (by rfl) ?_)
                    have HOR := hid (show OwnR X3 W5.heap.size 3 1 numR (fun _ => True) ((cs.take j4).map fun c => (c.trail : Int)) u4 from HTX3.out.swap.a.ownR numV_len _)
                    refine wp_appS (.tmp 100) (.tmp 103) 28 rfl W5.heap.size 3 1 8 tyNums numR_lasts (A := fun _ => True) u4 ((cs.take j4).map fun c => (c.trail : Int)) rfl HOR.out (.slice (some ⟨z2, 0, none⟩) 1 1) rfl [(x.trail : Int)] (SlR.mono numR_lasts (by omega) HS2X3.out (fun b _ hb => ⟨trivial, hb.2.2⟩)) (by have := hlen4.out; simp; omega) HBX3.out.size ?_
                    intro vb2 X4 hown2 hgrew
                    have HTX4 := hid (HTX3.out.swap.app (OwnF.of_ownR hown2) hgrew)
                    have HBX4 := hid (hgrew.below HBX3.out HBX3.out.size (fun k hk => (HTX3.out.swap.a.lt k hk).1))
                    have HXX4 := hid ((hgrew.grown.block xb (blk_lt HXX3.out) (fun e => HBX.out _ e.symm rfl)).trans HXX3.out)
                    replace HTX4 := hid HTX4.out.swap
                    clear hown2 hgrew HOR
                    refine ⟨fun _ _ _ => HXX4.out, ?_⟩
                    try simp only [Act.put, List.setIfInBounds_toArray, List.set_cons_zero, List.set_cons_succ]
                    refine wpAnyF_one (i := 10) (by kernel_rfl) (wpOp_run rfl (by rfl) ?_)
                    go_simp
                    refine ⟨fun _ _ h => h, ?_⟩
                    try simp only [Act.put, List.setIfInBounds_toArray, List.set_cons_zero, List.set_cons_succ]
                    refine wpAnyF_one (i := 11) (by kernel_rfl) (wpOp_run rfl (by rfl) ?_)
                    go_simp
                    refine ⟨fun _ _ h => h, wpAnyF_done (by kernel_rfl) ?_ _⟩
                    try simp only [Act.put, List.setIfInBounds_toArray, List.set_cons_zero, List.set_cons_succ]
                    go_wp2_with fail
                    go_roundw
                    case rel => exact ⟨j4 + 1, by omega, by go_num, HBX4.out, by rw [HTK1.out, HTK2.out]; exact HTX4.out⟩
                    case measure => simp [intOf]; omega
                  · go_simp
                    have HS2X5 := hid (OutN.made HTX1.out HBX1.out.size HI2.out)
                    have HBX5 := hid (HBX1.out.alloc HBX1.out.size (.cells #[.int .i64 (x.trail : Int)] 3))
                    have HTX5 := hid (HTX1.out.below ((Below.refl _ X1).alloc (Nat.le_refl _) (.cells #[.int .i64 (x.trail : Int)] 3)))
                    have HXX5 := hid (blk_alloc HXX1.out (.cells #[.int .i64 (x.trail : Int)] 3))
                    have HS1X5 := hid (OutN.below ((Below.refl _ X1).alloc (Nat.le_refl _) (.cells #[.int .i64 (x.trail : Int)] 3)) HS1X1.out)
                    obtain ⟨z2, hz2⟩ : ∃ z, z = X1.heap.size := ⟨_, rfl⟩
                    rw [← hz2] at HS2X5
                    rw [← hz2]
                    clear hz2
                    refine ⟨fun _ _ _ => HXX5.out, ?_⟩
                    generalize X1.alloc (.cells #[.int .i64 (x.trail : Int)] 3) = X5 at *
                    try simp only [Act.put, List.setIfInBounds_toArray, List.set_cons_zero, List.set_cons_succ]
                    refine wpAnyF_one (i := 4) (by kernel_rfl) (wpOp_run rfl (by rfl) ?_)
                    have HOR := hid (show OwnR X5 W5.heap.size 3 1 numR (fun _ => True) ((cs.take j4).map fun c => (c.top : Int)) u3 from HTX5.out.a.ownR numV_len _)
                    refine wp_appS (.tmp 95) (.tmp 98) 28 rfl W5.heap.size 3 1 8 tyNums numR_lasts (A := fun _ => True) u3 ((cs.take j4).map fun c => (c.top : Int)) rfl HOR.out (.slice (some ⟨z1, 0, none⟩) 1 1) rfl [(x.top : Int)] (SlR.mono numR_lasts (by omega) HS1X5.out (fun b _ hb => ⟨trivial, hb.2.1⟩)) (by have := hlen4.out; simp; omega) HBX5.out.size ?_
                    intro va X6 hown2 hgrew
                    have HTX6 := hid (HTX5.out.app (OwnF.of_ownR hown2) hgrew)
                    have HBX6 := hid (hgrew.below HBX5.out HBX5.out.size (fun k hk => (HTX5.out.a.lt k hk).1))
                    have HXX6 := hid ((hgrew.grown.block xb (blk_lt HXX5.out) (fun e => HAX.out _ e.symm rfl)).trans HXX5.out)
                    have HS2X6 := hid (OutN.app hgrew HS2X5.out)
                    clear hown2 hgrew HOR
                    refine ⟨fun _ _ _ => HXX6.out, ?_⟩
                    try simp only [Act.put, List.setIfInBounds_toArray, List.set_cons_zero, List.set_cons_succ]
                    refine wpAnyF_one (i := 9) (by kernel_rfl) (wpOp_run rfl (by rfl) ?_)
                    have HOR := hid (show OwnR X6 W5.heap.size 3 1 numR (fun _ => True) ((cs.take j4).map fun c => (c.trail : Int)) u4 from HTX6.out.swap.a.ownR numV_len _)
                    refine wp_appS (.tmp 100) (.tmp 103) 28 rfl W5.heap.size 3 1 8 tyNums numR_lasts (A := fun _ => True) u4 ((cs.take j4).map fun c => (c.trail : Int)) rfl HOR.out (.slice (some ⟨z2, 0, none⟩) 1 1) rfl [(x.trail : Int)] (SlR.mono numR_lasts (by omega) HS2X6.out (fun b _ hb => ⟨trivial, hb.2.2⟩)) (by have := hlen4.out; simp; omega) HBX6.out.size ?_
                    intro vb2 X7 hown2 hgrew
                    have HTX7 := hid (HTX6.out.swap.app (OwnF.of_ownR hown2) hgrew)
                    have HBX7 := hid (hgrew.below HBX6.out HBX6.out.size (fun k hk => (HTX6.out.swap.a.lt k hk).1))
                    have HXX7 := hid ((hgrew.grown.block xb (blk_lt HXX6.out) (fun e => HBX.out _ e.symm rfl)).trans HXX6.out)
                    replace HTX7 := hid HTX7.out.swap
                    clear hown2 hgrew HOR
                    refine ⟨fun _ _ _ => HXX7.out, ?_⟩
                    try simp only [Act.put, List.setIfInBounds_toArray, List.set_cons_zero, List.set_cons_succ]
                    refine wpAnyF_one (i := 10) (by kernel_rfl) (wpOp_run rfl (by rfl) ?_)
                    go_simp
                    refine ⟨fun _ _ h => h, ?_⟩
                    try simp only [Act.put, List.setIfInBounds_toArray, List.set_cons_zero, List.set_cons_succ]
                    refine wpAnyF_one (i := 11) (by kernel_rfl) (wpOp_run rfl (by rfl) ?_)
                    go_simp
                    refine ⟨fun _ _ h => h, wpAnyF_done (by kernel_rfl) ?_ _⟩
                    try simp only [Act.put, List.setIfInBounds_toArray, List.set_cons_zero, List.set_cons_succ]
                    go_wp2_with fail
                    go_roundw
                    case rel => exact ⟨j4 + 1, by omega, by go_num, HBX7.out, by rw [HTK1.out, HTK2.out]; exact HTX7.out⟩
                    case measure => simp [intOf]; omega
                · go_simp
                  have HS2X8 := hid (OutN.made HTWa.out HBWa.out.size HI2.out)
                  have HBX8 := hid (HBWa.out.alloc HBWa.out.size (.cells #[.int .i64 (x.trail : Int)] 3))
                  have HTX8 := hid (HTWa.out.below ((Below.refl _ Wa).alloc (Nat.le_refl _) (.cells #[.int .i64 (x.trail : Int)] 3)))
                  have HXX8 := hid (blk_alloc HXWa.out (.cells #[.int .i64 (x.trail : Int)] 3))
                  obtain ⟨z2, hz2⟩ : ∃ z, z = Wa.heap.size := ⟨_, rfl⟩
                  rw [← hz2] at HS2X8
                  rw [← hz2]
                  clear hz2
                  refine ⟨fun _ _ _ => HXX8.out, ?_⟩
                  generalize Wa.alloc (.cells #[.int .i64 (x.trail : Int)] 3) = X8 at *
                  try simp only [Act.put, List.setIfInBounds_toArray, List.set_cons_zero, List.set_cons_succ]
                  refine wpAnyF_one (i := 3) (by kernel_rfl) (wpOp_run rfl (by rfl) ?_)
                  go_simp
                  have HS1X9 := hid (OutN.made HTX8.out HBX8.out.size HI1.out)
                  have HBX9 := hid (HBX8.out.alloc HBX8.out.size (.cells #[.int .i64 (x.top : Int)] 3))
                  have HTX9 := hid (HTX8.out.below ((Below.refl _ X8).alloc (Nat.le_refl _) (.cells #[.int .i64 (x.top : Int)] 3)))
                  have HXX9 := hid (blk_alloc HXX8.out (.cells #[.int .i64 (x.top : Int)] 3))
                  have HS2X9 := hid (OutN.below ((Below.refl _ X8).alloc (Nat.le_refl _) (.cells #[.int .i64 (x.top : Int)] 3)) HS2X8.out)
                  obtain ⟨z1, hz1⟩ : ∃ z, z = X8.heap.size := ⟨_, rfl⟩
                  rw [← hz1] at HS1X9
                  rw [← hz1]
                  clear hz1
                  refine ⟨fun _ _ _ => HXX9.out, ?_⟩
                  generalize X8.alloc (.cells #[.int .i64 (x.top : Int)] 3) = X9 at *
                  try simp only [Act.put, List.setIfInBounds_toArray, List.set_cons_zero, List.set_cons_succ]
                  refine wpAnyF_one (i := 4) (by kernel_rfl) (wpOp_run rfl (by rfl) ?_)
                  have HOR := hid (show OwnR X9 W5.heap.size 3 1 numR (fun _ => True) ((cs.take j4).map fun c => (c.top : Int)) u3 from HTX9.out.a.ownR numV_len _)
                  refine wp_appS (.tmp 95) (.tmp 98) 28 rfl W5.heap.size 3 1 8 tyNums numR_lasts (A := fun _ => True) u3 ((cs.take j4).map fun c => (c.top : Int)) rfl HOR.out (.slice (some ⟨z1, 0, none⟩) 1 1) rfl [(x.top : Int)] (SlR.mono numR_lasts (by omega) HS1X9.out (fun b _ hb => ⟨trivial, hb.2.1⟩)) (by have := hlen4.out; simp; omega) HBX9.out.size ?_
                  intro va X10 hown2 hgrew
                  have HTX10 := hid (HTX9.out.app (OwnF.of_ownR hown2) hgrew)
                  have HBX10 := hid (hgrew.below HBX9.out HBX9.out.size (fun k hk => (HTX9.out.a.lt k hk).1))
                  have HXX10 := hid ((hgrew.grown.block xb (blk_lt HXX9.out) (fun e => HAX.out _ e.symm rfl)).trans HXX9.out)
                  have HS2X10 := hid (OutN.app hgrew HS2X9.out)
                  clear hown2 hgrew HOR
                  refine ⟨fun _ _ _ => HXX10.out, ?_⟩
                  try simp only [Act.put, List.setIfInBounds_toArray, List.set_cons_zero, List.set_cons_succ]
                  refine wpAnyF_one (i := 9) (by kernel_rfl) (wpOp_run rfl (by rfl) ?_)
                  have HOR := hid (show OwnR X10 W5.heap.size 3 1 numR (fun _ => True) ((cs.take j4).map fun c => (c.trail : Int)) u4 from HTX10.out.swap.a.ownR numV_len _)
                  refine wp_appS (.tmp 100) (.tmp 103) 28 rfl W5.heap.size 3 1 8 tyNums numR_lasts (A := fun _ => True) u4 ((cs.take j4).map fun c => (c.trail : Int)) rfl HOR.out (.slice (some ⟨z2, 0, none⟩) 1 1) rfl [(x.trail : Int)] (SlR.mono numR_lasts (by omega) HS2X10.out (fun b _ hb => ⟨trivial, hb.2.2⟩)) (by have := hlen4.out; simp; omega) HBX10.out.size ?_
                  intro vb2 X11 hown2 hgrew
                  have HTX11 := hid (HTX10.out.swap.app (OwnF.of_ownR hown2) hgrew)
                  have HBX11 := hid (hgrew.below HBX10.out HBX10.out.size (fun k hk => (HTX10.out.swap.a.lt k hk).1))
                  have HXX11 := hid ((hgrew.grown.block xb (blk_lt HXX10.out) (fun e => HBX.out _ e.symm rfl)).trans HXX10.out)
                  replace HTX11 := hid HTX11.out.swap
                  clear hown2 hgrew HOR
                  refine ⟨fun _ _ _ => HXX11.out, ?_⟩
                  try simp only [Act.put, List.setIfInBounds_toArray, List.set_cons_zero, List.set_cons_succ]
                  refine wpAnyF_one (i := 10) (by kernel_rfl) (wpOp_run rfl (by rfl) ?_)
                  go_simp
                  refine ⟨fun _ _ h => h, ?_⟩
                  try simp only [Act.put, List.setIfInBounds_toArray, List.set_cons_zero, List.set_cons_succ]
                  refine wpAnyF_one (i := 11) (by kernel_rfl) (wpOp_run rfl (by rfl) ?_)
                  go_simp
                  refine ⟨fun _ _ h => h, wpAnyF_done (by kernel_rfl) ?_ _⟩
                  try simp only [Act.put, List.setIfInBounds_toArray, List.set_cons_zero, List.set_cons_succ]
                  go_wp2_with fail
                  go_roundw
                  case rel => exact ⟨j4 + 1, by omega, by go_num, HBX11.out, by rw [HTK1.out, HTK2.out]; exact HTX11.out⟩
                  case measure => simp [intOf]; omega
              · have hT1 := hid (show ((cs.take j4).map fun c => (c.top : Int)) = cs.map fun c => (c.top : Int) by rw [List.take_of_length_le (by omega)])
                have hT2 := hid (show ((cs.take j4).map fun c => (c.trail : Int)) = cs.map fun c => (c.trail : Int) by rw [List.take_of_length_le (by omega)])
                have htw := HTW.out
                rw [hT1.out, hT2.out] at htw
                have HTW2 := hid htw
                have hl4' : (cs.length : Int) ≤ (j4 : Int) := by omega
                have HRO := hid (show OwnN wr w.heap.size (rootsM j m) (.slice ra (j + (neededM m.goals ns).length) rc) from by
                  have := HF5.out.two.a.below HB4.out
                  rw [show rootsM j m = rootsTo j m.query m.goals (neededM m.goals ns) by rw [HNS.out]; rfl]
                  exact this)
                have HBr := hid (HF5.out.bel.trans (HB4.out.mono hz5))
                have hzwr := HBr.out.size
                have HVr := hid (HU.out.below HBr.out)
                obtain ⟨b0, b1, b2, b3, b4, b5, b6, b7, b8, b9, bf⟩ := box10 HVr.out.box
                have hglr := HVr.out.lt.1
                have hnl6 := nodup_le m.goals.length (neededM m.goals ns) (by have := needTo_nd (gs := m.goals) ns ns.length; rwa [needTo_all (Nat.le_refl _)] at this) (by have := needTo_lt (gs := m.goals) (ns := ns) HNV.out ns.length; rwa [needTo_all (Nat.le_refl _)] at this)
                have HNL := hid hnl6
                have hrlen : (rootsM j m).length = j + (neededM m.goals ns).length := by rw [HNS.out]; simp [rootsM]
                have HAR := hid (SlR.mono (A := fun b => w.heap.size ≤ b) (A' := MA g ⟨.slice ga m.goals.length gc, .slice ca m.choices.length cc, .slice oa m.out.length oc⟩) numR_lasts (by omega) (OwnN.sl HRO.out (by rw [hrlen]; omega) (A := fun b => w.heap.size ≤ b) (fun b hb => (HRO.out.lt b hb).1)) (fun b _ hb hm => by have := HMM.out b hm; omega))
                have HAT := hid (SlR.mono (A := fun b => w.heap.size ≤ b) (A' := MA g ⟨.slice ga m.goals.length gc, .slice ca m.choices.length cc, .slice oa m.out.length oc⟩) numR_lasts (by omega) (OwnN.sl HTW2.out.a (by simp; omega) (A := fun b => w.heap.size ≤ b) (fun b hb => by have := (HTW2.out.a.lt b hb).1; omega)) (fun b _ hb hm => by have := HMM.out b hm; omega))
                have HAK := hid (SlR.mono (A := fun b => w.heap.size ≤ b) (A' := MA g ⟨.slice ga m.goals.length gc, .slice ca m.choices.length cc, .slice oa m.out.length oc⟩) numR_lasts (by omega) (OwnN.sl HTW2.out.b (by simp; omega) (A := fun b => w.heap.size ≤ b) (fun b hb => by have := (HTW2.out.b.lt b hb).1; omega)) (fun b _ hb hm => by have := HMM.out b hm; omega))
                have HCOL := hid (collect_ok m.h (rootsM j m) (cs.map fun c => (c.top : Int)) (cs.map fun c => (c.trail : Int)) _ wr _ _ _ _ HVr.out.heap HAR.out HAT.out HAK.out)
                have HCP := hid HPRE.out.col
                rw [← HCS.out] at HCP
                have HCM := hid (show collectM j m = if (collectF m.h (rootsM j m) (cs.map fun c => (c.top : Int)) (cs.map fun c => (c.trail : Int))).err ≠ 0 then m else ⟨(collectF m.h (rootsM j m) (cs.map fun c => (c.top : Int)) (cs.map fun c => (c.trail : Int))).heap, goalsTo (collectF m.h (rootsM j m) (cs.map fun c => (c.top : Int)) (cs.map fun c => (c.trail : Int))).roots j (neededM m.goals ns) m.goals, (chcTo (collectF m.h (rootsM j m) (cs.map fun c => (c.top : Int)) (cs.map fun c => (c.trail : Int))).tops (collectF m.h (rootsM j m) (cs.map fun c => (c.top : Int)) (cs.map fun c => (c.trail : Int))).mks cs.length cs).reverse, m.now, if j > 0 then ((collectF m.h (rootsM j m) (cs.map fun c => (c.top : Int)) (cs.map fun c => (c.trail : Int))).roots[0]?).getD 0 else m.query, m.fuel, m.out⟩ by
                  rw [chcTo_all, HNS.out, HCS.out]; rfl)
                generalize collectF m.h (rootsM j m) (cs.map fun c => (c.top : Int)) (cs.map fun c => (c.trail : Int)) = C at *
                clear hT1 hT2 htw hl4 hnl6 hj4
                go_wp2_with fail
                refine HCOL.out.mono ?_
                rintro e w6 ⟨r, rfl, hb6, us, va6, vb6, vc6, rfl, hh6, hr6, ht6, hm6⟩
                obtain ⟨hca, hcc, hta, htc, rfl, -⟩ := Hp.rep2 hh6
                have HNA := hid (show ∀ b, (MA g ⟨.slice ga m.goals.length gc, .slice ca m.choices.length cc, .slice oa m.out.length oc⟩ b ∨ New wr b) → MA g ⟨.slice ga m.goals.length gc, .slice ca m.choices.length cc, .slice oa m.out.length oc⟩ b from fun b hb hm => hb.elim (fun h => h hm) (fun h => by have h1 := HMM.out b hm; unfold New at h; omega))
                have HH6 := hid (hh6.mono (fun b _ hb => HNA.out b hb))
                have HR6 := hid (SlR.mono numR_lasts (by omega) hr6 (fun b _ hb => HNA.out b hb))
                have HT6 := hid (SlR.mono numR_lasts (by omega) ht6 (fun b _ hb => HNA.out b hb))
                have HK6 := hid (SlR.mono numR_lasts (by omega) hm6 (fun b _ hb => HNA.out b hb))
                have HB6' := hid (HBr.out.trans (hb6.mono hzwr))
                have hz6' := HB6'.out.size
                clear hh6 hr6 ht6 hm6 hb6 b0 b1 b2 b3 b4 b5 b6 b7 b8 b9 bf
                by_cases hce : C.err = 0
                · rw [hce]
                  have HV6' := hid (HU.out.below HB6'.out)
                  obtain ⟨b0, b1, b2, b3, b4, b5, b6, b7, b8, b9, bf⟩ := box10 HV6'.out.box
                  have hgl6' := HV6'.out.lt.1
                  have hcs := cell_set
                  go_upto_if 130 with fail
                  obtain ⟨hc8, ht8, o8, hmv8, hch8, hgr8⟩ := HV6'.out.setH HH6.out
                  have HV8 := hid (hmv8.below ((Below.refl _ _).alloc (Nat.le_refl _) (.cells #[.slice hca C.heap.cells.length hcc, .slice hta C.heap.trail.length htc] 30)))
                  have HCH8 := hid (hch8.alloc (.cells #[.slice hca C.heap.cells.length hcc, .slice hta C.heap.trail.length htc] 30))
                  have HGR8 := hid hgr8
                  obtain ⟨W8, hW8⟩ : ∃ W, W = (((w6.setCell ⟨g, 1, none⟩ (.slice hca C.heap.cells.length hcc)).setCell ⟨g, 2, none⟩ (.slice hta C.heap.trail.length htc)).alloc (.cells #[.slice hca C.heap.cells.length hcc, .slice hta C.heap.trail.length htc] 30)) := ⟨_, rfl⟩
                  rw [← hW8] at HV8 HCH8
                  rw [← hW8]
                  clear hmv8 hch8 hgr8 hW8 b0 b1 b2 b3 b4 b5 b6 b7 b8 b9 bf
                  have HR8 := hid (nums_mid HR6.out HCH8.out HGR8.out)
                  have HT8 := hid (nums_mid HT6.out HCH8.out HGR8.out)
                  have HK8 := hid (nums_mid HK6.out HCH8.out HGR8.out)
                  obtain ⟨qr, hqr⟩ : ∃ qr, qr = if j > 0 then (C.roots[0]?).getD 0 else m.query := ⟨_, rfl⟩
                  have HQR := hid hqr
                  have HC5 := hid (HCP.out hce)
                  obtain ⟨ra6, rc6, rfl, -⟩ := nums_val HR8.out
                  obtain ⟨ta6, tc6, rfl, -⟩ := nums_val HT8.out
                  obtain ⟨ka6, kc6, rfl, -⟩ := nums_val HK8.out
                  have HRL := hid (show C.roots.length = j + (neededM m.goals ns).length by rw [HC5.out.1, hrlen])
                  clear hqr hrlen
                  go_cut [] (fun wx => ∃ hc9 ht9 o9, MvI base P j g (.slice pa P.length pc) hc9 ht9 o9 ⟨C.heap, m.goals, m.choices, m.now, qr, m.fuel, m.out⟩ wx ∧ Ch (MM g o8) W8 wx ∧ MGrow W8 o8 o9)
                  case first =>
                    obtain ⟨b0, b1, b2, b3, b4, b5, b6, b7, b8, b9, bf⟩ := box10 HV8.out.box
                    have hgl8 := HV8.out.lt.1
                    by_cases hj0 : 0 < j
                    · have hj0' : (0 : Int) < (j : Int) := by omega
                      obtain ⟨rb, ro, rfl, hrA, hrlt, hr0, hrI⟩ := nums_read HR8.out (k := 0) (by rw [HRL.out]; omega)
                      simp only [Nat.add_zero] at hr0
                      have hl0 : 0 < C.roots.length := by rw [HRL.out]; omega
                      have hq2 := hid (show qr = C.roots[0] by rw [HQR.out, if_pos hj0, List.getElem?_eq_getElem hl0]; rfl)
                      have HQI := hid hrI
                      have hne : rb ≠ g := fun e => hrA (.inl e)
                      generalize C.roots[0] = r0 at *
                      clear hrI hrA
                      go_wp2_with fail
                      go_meet
                      case rel =>
                        have hst := HV8.out.setI (m' := ⟨C.heap, m.goals, m.choices, m.now, qr, m.fuel, m.out⟩) 7 (.int .i64 qr) ⟨rfl, rfl, rfl, rfl⟩ ((blk_set HV8.out.box 7 _).trans rfl) HV8.out.nowb (by rw [hq2.out]; exact HQI.out) HV8.out.fu
                        rw [hq2.out] at hst ⊢
                        obtain ⟨c, t, o', h1, h2, h3⟩ := hst
                        exact ⟨c, t, o', h1, h2, h3⟩
                    · have hj0' : ¬ (0 : Int) < (j : Int) := by omega
                      have hq2 := hid (show qr = m.query by rw [HQR.out, if_neg hj0])
                      go_wp2_with fail
                      go_meet
                      case rel =>
                        rw [hq2.out]
                        exact ⟨hc8, ht8, o8, HV8.out, Ch.refl _ _, MGrow.refl _ _⟩
                  case rest =>
                    obtain ⟨hc9, ht9, o9, hmv9, hch9, hgr9⟩ := hcut
                    generalize wc = W9 at *
                    have HV9 := hid hmv9
                    have HCH9 := hid hch9
                    have HGR9 := hid hgr9
                    have HR9 := hid (nums_mid HR8.out hch9 hgr9)
                    have HT9 := hid (nums_mid HT8.out hch9 hgr9)
                    have HK9 := hid (nums_mid HK8.out hch9 hgr9)
                    have HG9 := hid (show ∀ b, ownB o9.gv = some b → b < W9.heap.size from fun b hb => (hmv9.goals.lt b hb).2)
                    clear hmv9 hch9 hgr9
                    obtain ⟨gv9, cv9, ov9⟩ := o9
                    obtain ⟨-, -, ga9, gc9, ca9, cc9, oa9, oc9, ha9, hac9, hb9, hbc9, -, e1, e2, e3, rfl, rfl, -, -, g91, g92, c91, c92, -⟩ := HV9.out.vals
                    simp only at e1 e2 e3 g91 c91
                    subst e1 e2 e3
                    unfold maxLen at g92 c92
                    obtain ⟨b0, b1, b2, b3, b4, b5, b6, b7, b8, b9, bf⟩ := box10 HV9.out.box
                    simp only at b3 b4
                    have hgl9 := HV9.out.lt.1
                    have qM : ∀ W : World, (Instr.makeSlice 79 (.int .i64 (m.goals.length : Int)) (.int .i64 (m.goals.length : Int))).run Try.prog W = .ok (.slice (some ⟨W.heap.size, 0, none⟩) m.goals.length m.goals.length) (W.alloc (.cells (Array.replicate m.goals.length (.bool false)) 4)) := fun W => make_one (bytes := 1) W Try.underlying79 (by kernel_rfl) rfl _ (by omega) (by omega)
                    go_wp2_with fail
                    obtain ⟨vb2, hvb2⟩ : ∃ b, b = W9.heap.size := ⟨_, rfl⟩
                    obtain ⟨W10, hW10⟩ : ∃ W, W = W9.alloc (.cells (Array.replicate m.goals.length (.bool false)) 4) := ⟨_, rfl⟩
                    have HM10 := hid (show OwnB W10 W9.heap.size (visB m.goals.length []) (.slice (some ⟨vb2, 0, none⟩) m.goals.length m.goals.length) by
                      rw [visB_nil, hW10, hvb2]; exact OwnB.fresh W9 m.goals.length (by unfold maxLen; omega))
                    have HB10 := hid (show Below W9.heap.size W9 W10 by rw [hW10]; exact (Below.refl _ _).alloc (Nat.le_refl _) _)
                    have HV10 := hid (HV9.out.below HB10.out)
                    have hz10 := HB10.out.size
                    rw [← hvb2, ← hW10]
                    clear hvb2 hW10 qM b0 b1 b2 b3 b4 b5 b6 b7 b8 b9 bf
                    go_upto_region 27 with fail
                    go_cut [154, 155, 156] (fun v48 v49 v50 wx => StartsAt m W10 v48 v49 wx ∧ v50 = .int .i64 0)
                    case first => as_aux_lemma =>
                      have HNOW := hid (fun (W : World) (hbw : Below W10.heap.size W10 W) => (show W.cell? ⟨g, 5, none⟩ = some (.int .i64 m.now) from (box10 (HV10.out.below hbw).box).2.2.2.2.2.1))
                      have HSTR := hid (fun (W : World) (hbw : Below W10.heap.size W10 W) => mstarted_ok (HV10.out.below hbw))
                      have HF : ∀ {k : Nat}, Below W10.heap.size W10 W10.drew := fun {k} => (Below.refl _ _).drew
                      have hI := hid (show I64 m.now from HV10.out.nowb)
                      have hlm := hid (show (m.choices.reverse.map fun c => (c.goal : Int)).length + 1 ≤ 4194304 by have := HV10.out.cl; (try simp only at this); simp; omega)
                      have hsl := hid (show (startsM m) = (m.choices.reverse.map fun c => (c.goal : Int)) ++ [m.now] from rfl)
                      refine wp_region_F (F := fun k w' => Below W10.heap.size W10 w') (by kernel_rfl) ?_
                      refine wpTk (i := 0) (v := ?_) rfl (Or.inl ⟨by rfl, ?_⟩) (HF (k := 0)) ?_
                      rotate_left
                      · (intro w' hw; clear hw; go_simp <;> with_reducible rfl)
                      try simp only [Act.put, List.setIfInBounds_toArray, List.set_cons_zero, List.set_cons_succ]
                      refine wpTk (i := 2) (v := ?_) rfl (Or.inl ⟨by rfl, ?_⟩) (HF (k := 0)) ?_
                      rotate_left
                      · (intro w' hw; clear hw; go_simp <;> with_reducible rfl)
                      try simp only [Act.put, List.setIfInBounds_toArray, List.set_cons_zero, List.set_cons_succ]
                      refine wpTk (i := 3) (v := ?_) rfl (Or.inl ⟨by rfl, ?_⟩) (HF (k := 0)) ?_
                      rotate_left
                      · (intro w' hw; clear hw; go_simp <;> with_reducible rfl)
                      try simp only [Act.put, List.setIfInBounds_toArray, List.set_cons_zero, List.set_cons_succ]
                      refine wpTk (i := 4) (v := ?_) rfl (Or.inl ⟨by rfl, ?_⟩) (HF (k := 0)) ?_
                      rotate_left
                      · (intro w' hw; clear hw; go_simp <;> with_reducible rfl)
                      try simp only [Act.put, List.setIfInBounds_toArray, List.set_cons_zero, List.set_cons_succ]
                      refine wpTk (i := 5) (v := ?_) rfl (Or.inl ⟨by rfl, ?_⟩) (HF (k := 0)) ?_
                      rotate_left
                      · (intro w' hw; have q0 := HNOW.out w' hw; clear hw; go_simp <;> with_reducible rfl)
                      try simp only [Act.put, List.setIfInBounds_toArray, List.set_cons_zero, List.set_cons_succ]
                      refine wpTk (i := 9) (v := ?_) rfl (Or.inl ⟨by rfl, ?_⟩) (HF (k := 0)) ?_
                      rotate_left
                      · (intro w' hw; clear hw; go_simp <;> with_reducible rfl)
                      try simp only [Act.put, List.setIfInBounds_toArray, List.set_cons_zero, List.set_cons_succ]
                      clear HF
                      have HBa := hid (show Below W10.heap.size W10 W10.drew from (Below.refl _ _).drew)
                      generalize W10.drew = Wa at *
                      refine wpAnyF_two (i := 1) (j := 6) (by kernel_rfl) (wpOp_run rfl (by rfl) ?_) (wpOp_run rfl (by rfl) ?_)
                      · go_simp
                        refine (HSTR.out Wa HBa.out).mono ?_
                        rintro e Wc ⟨sv, rfl, hb5, hown5⟩
                        have HBc := hid (HBa.out.trans (hb5.mono HBa.out.size))
                        have HOc := hid (OwnF.rebase hown5 (base' := W10.heap.size) (fun k hk => by have h1 := (hown5.lt k hk).1; have h2 := HBa.out.size; omega))
                        clear hb5 hown5
                        refine ⟨fun _ _ _ => HBc.out, ?_⟩
                        try simp only [Act.put, List.setIfInBounds_toArray, List.set_cons_zero, List.set_cons_succ]
                        refine wpAnyF_one (i := 6) (by kernel_rfl) (wpOp_run rfl (by rfl) ?_)
                        go_simp
                        have HBb := hid (HBc.out.alloc HBc.out.size (.cells #[.int .i64 m.now] 3))
                        obtain ⟨bz, hbz⟩ : ∃ bz, bz = Wc.heap.size := ⟨_, rfl⟩
                        have hzs : (Wc.alloc (.cells #[.int .i64 m.now] 3)).heap.size = bz + 1 := by rw [hbz]; simp
                        have HZb := hid (show NumsR (fun b => b = bz) (Wc.alloc (.cells #[.int .i64 m.now] 3)) [m.now] (.slice (some ⟨bz, 0, none⟩) 1 1) from by
                          rw [hbz]
                          exact made1 hI.out)
                        have HOb := hid (HOc.out.below ((Below.refl _ Wc).alloc (Nat.le_refl _) (.cells #[.int .i64 m.now] 3)))
                        have hne : ∀ b, b = bz → ownB sv ≠ some b := fun b hb e => by have := (HOc.out.lt b e).2; omega
                        rw [← hbz]
                        clear hbz
                        refine ⟨fun _ _ _ => HBb.out, ?_⟩
                        generalize Wc.alloc (.cells #[.int .i64 m.now] 3) = Wb at *
                        try simp only [Act.put, List.setIfInBounds_toArray, List.set_cons_zero, List.set_cons_succ]
                        refine wpAnyF_one (i := 7) (by kernel_rfl) (wpOp_run rfl (by rfl) ?_)
                        have HORb := hid (show OwnR _ W10.heap.size 3 1 numR (fun _ => True) (m.choices.reverse.map fun c => (c.goal : Int)) sv from HOb.out.ownR numV_len _)
                        refine wp_appS (.tmp 148) (.tmp 153) 28 rfl W10.heap.size 3 1 8 tyNums numR_lasts (A := fun _ => True) sv (m.choices.reverse.map fun c => (c.goal : Int)) rfl HORb.out (.slice (some ⟨bz, 0, none⟩) 1 1) rfl [m.now] (SlR.mono numR_lasts (by omega) HZb.out (fun b _ hb => ⟨trivial, hne b hb⟩)) hlm.out HBb.out.size ?_
                        intro v2 w2 hown2 hgrew
                        have HO2 := hid (OwnF.of_ownR hown2)
                        have HB2 := hid (hgrew.below HBb.out HBb.out.size (fun k hk => (HOb.out.lt k hk).1))
                        obtain ⟨va2, vc2, hv2, hvl2, hvm2⟩ := OwnF.val HO2.out
                        rw [← hsl.out] at hv2 HO2
                        subst hv2
                        clear hown2 hgrew
                        refine ⟨fun _ _ _ => HB2.out, ?_⟩
                        try simp only [Act.put, List.setIfInBounds_toArray, List.set_cons_zero, List.set_cons_succ]
                        refine wpAnyF_one (i := 8) (by kernel_rfl) (wpOp_run rfl (by rfl) ?_)
                        go_simp
                        refine ⟨fun _ _ h => h, wpAnyF_done (by kernel_rfl) ?_ _⟩
                        try simp only [Act.put, List.setIfInBounds_toArray, List.set_cons_zero, List.set_cons_succ]
                        go_wp2_with fail
                        go_meet
                        case rel => exact ⟨⟨va2, vc2, rfl, rfl, HB2.out, HO2.out⟩, rfl⟩
                      · go_simp
                        have HBb := hid (HBa.out.alloc HBa.out.size (.cells #[.int .i64 m.now] 3))
                        obtain ⟨bz, hbz⟩ : ∃ bz, bz = Wa.heap.size := ⟨_, rfl⟩
                        have hzs : (Wa.alloc (.cells #[.int .i64 m.now] 3)).heap.size = bz + 1 := by rw [hbz]; simp
                        have HZb := hid (show NumsR (fun b => b = bz) (Wa.alloc (.cells #[.int .i64 m.now] 3)) [m.now] (.slice (some ⟨bz, 0, none⟩) 1 1) from by
                          rw [hbz]
                          exact made1 hI.out)
                        rw [← hbz]
                        clear hbz
                        refine ⟨fun _ _ _ => HBb.out, ?_⟩
                        generalize Wa.alloc (.cells #[.int .i64 m.now] 3) = Wb at *
                        try simp only [Act.put, List.setIfInBounds_toArray, List.set_cons_zero, List.set_cons_succ]
                        refine wpAnyF_one (i := 1) (by kernel_rfl) (wpOp_run rfl (by rfl) ?_)
                        go_simp
                        refine (HSTR.out Wb HBb.out).mono ?_
                        rintro e Wc ⟨sv, rfl, hb5, hown5⟩
                        have HBc := hid (HBb.out.trans (hb5.mono HBb.out.size))
                        have HOc := hid (OwnF.rebase hown5 (base' := W10.heap.size) (fun k hk => by have h1 := (hown5.lt k hk).1; have h2 := HBb.out.size; omega))
                        have HZc := hid (SlR.keeps numR_lasts HZb.out (Keeps.of_below hb5))
                        have hzb := hb5.size
                        have HSVx := hid (fun k (hk : ownB sv = some k) => (hown5.lt k hk).1)
                        clear hb5 hown5
                        refine ⟨fun _ _ _ => HBc.out, ?_⟩
                        try simp only [Act.put, List.setIfInBounds_toArray, List.set_cons_zero, List.set_cons_succ]
                        have hne : ∀ b, b = bz → ownB sv ≠ some b := fun b hb e => by have := HSVx.out b e; omega
                        clear HBb HZb
                        have HBb := hid HBc.out
                        have HOb := hid HOc.out
                        have HZb := hid HZc.out
                        refine wpAnyF_one (i := 7) (by kernel_rfl) (wpOp_run rfl (by rfl) ?_)
                        have HORb := hid (show OwnR _ W10.heap.size 3 1 numR (fun _ => True) (m.choices.reverse.map fun c => (c.goal : Int)) sv from HOb.out.ownR numV_len _)
                        refine wp_appS (.tmp 148) (.tmp 153) 28 rfl W10.heap.size 3 1 8 tyNums numR_lasts (A := fun _ => True) sv (m.choices.reverse.map fun c => (c.goal : Int)) rfl HORb.out (.slice (some ⟨bz, 0, none⟩) 1 1) rfl [m.now] (SlR.mono numR_lasts (by omega) HZb.out (fun b _ hb => ⟨trivial, hne b hb⟩)) hlm.out HBb.out.size ?_
                        intro v2 w2 hown2 hgrew
                        have HO2 := hid (OwnF.of_ownR hown2)
                        have HB2 := hid (hgrew.below HBb.out HBb.out.size (fun k hk => (HOb.out.lt k hk).1))
                        obtain ⟨va2, vc2, hv2, hvl2, hvm2⟩ := OwnF.val HO2.out
                        rw [← hsl.out] at hv2 HO2
                        subst hv2
                        clear hown2 hgrew
                        refine ⟨fun _ _ _ => HB2.out, ?_⟩
                        try simp only [Act.put, List.setIfInBounds_toArray, List.set_cons_zero, List.set_cons_succ]
                        refine wpAnyF_one (i := 8) (by kernel_rfl) (wpOp_run rfl (by rfl) ?_)
                        go_simp
                        refine ⟨fun _ _ h => h, wpAnyF_done (by kernel_rfl) ?_ _⟩
                        try simp only [Act.put, List.setIfInBounds_toArray, List.set_cons_zero, List.set_cons_succ]
                        go_wp2_with fail
                        go_meet
                        case rel => exact ⟨⟨va2, vc2, rfl, rfl, HB2.out, HO2.out⟩, rfl⟩
                    case rest =>
                      obtain ⟨⟨sa2, sc2, rfl, rfl, hbc0, hownc⟩, rfl⟩ := hcut
                      rw [← HNS.out] at hownc
                      rw [← HNS.out]
                      have HS0 := hid (show SndAt base ⟨.slice ga9 m.goals.length gc9, .slice ca9 m.choices.length cc9, .slice oa9 m.out.length oc9⟩ W9 m.goals j C.roots ns vb2 (.slice sa2 ns.length sc2) (needTo m.goals ns 0) (needTo m.goals ns 0) wc from
                        ⟨by rw [needTo_zero, goalsTo_nil]; exact (HV10.out.below hbc0).goals, Ch.of_below (HB10.out.trans (hbc0.mono hz10)), HM10.out.below hbc0, OwnF.rebase hownc (fun k hk => by have := (hownc.lt k hk).1; omega), HG9.out⟩)
                      clear hbc0 hownc HM10
                      go_wp2_with fail
                      go_loopw [156, 13] (fun i kv wr => ∃ (i1 : Nat), i1 ≤ ns.length ∧ i = .int .i64 (i1 : Int) ∧ kv = .int .i64 ((j + (needTo m.goals ns i1).length : Nat) : Int) ∧ SndAt base ⟨.slice ga9 m.goals.length gc9, .slice ca9 m.choices.length cc9, .slice oa9 m.out.length oc9⟩ W9 m.goals j C.roots ns vb2 (.slice sa2 ns.length sc2) (needTo m.goals ns i1) (needTo m.goals ns i1) wr) (fun i _ _ => ns.length - (intOf i).toNat)
                      case atStart => exact ⟨0, Nat.zero_le _, rfl, rfl, HS0.out⟩
                      case round =>
                        obtain ⟨i1, hi1, rfl, rfl, hf1⟩ := hrel
                        have HF1 := hid hf1
                        have hi0 : (0 : Int) ≤ (i1 : Int) := Int.natCast_nonneg _
                        clear hf1 HS0
                        by_cases hli : i1 < ns.length
                        · have hli2 : (i1 : Int) < (ns.length : Int) := by omega
                          obtain ⟨sg, scp, hse, -, -, -, -, -, hsl, -, hsc⟩ := OwnF.at numV_len HF1.out.st (by omega)
                          simp only [Value.slice.injEq, true_and] at hse
                          obtain ⟨rfl, rfl⟩ := hse
                          have hs0 := hsc i1 hli 0 _ rfl
                          simp only [Nat.mul_one, Nat.add_zero] at hs0
                          have HI1 := hid (HNI.out _ (List.getElem_mem hli))
                          have HU1 := hid (show Under m.goals m.h.cells (needTo m.goals ns (i1 + 1)) ns[i1] (needTo m.goals ns i1) by
                            rw [needTo_next hli]; exact Under.start (needTo_lt HNV.out i1) (needTo_nd ns i1) (HNV.out _ (List.getElem_mem hli)))
                          generalize ns[i1] = n0 at *
                          clear hsc hli'
                          go_wp2_with fail
                          clear hs0 hsl
                          go_loopw [16, 13] (fun nv kv wr => ∃ (n : Int) (vis : List Nat), nv = .int .i64 n ∧ kv = .int .i64 ((j + vis.length : Nat) : Int) ∧ Under m.goals m.h.cells (needTo m.goals ns (i1 + 1)) n vis ∧ I64 n ∧ SndAt base ⟨.slice ga9 m.goals.length gc9, .slice ca9 m.choices.length cc9, .slice oa9 m.out.length oc9⟩ W9 m.goals j C.roots ns vb2 (.slice (some ⟨sg, 0, none⟩) ns.length sc2) vis vis wr) (fun nv _ _ => (intOf nv + 1).toNat)
                          case atStart => exact ⟨n0, _, rfl, rfl, HU1.out, HI1.out, HF1.out⟩
                          case round =>
                            obtain ⟨n, vis, rfl, rfl, hun, hni, hf2⟩ := hrel
                            have HUN := hid hun
                            have HF2 := hid hf2
                            clear hun hf2 HU1 HF1 HI1
                            by_cases hn0 : n < 0
                            · have hT := hid (HUN.out.neg hn0)
                              have hnn : ¬ (0 ≤ n) := by omega
                              go_wp2_with fail
                              go_roundw
                              case rel => exact ⟨i1 + 1, by omega, by go_num, by rw [hT.out], by rw [hT.out]; exact HF2.out⟩
                              case measure => simp [intOf]; omega
                            · obtain ⟨k, rfl⟩ := Int.eq_ofNat_of_zero_le (show 0 ≤ n by omega)
                              obtain ⟨hkl, hdn⟩ := HUN.out.down (by omega)
                              rw [Int.toNat_natCast] at hkl hdn
                              have hk0 : (0 : Int) ≤ (k : Int) := Int.natCast_nonneg _
                              have hk1 : (k : Int) < (m.goals.length : Int) := by omega
                              have hbz2 := HF2.out.ch.size
                              have hvm0 := OwnB.cells HF2.out.marks k (by rw [visB_len]; exact hkl)
                              rw [visB_get] at hvm0
                              obtain ⟨hvbg, hvbl⟩ := HF2.out.marks.lt vb2 (by simp [ownB]; intro h; simp [h] at hkl)
                              by_cases hmem : k ∈ vis
                              · have hT := hid (HUN.out.seen (by omega) (by rw [Int.toNat_natCast]; exact hmem))
                                rw [decide_eq_true hmem] at hvm0
                                clear hmem hdn hn0
                                go_wp2_with fail
                                go_roundw
                                case rel => exact ⟨i1 + 1, by omega, by go_num, by rw [hT.out], by rw [hT.out]; exact HF2.out⟩
                                case measure => simp [intOf]; omega
                              · have HUN2 := hid (HUN.out.next (by omega) (by rw [Int.toNat_natCast]; exact hmem))
                                rw [Int.toNat_natCast] at HUN2
                                rw [decide_eq_false hmem] at hvm0
                                have HF3 := hid (HF2.out.mark hkl)
                                obtain ⟨-, hfv, -⟩ := OwnB.mark HF2.out.marks (k := k) (by rw [visB_len]; exact hkl)
                                have hvfew : j + vis.length < C.roots.length := by
                                  have h1 := HUN2.out.pre
                                  have h2 := (h1.trans (needTo_pre m.goals ns (i1 + 1))).length_le
                                  rw [List.length_append, List.length_singleton] at h2
                                  rw [HRL.out]; omega
                                have HNM := hid hmem
                                clear hmem hn0
                                go_wp2_with fail
                                clear hvm0 hfv
                                -- the goal's place is turned
                                have hbz3 := HF3.out.ch.size
                                obtain ⟨HV3a, HC3a⟩ := HV9.out.goalsOnly HF3.out.ch HF3.out.gl (by rw [goalsTo_len]; omega)
                                have HC3 := hid HC3a
                                have HV3 := hid HV3a
                                have HR3 := hid (nums_mid HR9.out HC3a (MGrow.refl _ _))
                                have HF3b := hid HF3.out
                                clear HV3a HC3a
                                generalize wr.setCell ⟨vb2, k, none⟩ (.bool true) = W3 at *
                                obtain ⟨b0, b1, b2, b3, b4, b5, b6, b7, b8, b9, bf⟩ := box10 HV3.out.box
                                simp only at b3
                                have hgl3 := HV3.out.lt.1
                                have hkl3 : k < (goalsTo C.roots j vis m.goals).length := by rw [goalsTo_len]; exact hkl
                                obtain ⟨gb, hgb, hogb, hgbl, -, hgf, e0, e1, e2, eok⟩ := OwnG.cells (ca := ga9) (cc := gc9) (show OwnG W3 base (goalsTo C.roots j vis m.goals) (.slice ga9 (goalsTo C.roots j vis m.goals).length gc9) by rw [goalsTo_len]; exact HF3b.out.gl) hkl3
                                subst hgb
                                rw [goalsTo_len] at hogb
                                obtain ⟨rb, ro, hrae, hrA, hrlt, hr0, hrI⟩ := nums_read HR3.out hvfew
                                subst hrae
                                have hj9 : (0 : Int) ≤ ((j + vis.length : Nat) : Int) := Int.natCast_nonneg _
                                have hj99 : ((j + vis.length : Nat) : Int) < (C.roots.length : Int) := by omega
                                have hf9 := HUN.out.few
                                have hj98 : ((j + vis.length : Nat) : Int) ≤ 7000 := by omega
                                have HRV := hid (show C.roots[j + vis.length] = (C.roots[j + vis.length]?).getD 0 by rw [List.getElem?_eq_getElem hvfew]; rfl)
                                have HF4 := hid ((HF3b.out.turn hkl HNM.out hogb (by rw [← HRV.out]; exact hrI)).drew)
                                rw [← HRV.out] at HF4
                                have HNX := hid (goalsTo_next (R := C.roots) (q := j) (vis := vis) hkl)
                                have hkk : ((k : Nat) : Int) < ((goalsTo C.roots j vis m.goals).length : Int) := by rw [goalsTo_len]; exact hk1
                                clear hrI hrA eok
                                generalize C.roots[j + vis.length] = rv at *
                                obtain ⟨jk, hjk⟩ : ∃ jk, jk = j + vis.length := ⟨_, rfl⟩
                                have HJK := hid hjk
                                rw [← hjk] at hr0 hj9 hj99 hj98 hvfew
                                rw [← hjk]
                                have he0d : ∃ u, W3.drew.cell? ⟨gb, k * 3, none⟩ = some u := ⟨_, e0⟩
                                obtain ⟨u0, he0d⟩ := he0d
                                clear hjk e0 e1 e2
                                have hb3d : W3.drew.cell? ⟨g, 3, none⟩ = some (.slice (some ⟨gb, 0, none⟩) m.goals.length gc9) := b3
                                have hr0d : W3.drew.cell? ⟨rb, ro + jk, none⟩ = some (.int .i64 rv) := hr0
                                have hgfd : ∀ o, W3.drew.frozen? ⟨gb, o, none⟩ = false := hgf
                                have hgbd : gb < W3.drew.heap.size := hgbl
                                clear b0 b1 b2 b3 b4 b5 b6 b7 b8 b9 bf hr0 hgf
                                have HF : ∀ {k' : Nat}, ((k' = 3 → W3.drew.cell? ⟨g, 3, none⟩ = some (.slice (some ⟨gb, 0, none⟩) m.goals.length gc9)) ∧ (k' = 8 → W3.drew.cell? ⟨rb, ro + jk, none⟩ = some (.int .i64 rv))) := fun {k'} => ⟨fun _ => hb3d, fun _ => hr0d⟩
                                refine wp_region_F (F := fun k' w' => (k' = 3 → w'.cell? ⟨g, 3, none⟩ = some (.slice (some ⟨gb, 0, none⟩) m.goals.length gc9)) ∧ (k' = 8 → w'.cell? ⟨rb, ro + jk, none⟩ = some (.int .i64 rv))) (by kernel_rfl) ?_
                                refine wpTk (i := 0) (v := ?_) rfl (Or.inl ⟨by rfl, ?_⟩) HF ?_
                                rotate_left
                                · (intro w' hw; clear hw; go_simp <;> with_reducible rfl)
                                try simp only [Act.put, List.setIfInBounds_toArray, List.set_cons_zero, List.set_cons_succ]
                                refine wpTk (i := 1) (v := ?_) rfl (Or.inl ⟨by rfl, ?_⟩) HF ?_
                                rotate_left
                                · (intro w' hw; clear hw; go_simp <;> with_reducible rfl)
                                try simp only [Act.put, List.setIfInBounds_toArray, List.set_cons_zero, List.set_cons_succ]
                                refine wpTk (i := 2) (v := ?_) rfl (Or.inl ⟨by rfl, ?_⟩) HF ?_
                                rotate_left
                                · (intro w' hw; clear hw; go_simp <;> with_reducible rfl)
                                try simp only [Act.put, List.setIfInBounds_toArray, List.set_cons_zero, List.set_cons_succ]
                                refine wpTk (i := 3) (v := ?_) rfl (Or.inl ⟨by rfl, ?_⟩) HF ?_
                                rotate_left
                                · (intro w' hw; have q0 := hw.1 rfl; clear hw; go_simp <;> with_reducible rfl)
                                try simp only [Act.put, List.setIfInBounds_toArray, List.set_cons_zero, List.set_cons_succ]
                                refine wpTk (i := 4) (v := ?_) rfl (Or.inl ⟨by rfl, ?_⟩) HF ?_
                                rotate_left
                                · (intro w' hw; clear hw; go_simp <;> with_reducible rfl)
                                try simp only [Act.put, List.setIfInBounds_toArray, List.set_cons_zero, List.set_cons_succ]
                                refine wpTk (i := 5) (v := ?_) rfl (Or.inl ⟨by rfl, ?_⟩) HF ?_
                                rotate_left
                                · (intro w' hw; clear hw; go_simp <;> with_reducible rfl)
                                try simp only [Act.put, List.setIfInBounds_toArray, List.set_cons_zero, List.set_cons_succ]
                                refine wpTk (i := 6) (v := ?_) rfl (Or.inl ⟨by rfl, ?_⟩) HF ?_
                                rotate_left
                                · (intro w' hw; clear hw; go_simp <;> with_reducible rfl)
                                try simp only [Act.put, List.setIfInBounds_toArray, List.set_cons_zero, List.set_cons_succ]
                                refine wpTk (i := 7) (v := ?_) rfl (Or.inl ⟨by rfl, ?_⟩) HF ?_
                                rotate_left
                                · (intro w' hw; clear hw; go_simp <;> with_reducible rfl)
                                try simp only [Act.put, List.setIfInBounds_toArray, List.set_cons_zero, List.set_cons_succ]
                                refine wpTk (i := 8) (v := ?_) rfl (Or.inl ⟨by rfl, ?_⟩) HF ?_
                                rotate_left
                                · (intro w' hw; have q0 := hw.2 rfl; clear hw; go_simp <;> with_reducible rfl)
                                try simp only [Act.put, List.setIfInBounds_toArray, List.set_cons_zero, List.set_cons_succ]
                                refine wpTk (i := 9) (v := ?_) rfl (Or.inl ⟨by rfl, ?_⟩) HF ?_
                                rotate_left
                                · (intro w' hw; clear hw; go_simp <;> with_reducible rfl)
                                try simp only [Act.put, List.setIfInBounds_toArray, List.set_cons_zero, List.set_cons_succ]
                                refine wpTk (i := 10) (v := ?_) rfl (Or.inl ⟨by rfl, ?_⟩) HF ?_
                                rotate_left
                                · (intro w' hw; clear hw; go_simp <;> with_reducible rfl)
                                try simp only [Act.put, List.setIfInBounds_toArray, List.set_cons_zero, List.set_cons_succ]
                                refine wpAnyF_one (i := 11) (by kernel_rfl) (wpOp_run rfl (by rfl) ?_)
                                go_simp
                                refine ⟨fun k' hk' _ => ⟨fun h => ?_, fun h => ?_⟩, wpAnyF_done (by kernel_rfl) ?_ _⟩
                                · subst h; exact absurd (hk'.symm.trans (by kernel_rfl) : false = true) Bool.false_ne_true
                                · subst h; exact absurd (hk'.symm.trans (by kernel_rfl) : false = true) Bool.false_ne_true
                                clear HF hb3d hr0d hgfd he0d
                                have hbz4 := HF4.out.ch.size
                                obtain ⟨HV4a, HC4a⟩ := HV9.out.goalsOnly HF4.out.ch HF4.out.gl (by rw [goalsTo_len]; omega)
                                have HV4 := hid HV4a
                                clear HV4a HC4a
                                try simp only [Act.put, List.setIfInBounds_toArray, List.set_cons_zero, List.set_cons_succ]
                                generalize (W3.setCell ⟨gb, k * 3, none⟩ (.int .i64 rv)).drew = W4 at *
                                obtain ⟨b0, b1, b2, b3, b4, b5, b6, b7, b8, b9, bf⟩ := box10 HV4.out.box
                                simp only at b3
                                have hgl4 := HV4.out.lt.1
                                have hkl4 : k < (goalsTo C.roots j (vis ++ [k]) m.goals).length := by rw [goalsTo_len]; exact hkl
                                obtain ⟨gb4, hgb4, -, hgbl4, -, -, e0, e1, e2, -⟩ := OwnG.cells (ca := some ⟨gb, 0, none⟩) (cc := gc9) (show OwnG W4 base (goalsTo C.roots j (vis ++ [k]) m.goals) (.slice (some ⟨gb, 0, none⟩) (goalsTo C.roots j (vis ++ [k]) m.goals).length gc9) by rw [goalsTo_len]; exact HF4.out.gl) hkl4
                                simp only [Option.some.injEq, Addr.mk.injEq, and_true] at hgb4
                                subst hgb4
                                rw [goalsTo_next hkl] at e2
                                have HDN := hid hdn
                                have hwj : IntKind.i64.wrap ((jk : Int) + 1) = (jk : Int) + 1 := IntWalk.i64_in _ (by omega)
                                have HIX := hid (show I64 ((m.goals[k]?).getD default).next by
                                  have h1 := HV9.out.goals.2 _ (List.getElem_mem hkl)
                                  rw [List.getElem?_eq_getElem hkl]
                                  exact h1.2.1)
                                generalize ((m.goals[k]?).getD default).next = nx at *
                                clear hdn e0 e1
                                go_wp2_with fail
                                go_roundw
                                case rel => exact ⟨nx, vis ++ [k], rfl, by have := HJK.out; rw [List.length_append, List.length_singleton]; go_num, HUN2.out, HIX.out, HF4.out⟩
                                case measure => have := HDN.out; simp [intOf]; omega
                        · have hT := hid (needTo_all (gs := m.goals) (ns := ns) (j := i1) (by omega))
                          have hli3 : (ns.length : Int) ≤ (i1 : Int) := by omega
                          have hf5 := HF1.out
                          rw [hT.out] at hf5
                          obtain ⟨HV11a, HC11a⟩ := HV9.out.goalsOnly hf5.ch hf5.gl (by rw [goalsTo_len]; omega)
                          have HCR := hid (show m.choices = cs.reverse by rw [HCS.out, List.reverse_reverse])
                          have HV11 := hid (show MvI base P j g (.slice pa P.length pc) (.slice ha9 C.heap.cells.length hac9) (.slice hb9 C.heap.trail.length hbc9) ⟨.slice ga9 m.goals.length gc9, .slice ca9 m.choices.length cc9, .slice oa9 m.out.length oc9⟩ ⟨C.heap, goalsTo C.roots j (neededM m.goals ns) m.goals, (chcTo C.tops C.mks 0 cs).reverse, m.now, qr, m.fuel, m.out⟩ wr by
                            rw [chcTo_zero, ← HCR.out]; exact HV11a)
                          have HC11 := hid HC11a
                          have HT11 := hid (nums_mid HT9.out HC11a (MGrow.refl _ _))
                          have HK11 := hid (nums_mid HK9.out HC11a (MGrow.refl _ _))
                          obtain ⟨W11, hW11⟩ : ∃ W : World, W = wr := ⟨_, rfl⟩
                          rw [← hW11] at HV11 HC11 HT11 HK11
                          obtain ⟨b0, b1, b2, b3, b4, b5, b6, b7, b8, b9, bf⟩ := box10 HV11.out.box
                          simp only at b4
                          have hgl11 := HV11.out.lt.1
                          rw [← hW11]
                          clear hf5 HV11a HC11a hT hli hli' hW11
                          go_wp2_with fail
                          clear b0 b1 b2 b3 b4 b5 b6 b7 b8 b9 bf
                          go_loopw [199] (fun i wr => ∃ (j7 : Nat), j7 ≤ cs.length ∧ i = .int .i64 (j7 : Int) ∧ MvI base P j g (.slice pa P.length pc) (.slice ha9 C.heap.cells.length hac9) (.slice hb9 C.heap.trail.length hbc9) ⟨.slice ga9 m.goals.length gc9, .slice ca9 m.choices.length cc9, .slice oa9 m.out.length oc9⟩ ⟨C.heap, goalsTo C.roots j (neededM m.goals ns) m.goals, (chcTo C.tops C.mks j7 cs).reverse, m.now, qr, m.fuel, m.out⟩ wr ∧ Ch (MM g ⟨.slice ga9 m.goals.length gc9, .slice ca9 m.choices.length cc9, .slice oa9 m.out.length oc9⟩) W11 wr) (fun i _ => cs.length - (intOf i).toNat)
                          case atStart => exact ⟨0, Nat.zero_le _, rfl, HV11.out, Ch.refl _ _⟩
                          case round =>
                            obtain ⟨j7, hj7, rfl, hmv, hch⟩ := hrel
                            have HV := hid hmv
                            have HCH := hid hch
                            have hj70 : (0 : Int) ≤ (j7 : Int) := Int.natCast_nonneg _
                            clear hmv hch
                            by_cases hl7 : j7 < cs.length
                            · have hl7m : j7 < m.choices.length := by rw [HCL.out]; exact hl7
                              have hl7' : (j7 : Int) < (m.choices.length : Int) := by omega
                              have hown7 : OwnM wr base (chcTo C.tops C.mks j7 cs) (.slice ca9 (chcTo C.tops C.mks j7 cs).length cc9) := by
                                have := HV.out.chc
                                simp only [List.reverse_reverse] at this
                                rw [chcTo_len, ← HCL.out]; exact this
                              have hl7k : j7 < (chcTo C.tops C.mks j7 cs).length := by rw [chcTo_len]; exact hl7
                              obtain ⟨cb, rfl, hocb, hcbl, -, hcf, -, -, d2, d3, -⟩ := OwnM.cells hown7 hl7k
                              rw [chcTo_len, ← HCL.out] at hocb
                              have HOCB := hid hocb
                              obtain ⟨tb, tof, rfl, -, -, ht0, htI⟩ := nums_read (nums_mid HT11.out HCH.out (MGrow.refl _ _)) (k := j7) (by rw [HC5.out.2.1]; exact hl7m)
                              obtain ⟨kb, kof, rfl, -, -, hk0, hkI⟩ := nums_read (nums_mid HK11.out HCH.out (MGrow.refl _ _)) (k := j7) (by rw [HC5.out.2.2.1]; exact hl7m)
                              have htl : j7 < C.tops.length := by rw [HC5.out.2.1]; exact hl7m
                              have hkl : j7 < C.mks.length := by rw [HC5.out.2.2.1]; exact hl7m
                              have htl' : (j7 : Int) < (C.tops.length : Int) := by omega
                              have hkl' : (j7 : Int) < (C.mks.length : Int) := by omega
                              have HTB := hid (HC5.out.2.2.2.1 _ (List.getElem_mem htl))
                              have HKB := hid (HC5.out.2.2.2.2 _ (List.getElem_mem hkl))
                              have HSTP := hid (chcTo_step (tops := C.tops) (mks := C.mks) hl7)
                              rw [List.getElem?_eq_getElem htl, List.getElem?_eq_getElem hkl] at HSTP
                              simp only [Option.getD_some] at HSTP
                              obtain ⟨HN7, HCN7⟩ := HV.out.setC2 (n := j7) (x := cs[j7]) (tv := C.tops[j7]) (kv := C.mks[j7]) hl7k hocb (chcTo_get hl7) HTB.out HKB.out
                              rw [HSTP.out] at HN7
                              have HV2 := hid (HN7.below ((Below.refl _ _).drew))
                              have HCH2 := hid ((HCH.out.trans HCN7 (fun b h => .inl h)).drew)
                              clear HN7 HCN7 HTB HKB HSTP
                              generalize C.tops[j7] = tv at *
                              generalize C.mks[j7] = kv at *
                              clear htl hkl htI hkI
                              obtain ⟨b0, b1, b2, b3, b4, b5, b6, b7, b8, b9, bf⟩ := box10 HV.out.box
                              simp only at b4
                              have hcs := cell_set
                              have hgl7 := HV.out.lt.1
                              have hj7k : (j7 : Int) ≤ 1000 := by omega
                              clear hocb b0 b1 b2 b3 b5 b6 b7 b8 b9 bf
                              go_wp2_with fail
                              have hb4d : wr.drew.cell? ⟨g, 4, none⟩ = some (.slice (some ⟨cb, 0, none⟩) m.choices.length cc9) := b4
                              have ht0d : wr.drew.cell? ⟨tb, tof + j7, none⟩ = some (.int .i64 tv) := ht0
                              have hk0d : wr.drew.cell? ⟨kb, kof + j7, none⟩ = some (.int .i64 kv) := hk0
                              have hcfd : ∀ o, wr.drew.frozen? ⟨cb, o, none⟩ = false := hcf
                              have hcbd : cb < wr.drew.heap.size := hcbl
                              obtain ⟨u2, hd2⟩ : ∃ u, wr.drew.cell? ⟨cb, j7 * 4 + 2, none⟩ = some u := ⟨_, d2⟩
                              obtain ⟨u3', hd3⟩ : ∃ u, wr.drew.cell? ⟨cb, j7 * 4 + 3, none⟩ = some u := ⟨_, d3⟩
                              have HF : ∀ {k' : Nat}, ((k' = 3 ∨ k' = 8 → wr.drew.cell? ⟨g, 4, none⟩ = some (.slice (some ⟨cb, 0, none⟩) m.choices.length cc9)) ∧ (k' = 13 → wr.drew.cell? ⟨tb, tof + j7, none⟩ = some (.int .i64 tv)) ∧ (k' = 17 → wr.drew.cell? ⟨kb, kof + j7, none⟩ = some (.int .i64 kv))) := fun {k'} => ⟨fun _ => hb4d, fun _ => ht0d, fun _ => hk0d⟩
                              refine wp_region_F (F := fun k' w' => (k' = 3 ∨ k' = 8 → w'.cell? ⟨g, 4, none⟩ = some (.slice (some ⟨cb, 0, none⟩) m.choices.length cc9)) ∧ (k' = 13 → w'.cell? ⟨tb, tof + j7, none⟩ = some (.int .i64 tv)) ∧ (k' = 17 → w'.cell? ⟨kb, kof + j7, none⟩ = some (.int .i64 kv))) (by kernel_rfl) ?_
                              clear b4 ht0 hk0 hcf d2 d3
                              refine wpTk (i := 0) (v := ?_) rfl (Or.inl ⟨by rfl, ?_⟩) HF ?_
                              rotate_left
                              · (intro w' hw; clear hw; go_simp <;> with_reducible rfl)
                              try simp only [Act.put, List.setIfInBounds_toArray, List.set_cons_zero, List.set_cons_succ]
                              refine wpTk (i := 1) (v := ?_) rfl (Or.inl ⟨by rfl, ?_⟩) HF ?_
                              rotate_left
                              · (intro w' hw; clear hw; go_simp <;> with_reducible rfl)
                              try simp only [Act.put, List.setIfInBounds_toArray, List.set_cons_zero, List.set_cons_succ]
                              refine wpTk (i := 2) (v := ?_) rfl (Or.inl ⟨by rfl, ?_⟩) HF ?_
                              rotate_left
                              · (intro w' hw; clear hw; go_simp <;> with_reducible rfl)
                              try simp only [Act.put, List.setIfInBounds_toArray, List.set_cons_zero, List.set_cons_succ]
                              refine wpTk (i := 3) (v := ?_) rfl (Or.inl ⟨by rfl, ?_⟩) HF ?_
                              rotate_left
                              · (intro w' hw; have q0 := hw.1 (.inl rfl); clear hw; go_simp <;> with_reducible rfl)
                              try simp only [Act.put, List.setIfInBounds_toArray, List.set_cons_zero, List.set_cons_succ]
                              refine wpTk (i := 4) (v := ?_) rfl (Or.inl ⟨by rfl, ?_⟩) HF ?_
                              rotate_left
                              · (intro w' hw; clear hw; go_simp <;> with_reducible rfl)
                              try simp only [Act.put, List.setIfInBounds_toArray, List.set_cons_zero, List.set_cons_succ]
                              refine wpTk (i := 5) (v := ?_) rfl (Or.inl ⟨by rfl, ?_⟩) HF ?_
                              rotate_left
                              · (intro w' hw; clear hw; go_simp <;> with_reducible rfl)
                              try simp only [Act.put, List.setIfInBounds_toArray, List.set_cons_zero, List.set_cons_succ]
                              refine wpTk (i := 6) (v := ?_) rfl (Or.inl ⟨by rfl, ?_⟩) HF ?_
                              rotate_left
                              · (intro w' hw; clear hw; go_simp <;> with_reducible rfl)
                              try simp only [Act.put, List.setIfInBounds_toArray, List.set_cons_zero, List.set_cons_succ]
                              refine wpTk (i := 7) (v := ?_) rfl (Or.inl ⟨by rfl, ?_⟩) HF ?_
                              rotate_left
                              · (intro w' hw; clear hw; go_simp <;> with_reducible rfl)
                              try simp only [Act.put, List.setIfInBounds_toArray, List.set_cons_zero, List.set_cons_succ]
                              refine wpTk (i := 8) (v := ?_) rfl (Or.inl ⟨by rfl, ?_⟩) HF ?_
                              rotate_left
                              · (intro w' hw; have q0 := hw.1 (.inr rfl); clear hw; go_simp <;> with_reducible rfl)
                              try simp only [Act.put, List.setIfInBounds_toArray, List.set_cons_zero, List.set_cons_succ]
                              refine wpTk (i := 9) (v := ?_) rfl (Or.inl ⟨by rfl, ?_⟩) HF ?_
                              rotate_left
                              · (intro w' hw; clear hw; go_simp <;> with_reducible rfl)
                              try simp only [Act.put, List.setIfInBounds_toArray, List.set_cons_zero, List.set_cons_succ]
                              refine wpTk (i := 10) (v := ?_) rfl (Or.inl ⟨by rfl, ?_⟩) HF ?_
                              rotate_left
                              · (intro w' hw; clear hw; go_simp <;> with_reducible rfl)
                              try simp only [Act.put, List.setIfInBounds_toArray, List.set_cons_zero, List.set_cons_succ]
                              refine wpTk (i := 11) (v := ?_) rfl (Or.inl ⟨by rfl, ?_⟩) HF ?_
                              rotate_left
                              · (intro w' hw; clear hw; go_simp <;> with_reducible rfl)
                              try simp only [Act.put, List.setIfInBounds_toArray, List.set_cons_zero, List.set_cons_succ]
                              refine wpTk (i := 12) (v := ?_) rfl (Or.inl ⟨by rfl, ?_⟩) HF ?_
                              rotate_left
                              · (intro w' hw; clear hw; go_simp <;> with_reducible rfl)
                              try simp only [Act.put, List.setIfInBounds_toArray, List.set_cons_zero, List.set_cons_succ]
                              refine wpTk (i := 13) (v := ?_) rfl (Or.inl ⟨by rfl, ?_⟩) HF ?_
                              rotate_left
                              · (intro w' hw; have q0 := hw.2.1 rfl; clear hw; go_simp <;> with_reducible rfl)
                              try simp only [Act.put, List.setIfInBounds_toArray, List.set_cons_zero, List.set_cons_succ]
                              refine wpTk (i := 14) (v := ?_) rfl (Or.inl ⟨by rfl, ?_⟩) HF ?_
                              rotate_left
                              · (intro w' hw; clear hw; go_simp <;> with_reducible rfl)
                              try simp only [Act.put, List.setIfInBounds_toArray, List.set_cons_zero, List.set_cons_succ]
                              refine wpTk (i := 15) (v := ?_) rfl (Or.inl ⟨by rfl, ?_⟩) HF ?_
                              rotate_left
                              · (intro w' hw; clear hw; go_simp <;> with_reducible rfl)
                              try simp only [Act.put, List.setIfInBounds_toArray, List.set_cons_zero, List.set_cons_succ]
                              refine wpTk (i := 16) (v := ?_) rfl (Or.inl ⟨by rfl, ?_⟩) HF ?_
                              rotate_left
                              · (intro w' hw; clear hw; go_simp <;> with_reducible rfl)
                              try simp only [Act.put, List.setIfInBounds_toArray, List.set_cons_zero, List.set_cons_succ]
                              refine wpTk (i := 17) (v := ?_) rfl (Or.inl ⟨by rfl, ?_⟩) HF ?_
                              rotate_left
                              · (intro w' hw; have q0 := hw.2.2 rfl; clear hw; go_simp <;> with_reducible rfl)
                              try simp only [Act.put, List.setIfInBounds_toArray, List.set_cons_zero, List.set_cons_succ]
                              refine wpTk (i := 18) (v := ?_) rfl (Or.inl ⟨by rfl, ?_⟩) HF ?_
                              rotate_left
                              · (intro w' hw; clear hw; go_simp <;> with_reducible rfl)
                              try simp only [Act.put, List.setIfInBounds_toArray, List.set_cons_zero, List.set_cons_succ]
                              refine wpTk (i := 19) (v := ?_) rfl (Or.inl ⟨by rfl, ?_⟩) HF ?_
                              rotate_left
                              · (intro w' hw; clear hw; go_simp <;> with_reducible rfl)
                              try simp only [Act.put, List.setIfInBounds_toArray, List.set_cons_zero, List.set_cons_succ]
                              refine wpAnyF_one (i := 20) (by kernel_rfl) (wpOp_run rfl (by rfl) ?_)
                              go_simp
                              refine ⟨fun k' hk' _ => ⟨fun h => ?_, fun h => ?_, fun h => ?_⟩, ?_⟩
                              · rcases h with h | h <;> subst h <;> exact absurd (hk'.symm.trans (by kernel_rfl) : false = true) Bool.false_ne_true
                              · subst h; exact absurd (hk'.symm.trans (by kernel_rfl) : false = true) Bool.false_ne_true
                              · subst h; exact absurd (hk'.symm.trans (by kernel_rfl) : false = true) Bool.false_ne_true
                              try simp only [Act.put, List.setIfInBounds_toArray, List.set_cons_zero, List.set_cons_succ]
                              have HF2 : ∀ {k' : Nat} {w' : World}, 17 < k' → ((k' = 3 ∨ k' = 8 → w'.cell? ⟨g, 4, none⟩ = some (.slice (some ⟨cb, 0, none⟩) m.choices.length cc9)) ∧ (k' = 13 → w'.cell? ⟨tb, tof + j7, none⟩ = some (.int .i64 tv)) ∧ (k' = 17 → w'.cell? ⟨kb, kof + j7, none⟩ = some (.int .i64 kv))) := fun {k' w'} h17 => ⟨fun h => by omega, fun h => by omega, fun h => by omega⟩
                              refine wpTk (i := 21) (v := ?_) rfl (Or.inl ⟨by rfl, ?_⟩) (HF2 (by omega)) ?_
                              rotate_left
                              · (intro w' hw; clear hw; go_simp <;> with_reducible rfl)
                              try simp only [Act.put, List.setIfInBounds_toArray, List.set_cons_zero, List.set_cons_succ]
                              refine wpTk (i := 22) (v := ?_) rfl (Or.inl ⟨by rfl, ?_⟩) (HF2 (by omega)) ?_
                              rotate_left
                              · (intro w' hw; clear hw; go_simp <;> with_reducible rfl)
                              try simp only [Act.put, List.setIfInBounds_toArray, List.set_cons_zero, List.set_cons_succ]
                              have hd3w : wr.cell? ⟨cb, j7 * 4 + 3, none⟩ = some u3' := hd3
                              have hcfw : ∀ o, wr.frozen? ⟨cb, o, none⟩ = false := hcfd
                              refine wpAnyF_one (i := 23) (by kernel_rfl) (wpOp_run rfl (by rfl) ?_)
                              go_simp
                              refine ⟨fun k' hk' _ => ⟨fun h => ?_, fun h => ?_, fun h => ?_⟩, wpAnyF_done (by kernel_rfl) ?_ _⟩
                              · rcases h with h | h <;> subst h <;> exact absurd (hk'.symm.trans (by kernel_rfl) : false = true) Bool.false_ne_true
                              · subst h; exact absurd (hk'.symm.trans (by kernel_rfl) : false = true) Bool.false_ne_true
                              · subst h; exact absurd (hk'.symm.trans (by kernel_rfl) : false = true) Bool.false_ne_true
                              clear HF hb4d ht0d hk0d hcfd hd2 hd3 hcs hd3w hcfw
                              try simp only [Act.put, List.setIfInBounds_toArray, List.set_cons_zero, List.set_cons_succ]
                              go_wp2_with fail
                              go_roundw
                              case rel => exact ⟨j7 + 1, by omega, by go_num, HV2.out, HCH2.out⟩
                              case measure => simp [intOf]; omega
                            · have hje : j7 = cs.length := by omega
                              have hl7' : (m.choices.length : Int) ≤ (j7 : Int) := by rw [HCL.out]; omega
                              have hres := hid (HCM.out.trans (if_neg (not_not_intro hce)))
                              have hv9 := HV.out
                              rw [hje] at hv9
                              have HV9' := hid hv9
                              clear hv9 hje
                              go_wp2_with fail
                              refine bodyPost_end (v := .tuple #[]) (by simp [results, Try.results53, go_sem]) rfl ?_
                              rw [hres.out, ← HQR.out]
                              exact ⟨⟨_, rfl⟩, MaStep.trans (Ch.of_below HB6'.out) (MGrow.refl w _) (MaStep.trans HCH8.out HGR8.out (MaStep.trans HCH9.out HGR9.out ⟨_, _, _, HV9'.out, HC11.out.trans HCH.out (fun b h => .inl h), MGrow.refl _ _⟩))⟩
                · have hres := hid (HCM.out.trans (if_pos hce))
                  have hce' : (C.err == 0) = false := by simpa using hce
                  go_wp2_with fail
                  refine bodyPost_ret (v := .tuple #[]) (by simp [results, Try.results53, go_sem]) rfl ?_
                  rw [hres.out]
                  exact ⟨⟨_, rfl⟩, (MaStep.refl HU.out).below (HB6'.out.alloc hz6' _)⟩
end
end Go.Proofs.Ytlpmfkpefoegeab
