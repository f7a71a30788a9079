/-
  term.GoodClause, GoodProgram.
-/
import Derived.Test.YtlpmfkpefoegeacDoorQClause
namespace Go.Proofs.YtlpmfkpefoegeacDoor
set_option linter.unusedVariables false
set_option linter.unusedSimpArgs false
set_option maxRecDepth 100000
open Go.RowKit
theorem blk6 {w : World} {g : Nat} {E : TypeId} {v0 v1 v2 v3 v4 v5 : Value} (h : w.heap[g]? = some (.cells #[v0, v1, v2, v3, v4, v5] E (0, 0))) :
    w.cell? ⟨g, 0, none⟩ = some v0 ∧ w.cell? ⟨g, 1, none⟩ = some v1 ∧ w.cell? ⟨g, 2, none⟩ = some v2 ∧ w.cell? ⟨g, 3, none⟩ = some v3 ∧ w.cell? ⟨g, 4, none⟩ = some v4 ∧ w.cell? ⟨g, 5, none⟩ = some v5 ∧ ∀ o, w.frozen? ⟨g, o, none⟩ = false :=
  ⟨(blk_cell h 0).trans rfl, (blk_cell h 1).trans rfl, (blk_cell h 2).trans rfl, (blk_cell h 3).trans rfl, (blk_cell h 4).trans rfl, (blk_cell h 5).trans rfl, fun o => by simp [World.frozen?, h]⟩
def Cl.nodes (c : Cl) : Nat := c.head.nodes + Tm.nodesL c.body
set_option maxHeartbeats 2000000 in
theorem goodClause_ok (c : Cl) (hnd : c.nodes ≤ 1099511627776) (A : Nat → Prop) (w : World) (vs : List Value) (hc : Cl.rep A w c vs) :
    Calls Tryd.prog 28 #[.agg vs.toArray] w (Pure w (BoolP c.Good)) := by
  obtain ⟨h, l, v⟩ := c
  obtain ⟨a, ac, b, bc, rfl, hh, hb, hi⟩ := hc
  simp only [Cl.nodes] at hnd
  simp only at hh hb hi
  obtain ⟨_, _, -, -, e, -, -, hbl, -⟩ := hb.at
  have HH := hid hh
  have HBD := hid hb
  have HI := hid hi
  have HN1 := hid (show h.nodes ≤ 1099511627776 by omega)
  have HN2 := hid (show Tm.nodesL l ≤ 1099511627776 by omega)
  have i1 : v ≤ 9223372036854775807 := by unfold I64 at hi; omega
  have i2 : -9223372036854775808 ≤ v := by unfold I64 at hi; omega
  clear hh hb hi e hnd
  have HX := hid (blk_new w (.cells #[.int .i64 h.kind, .int .i64 h.n, .string h.s, .slice a h.args.length ac, .slice b l.length bc, .int .i64 v] 48))
  have HB := hid ((Below.refl _ w).alloc (Nat.le_refl _) (.cells #[.int .i64 h.kind, .int .i64 h.n, .string h.s, .slice a h.args.length ac, .slice b l.length bc, .int .i64 v] 48))
  have HK := hid (Keeps.alloc A w (.cells #[.int .i64 h.kind, .int .i64 h.n, .string h.s, .slice a h.args.length ac, .slice b l.length bc, .int .i64 v] 48))
  by_cases h1 : v < 0
  · go_enter Tryd.func28, Tryd.ntmps28
    go_wp2_with fail
    go_ret
    exact ⟨_, rfl, HB.out, _, rfl, ⟨(fun h => by first | (cases h; done) | (simp at h; omega)), fun h => absurd h.1.1 (by simp only; omega)⟩⟩
  by_cases h2 : 8 < v
  · go_enter Tryd.func28, Tryd.ntmps28
    go_wp2_with fail
    go_ret
    exact ⟨_, rfl, HB.out, _, rfl, ⟨(fun h => by first | (cases h; done) | (simp at h; omega)), fun h => absurd h.1.2.1 (by simp only; omega)⟩⟩
  by_cases h3 : 5 < l.length
  · have h3' : (5 : Int) < (l.length : Int) := by omega
    go_enter Tryd.func28, Tryd.ntmps28
    go_wp2_with fail
    go_ret
    exact ⟨_, rfl, HB.out, _, rfl, ⟨(fun h => by first | (cases h; done) | (simp at h; omega)), fun h => absurd h.1.2.2.1 (by simp only; omega)⟩⟩
  have h3' : ¬ (5 : Int) < (l.length : Int) := by omega
  go_enter Tryd.func28, Tryd.ntmps28
  go_wp2_with fail
  have HC1 := hid (isGoal_ok h A _ _ (Tm.rep_lasts.1 _ _ _ _ _ HH.out HK.out))
  generalize w.alloc (.cells #[.int .i64 h.kind, .int .i64 h.n, .string h.s, .slice a h.args.length ac, .slice b l.length bc, .int .i64 v] 48) = w0 at HX HB HK HC1 ⊢
  refine (HC1.out).mono ?_
  rintro e w1 ⟨r, rfl, hb1, g, rfl, hg⟩
  have HX1 := hid (blk_below HX.out hb1)
  have HB1 := hid (HB.out.trans (hb1.mono HB.out.size))
  have HK1 := hid (HK.out.trans (Keeps.of_below hb1))
  clear hb1 HC1
  obtain ⟨x0, x1, x2, x3, x4, x5, xf⟩ := blk6 HX1.out
  cases g with
  | false =>
    have HNG := hid (show ¬ h.IsGoal from fun k => by have := hg.2 k; cases this)
    clear hg
    go_wp2_with fail
    go_ret
    exact ⟨_, rfl, HB1.out, _, rfl, ⟨(fun h => by cases h), fun k => absurd k.2.1 HNG.out⟩⟩
  | true =>
    have HGD := hid (hg.1 rfl)
    clear hg
    go_wp2_with fail
    refine (fits_ok h v HN1.out HI.out A _ _ (Tm.rep_lasts.1 _ _ _ _ _ HH.out HK1.out)).mono ?_
    rintro e w2 ⟨r, rfl, hb2, g, rfl, hg⟩
    clear x0 x1 x2 x3 x4 x5 xf
    have HX2 := hid (blk_below HX1.out hb2)
    have HB2 := hid (HB1.out.trans (hb2.mono HB1.out.size))
    have HK2 := hid (HK1.out.trans (Keeps.of_below hb2))
    clear hb2
    obtain ⟨x0, x1, x2, x3, x4, x5, xf⟩ := blk6 HX2.out
    cases g with
    | false =>
      have HNG := hid (show ¬ h.Fits v from fun k => by have := hg.2 k; cases this)
      clear hg
      go_wp2_with fail
      go_ret
      exact ⟨_, rfl, HB2.out, _, rfl, ⟨(fun h => by cases h), fun k => absurd k.2.2.1 HNG.out⟩⟩
    | true =>
      have HFT := hid (hg.1 rfl)
      clear hg
      go_wp2_with fail
      refine (known_ok h A _ _ (Tm.rep_lasts.1 _ _ _ _ _ HH.out HK2.out)).mono ?_
      rintro e w3 ⟨r, rfl, hb3, g, rfl, hg⟩
      clear x0 x1 x2 x3 x4 x5 xf
      have HX3 := hid (blk_below HX2.out hb3)
      have HB3 := hid (HB2.out.trans (hb3.mono HB2.out.size))
      have HK3 := hid (HK2.out.trans (Keeps.of_below hb3))
      clear hb3
      obtain ⟨x0, x1, x2, x3, x4, x5, xf⟩ := blk6 HX3.out
      cases g with
      | true =>
        have HKN := hid (hg.1 rfl)
        clear hg
        go_wp2_with fail
        go_ret
        exact ⟨_, rfl, HB3.out, _, rfl, ⟨(fun h => by cases h), fun k => absurd HKN.out k.2.2.2⟩⟩
      | false =>
        have HNK := hid (show ¬ h.Known from fun k => by have := hg.2 k; cases this)
        clear hg
        go_wp2_with fail
        refine (goals_ok l v HN2.out HI.out A _ _ (SlR.keeps Tm.rep_lasts HBD.out HK3.out)).mono ?_
        rintro e w4 ⟨r, rfl, hb4, g, rfl, hg⟩
        have HB4 := hid (HB3.out.trans (hb4.mono HB3.out.size))
        have HG := hid hg
        clear hb4 hg x0 x1 x2 x3 x4 x5 xf
        go_wp2_with fail
        go_ret
        exact ⟨_, rfl, HB4.out, _, rfl, by rw [HG.out]; exact ⟨fun k => ⟨⟨by simp only; omega, by simp only; omega, by simp only; omega, k⟩, HGD.out, HFT.out, HNK.out⟩, fun k => k.1.2.2.2⟩⟩
/-! programs -/
abbrev ClsR (A : Nat → Prop) (w : World) (l : List Cl) (v : Value) : Prop := SlR 6 Cl.rep A w l v
theorem rowAt6 {w : World} {b off : Nat} {v0 v1 v2 v3 v4 v5 : Value} (h : RowAt w b off [v0, v1, v2, v3, v4, v5]) :
    w.cell? ⟨b, off, none⟩ = some v0 ∧ w.cell? ⟨b, off + 1, none⟩ = some v1 ∧ w.cell? ⟨b, off + 2, none⟩ = some v2 ∧ w.cell? ⟨b, off + 3, none⟩ = some v3 ∧ w.cell? ⟨b, off + 4, none⟩ = some v4 ∧ w.cell? ⟨b, off + 5, none⟩ = some v5 :=
  ⟨h 0 _ rfl, h 1 _ rfl, h 2 _ rfl, h 3 _ rfl, h 4 _ rfl, h 5 _ rfl⟩
theorem cl_cells {A : Nat → Prop} {w wr : World} {l : List Cl} {b off : Nat} (he : Elems A w 6 Cl.rep l b off) (hA : A b) (hk : Keeps A w wr) {j : Nat} (hlt : j < l.length) :
    ∃ a ac bd bc, wr.cell? ⟨b, off + j * 6, none⟩ = some (.int .i64 l[j].head.kind) ∧ wr.cell? ⟨b, off + j * 6 + 1, none⟩ = some (.int .i64 l[j].head.n) ∧ wr.cell? ⟨b, off + j * 6 + 2, none⟩ = some (.string l[j].head.s) ∧
      wr.cell? ⟨b, off + j * 6 + 3, none⟩ = some (.slice a l[j].head.args.length ac) ∧ wr.cell? ⟨b, off + j * 6 + 4, none⟩ = some (.slice bd l[j].body.length bc) ∧ wr.cell? ⟨b, off + j * 6 + 5, none⟩ = some (.int .i64 l[j].vars) ∧
      Cl.rep A wr l[j] [.int .i64 l[j].head.kind, .int .i64 l[j].head.n, .string l[j].head.s, .slice a l[j].head.args.length ac, .slice bd l[j].body.length bc, .int .i64 l[j].vars] := by
  obtain ⟨vs, hvl, hr, hrow⟩ := he j _ (List.getElem?_eq_getElem hlt)
  have hr' := Cl.rep_lasts.1 _ _ _ _ _ hr hk
  obtain ⟨a, ac, bd, bc, rfl, -⟩ := hr
  obtain ⟨d0, d1, d2, d3, d4, d5⟩ := rowAt6 (RowAt.keeps hA hrow hk)
  exact ⟨a, ac, bd, bc, d0, d1, d2, d3, d4, d5, hr'⟩
def GoodP (l : List Cl) : Prop := l.length ≤ 24 ∧ ∀ c ∈ l, c.Good
end Go.Proofs.YtlpmfkpefoegeacDoor
