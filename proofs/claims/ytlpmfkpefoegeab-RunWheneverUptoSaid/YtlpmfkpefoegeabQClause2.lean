/-
  term.GoodClause, GoodProgram.
-/
import Derived.Test.YtlpmfkpefoegeabQFits
namespace Go.Proofs.Ytlpmfkpefoegeab
set_option linter.unusedVariables false
set_option linter.unusedSimpArgs false
set_option maxRecDepth 100000
open Go.RowKit
structure Cl where
  head : Tm
  body : List Tm
  vars : Int
def Cl.rep (A : Nat → Prop) (w : World) (c : Cl) (vs : List Value) : Prop :=
  ∃ a ac b bc, vs = [.int .i64 c.head.kind, .int .i64 c.head.n, .string c.head.s, .slice a c.head.args.length ac, .slice b c.body.length bc, .int .i64 c.vars] ∧
    Tm.rep A w c.head [.int .i64 c.head.kind, .int .i64 c.head.n, .string c.head.s, .slice a c.head.args.length ac] ∧ TmsR A w c.body (.slice b c.body.length bc) ∧ I64 c.vars
theorem Cl.rep_lasts : Lasts Cl.rep := by
  refine ⟨fun A w w' c vs h hk => ?_, fun A A' w c vs h hA => ?_, fun A w c vs h => ?_⟩
  · obtain ⟨a, ac, b, bc, rfl, h1, h2, h3⟩ := h
    exact ⟨a, ac, b, bc, rfl, Tm.rep_lasts.1 _ _ _ _ _ h1 hk, SlR.keeps Tm.rep_lasts h2 hk, h3⟩
  · obtain ⟨a, ac, b, bc, rfl, h1, h2, h3⟩ := h
    exact ⟨a, ac, b, bc, rfl, Tm.rep_lasts.2.1 _ _ _ _ _ h1 hA, SlR.mono Tm.rep_lasts (by omega) h2 hA, h3⟩
  · obtain ⟨a, ac, b, bc, rfl, h1, h2, h3⟩ := h
    intro u hu
    simp only [List.mem_cons, List.not_mem_nil, or_false] at hu
    rcases hu with rfl | rfl | rfl | rfl | rfl | rfl <;> rfl
theorem nodesL_mem {l : List Tm} {t : Tm} (h : t ∈ l) : t.nodes ≤ Tm.nodesL l := by
  induction l with
  | nil => cases h
  | cons x r ih =>
    simp only [Tm.nodesL]
    rcases List.mem_cons.1 h with rfl | h
    · omega
    · have := ih h; omega
set_option maxHeartbeats 1000000 in
theorem goals_ok (l : List Tm) (v : Int) (hnd : Tm.nodesL l ≤ 1099511627776) (hi : I64 v) (A : Nat → Prop) (w : World) (u : Value) (hu : TmsR A w l u) :
    Calls Try.prog 50 #[u, .int .i64 v] w (Pure w (BoolP (∀ g ∈ l, g.IsGoal ∧ g.Fits v))) := by
  obtain ⟨a, cap, b, off, rfl, hlc, hcm, hlb, ha, he⟩ := hu.at
  have HE := hid he
  have HA := hid ha
  have HI := hid hi
  have HND := hid hnd
  clear hu he ha hi hnd
  go_enter Try.func50, Try.ntmps50
  go_wp2_with fail
  go_loopw [9] (fun i W => ∃ j : Nat, j ≤ l.length ∧ i = .int .i64 (j : Int) ∧ Below w.heap.size w W ∧ ∀ q (hq : q < l.length), q < j → l[q].IsGoal ∧ l[q].Fits v) (fun i _ => l.length - (intOf i).toNat)
  case atStart => exact ⟨0, Nat.zero_le _, rfl, Below.refl _ _, fun q _ h => absurd h (Nat.not_lt_zero _)⟩
  case round =>
    obtain ⟨j, hj, rfl, hb, hq⟩ := hrel
    have HB := hid hb
    have HQ := hid hq
    have hz := hb.size
    clear hb hq
    by_cases hlt : j < l.length
    · obtain ⟨rfl, hAb⟩ := HA.out (by omega)
      obtain ⟨sa, sc, c0, c1, c2, c3, hr⟩ := tm_cells HE.out hAb (Keeps.of_below HB.out) hlt
      have hlt' : (j : Int) < (l.length : Int) := by omega
      have HLT := hid hlt
      obtain ⟨t, ht⟩ : ∃ t, t = l[j]'hlt := ⟨_, rfl⟩
      have hmem : t ∈ l := by rw [ht]; exact List.getElem_mem _
      rw [← ht] at c0 c1 c2 c3 hr
      have hn := nodesL_mem hmem
      have hnn := HND.out
      have HT := hid ht
      have HR := hid hr
      have HN := hid (show t.nodes ≤ 1099511627776 by omega)
      clear hr ht hmem hn hnn
      go_wp2_with fail
      refine (isGoal_ok t A _ _ (Tm.rep_lasts.1 _ _ _ _ _ HR.out (Keeps.alloc _ _ _))).mono ?_
      rintro e w1 ⟨r, rfl, hb, g, rfl, hg⟩
      have HX := hid (blk_below (blk_new wr (.cells #[.int .i64 t.kind, .int .i64 t.n, .string t.s, .slice sa t.args.length sc] 24)) hb)
      have HB1 := hid ((HB.out.alloc (by omega) (.cells #[.int .i64 t.kind, .int .i64 t.n, .string t.s, .slice sa t.args.length sc] 24)).trans (hb.mono (by simp; omega)))
      have HR1 := hid (Tm.rep_lasts.1 _ _ _ _ _ (Tm.rep_lasts.1 _ _ _ _ _ HR.out (Keeps.alloc _ _ (.cells (#[.int .i64 t.kind, .int .i64 t.n, .string t.s, .slice sa t.args.length sc] : Array Value) 24))) (Keeps.of_below hb))
      clear hb c0 c1 c2 c3
      obtain ⟨x0, x1, x2, x3, xf⟩ := blk4 HX.out
      cases g with
      | false =>
        have HNG := hid (show ¬ t.IsGoal from fun h => by have := hg.2 h; cases this)
        clear hg
        go_wp2_with fail
        go_ret
        exact ⟨_, rfl, HB1.out, _, rfl, ⟨(fun h => by cases h), fun h => absurd (h t (by rw [HT.out]; exact List.getElem_mem _)).1 HNG.out⟩⟩
      | true =>
        have HGD := hid (hg.1 rfl)
        clear hg
        go_wp2_with fail
        refine (fits_ok t v HN.out HI.out A _ _ HR1.out).mono ?_
        rintro e w2 ⟨r, rfl, hb, g, rfl, hg⟩
        have HB2 := hid (HB1.out.trans (hb.mono HB1.out.size))
        clear hb x0 x1 x2 x3 xf
        cases g with
        | false =>
          have HNG := hid (show ¬ t.Fits v from fun h => by have := hg.2 h; cases this)
          clear hg
          go_wp2_with fail
          go_ret
          exact ⟨_, rfl, HB2.out, _, rfl, ⟨(fun h => by cases h), fun h => absurd (h t (by rw [HT.out]; exact List.getElem_mem _)).2 HNG.out⟩⟩
        | true =>
          have HFT := hid (hg.1 rfl)
          clear hg
          go_wp2_with fail
          go_roundw
          case rel =>
            refine ⟨j + 1, by omega, by go_num, HB2.out, fun q hq hqj => ?_⟩
            by_cases e : q = j
            · subst e; rw [← HT.out]; exact ⟨HGD.out, HFT.out⟩
            · exact HQ.out q hq (by omega)
          case measure => first | (simp [intOf]; done) | (simp [intOf]; omega)
    · have hlt' : ¬ (j : Int) < (l.length : Int) := by omega
      have HALL := hid (show ∀ g ∈ l, g.IsGoal ∧ g.Fits v from fun g hg => by
        obtain ⟨q, hq, rfl⟩ := List.mem_iff_getElem.1 hg
        exact HQ.out q hq (by omega))
      go_wp2_with fail
      go_ret
      exact ⟨_, rfl, HB.out, _, rfl, ⟨fun _ => HALL.out, fun _ => rfl⟩⟩
def GoodQ (l : List Tm) (v : Int) : Prop := 0 ≤ v ∧ v ≤ 8 ∧ l.length ≤ 5 ∧ ∀ g ∈ l, g.IsGoal ∧ g.Fits v
def Cl.Good (c : Cl) : Prop := GoodQ c.body c.vars ∧ c.head.IsGoal ∧ c.head.Fits c.vars ∧ ¬ c.head.Known
theorem goodQuery_ok (l : List Tm) (v : Int) (hnd : Tm.nodesL l ≤ 1099511627776) (hi : I64 v) (A : Nat → Prop) (w : World) (u : Value) (hu : TmsR A w l u) :
    Calls Try.prog 42 #[u, .int .i64 v] w (Pure w (BoolP (GoodQ l v))) := by
  have HC := hid (goals_ok l v hnd hi A w u hu)
  obtain ⟨a, cap, b, off, rfl, hlc, hcm, hlb, ha, he⟩ := hu.at
  clear hu ha he
  by_cases h1 : 0 ≤ v
  · by_cases h2 : v ≤ 8
    · by_cases h3 : l.length ≤ 5
      · have h3' : (l.length : Int) ≤ 5 := by omega
        go_enter Try.func42, Try.ntmps42
        go_wp2_with fail
        refine (HC.out).mono ?_
        rintro e w1 ⟨r, rfl, hb, g, rfl, hg⟩
        have HB := hid hb
        have HG := hid hg
        clear hb hg
        go_wp2_with fail
        go_ret
        exact ⟨_, rfl, HB.out, _, rfl, by rw [HG.out]; exact ⟨fun h => ⟨h1, h2, h3, h⟩, fun h => h.2.2.2⟩⟩
      · have h3' : ¬ (l.length : Int) ≤ 5 := by omega
        go_enter Try.func42, Try.ntmps42
        go_wp2_with fail
        go_ret
        exact ⟨_, rfl, Below.refl _ _, _, rfl, ⟨(fun h => by first | (cases h; done) | (simp at h; omega)), fun h => absurd h.2.2.1 h3⟩⟩
    · go_enter Try.func42, Try.ntmps42
      go_wp2_with fail
      go_ret
      exact ⟨_, rfl, Below.refl _ _, _, rfl, ⟨(fun h => by first | (cases h; done) | (simp at h; omega)), fun h => absurd h.2.1 (by omega)⟩⟩
  · go_enter Try.func42, Try.ntmps42
    go_wp2_with fail
    go_ret
    exact ⟨_, rfl, Below.refl _ _, _, rfl, ⟨(fun h => by first | (cases h; done) | (simp at h; omega)), fun h => absurd h.1 (by omega)⟩⟩
theorem blk6 {w : World} {g : Nat} {E : TypeId} {v0 v1 v2 v3 v4 v5 : Value} (h : w.heap[g]? = some (.cells #[v0, v1, v2, v3, v4, v5] E (0, 0))) :
    w.cell? ⟨g, 0, none⟩ = some v0 ∧ w.cell? ⟨g, 1, none⟩ = some v1 ∧ w.cell? ⟨g, 2, none⟩ = some v2 ∧ w.cell? ⟨g, 3, none⟩ = some v3 ∧ w.cell? ⟨g, 4, none⟩ = some v4 ∧ w.cell? ⟨g, 5, none⟩ = some v5 ∧ ∀ o, w.frozen? ⟨g, o, none⟩ = false :=
  ⟨(blk_cell h 0).trans rfl, (blk_cell h 1).trans rfl, (blk_cell h 2).trans rfl, (blk_cell h 3).trans rfl, (blk_cell h 4).trans rfl, (blk_cell h 5).trans rfl, fun o => by simp [World.frozen?, h]⟩
def Cl.nodes (c : Cl) : Nat := c.head.nodes + Tm.nodesL c.body
set_option maxHeartbeats 2000000 in
theorem goodClause_ok (c : Cl) (hnd : c.nodes ≤ 1099511627776) (A : Nat → Prop) (w : World) (vs : List Value) (hc : Cl.rep A w c vs) :
    Calls Try.prog 25 #[.agg vs.toArray] w (Pure w (BoolP c.Good)) := by
  obtain ⟨h, l, v⟩ := c
  obtain ⟨a, ac, b, bc, rfl, hh, hb, hi⟩ := hc
  simp only [Cl.nodes] at hnd
  simp only at hh hb hi
  obtain ⟨_, _, -, -, e, -, -, hbl, -⟩ := hb.at
  have HH := hid hh
  have HBD := hid hb
  have HI := hid hi
  have HN1 := hid (show h.nodes ≤ 1099511627776 by omega)
  have HN2 := hid (show Tm.nodesL l ≤ 1099511627776 by omega)
  have i1 : v ≤ 9223372036854775807 := by unfold I64 at hi; omega
  have i2 : -9223372036854775808 ≤ v := by unfold I64 at hi; omega
  clear hh hb hi e hnd
  have HX := hid (blk_new w (.cells #[.int .i64 h.kind, .int .i64 h.n, .string h.s, .slice a h.args.length ac, .slice b l.length bc, .int .i64 v] 26))
  have HB := hid ((Below.refl _ w).alloc (Nat.le_refl _) (.cells #[.int .i64 h.kind, .int .i64 h.n, .string h.s, .slice a h.args.length ac, .slice b l.length bc, .int .i64 v] 26))
  have HK := hid (Keeps.alloc A w (.cells #[.int .i64 h.kind, .int .i64 h.n, .string h.s, .slice a h.args.length ac, .slice b l.length bc, .int .i64 v] 26))
  by_cases h1 : v < 0
  · go_enter Try.func25, Try.ntmps25
    go_wp2_with fail
    go_ret
    exact ⟨_, rfl, HB.out, _, rfl, ⟨(fun h => by first | (cases h; done) | (simp at h; omega)), fun h => absurd h.1.1 (by simp only; omega)⟩⟩
  by_cases h2 : 8 < v
  · go_enter Try.func25, Try.ntmps25
    go_wp2_with fail
    go_ret
    exact ⟨_, rfl, HB.out, _, rfl, ⟨(fun h => by first | (cases h; done) | (simp at h; omega)), fun h => absurd h.1.2.1 (by simp only; omega)⟩⟩
  by_cases h3 : 5 < l.length
  · have h3' : (5 : Int) < (l.length : Int) := by omega
    go_enter Try.func25, Try.ntmps25
    go_wp2_with fail
    go_ret
    exact ⟨_, rfl, HB.out, _, rfl, ⟨(fun h => by first | (cases h; done) | (simp at h; omega)), fun h => absurd h.1.2.2.1 (by simp only; omega)⟩⟩
  have h3' : ¬ (5 : Int) < (l.length : Int) := by omega
  go_enter Try.func25, Try.ntmps25
  go_wp2_with fail
  have HC1 := hid (isGoal_ok h A _ _ (Tm.rep_lasts.1 _ _ _ _ _ HH.out HK.out))
  generalize w.alloc (.cells #[.int .i64 h.kind, .int .i64 h.n, .string h.s, .slice a h.args.length ac, .slice b l.length bc, .int .i64 v] 26) = w0 at HX HB HK HC1 ⊢
  refine (HC1.out).mono ?_
  rintro e w1 ⟨r, rfl, hb1, g, rfl, hg⟩
  have HX1 := hid (blk_below HX.out hb1)
  have HB1 := hid (HB.out.trans (hb1.mono HB.out.size))
  have HK1 := hid (HK.out.trans (Keeps.of_below hb1))
  clear hb1 HC1
  obtain ⟨x0, x1, x2, x3, x4, x5, xf⟩ := blk6 HX1.out
  cases g with
  | false =>
    have HNG := hid (show ¬ h.IsGoal from fun k => by have := hg.2 k; cases this)
    clear hg
    go_wp2_with fail
    go_ret
    exact ⟨_, rfl, HB1.out, _, rfl, ⟨(fun h => by cases h), fun k => absurd k.2.1 HNG.out⟩⟩
  | true =>
    have HGD := hid (hg.1 rfl)
    clear hg
    go_wp2_with fail
    refine (fits_ok h v HN1.out HI.out A _ _ (Tm.rep_lasts.1 _ _ _ _ _ HH.out HK1.out)).mono ?_
    rintro e w2 ⟨r, rfl, hb2, g, rfl, hg⟩
    clear x0 x1 x2 x3 x4 x5 xf
    have HX2 := hid (blk_below HX1.out hb2)
    have HB2 := hid (HB1.out.trans (hb2.mono HB1.out.size))
    have HK2 := hid (HK1.out.trans (Keeps.of_below hb2))
    clear hb2
    obtain ⟨x0, x1, x2, x3, x4, x5, xf⟩ := blk6 HX2.out
    cases g with
    | false =>
      have HNG := hid (show ¬ h.Fits v from fun k => by have := hg.2 k; cases this)
      clear hg
      go_wp2_with fail
      go_ret
      exact ⟨_, rfl, HB2.out, _, rfl, ⟨(fun h => by cases h), fun k => absurd k.2.2.1 HNG.out⟩⟩
    | true =>
      have HFT := hid (hg.1 rfl)
      clear hg
      go_wp2_with fail
      refine (known_ok h A _ _ (Tm.rep_lasts.1 _ _ _ _ _ HH.out HK2.out)).mono ?_
      rintro e w3 ⟨r, rfl, hb3, g, rfl, hg⟩
      clear x0 x1 x2 x3 x4 x5 xf
      have HX3 := hid (blk_below HX2.out hb3)
      have HB3 := hid (HB2.out.trans (hb3.mono HB2.out.size))
      have HK3 := hid (HK2.out.trans (Keeps.of_below hb3))
      clear hb3
      obtain ⟨x0, x1, x2, x3, x4, x5, xf⟩ := blk6 HX3.out
      cases g with
      | true =>
        have HKN := hid (hg.1 rfl)
        clear hg
        go_wp2_with fail
        go_ret
        exact ⟨_, rfl, HB3.out, _, rfl, ⟨(fun h => by cases h), fun k => absurd HKN.out k.2.2.2⟩⟩
      | false =>
        have HNK := hid (show ¬ h.Known from fun k => by have := hg.2 k; cases this)
        clear hg
        go_wp2_with fail
        refine (goals_ok l v HN2.out HI.out A _ _ (SlR.keeps Tm.rep_lasts HBD.out HK3.out)).mono ?_
        rintro e w4 ⟨r, rfl, hb4, g, rfl, hg⟩
        have HB4 := hid (HB3.out.trans (hb4.mono HB3.out.size))
        have HG := hid hg
        clear hb4 hg x0 x1 x2 x3 x4 x5 xf
        go_wp2_with fail
        go_ret
        exact ⟨_, rfl, HB4.out, _, rfl, by rw [HG.out]; exact ⟨fun k => ⟨⟨by simp only; omega, by simp only; omega, by simp only; omega, k⟩, HGD.out, HFT.out, HNK.out⟩, fun k => k.1.2.2.2⟩⟩
/-! programs -/
abbrev ClsR (A : Nat → Prop) (w : World) (l : List Cl) (v : Value) : Prop := SlR 6 Cl.rep A w l v
theorem rowAt6 {w : World} {b off : Nat} {v0 v1 v2 v3 v4 v5 : Value} (h : RowAt w b off [v0, v1, v2, v3, v4, v5]) :
    w.cell? ⟨b, off, none⟩ = some v0 ∧ w.cell? ⟨b, off + 1, none⟩ = some v1 ∧ w.cell? ⟨b, off + 2, none⟩ = some v2 ∧ w.cell? ⟨b, off + 3, none⟩ = some v3 ∧ w.cell? ⟨b, off + 4, none⟩ = some v4 ∧ w.cell? ⟨b, off + 5, none⟩ = some v5 :=
  ⟨h 0 _ rfl, h 1 _ rfl, h 2 _ rfl, h 3 _ rfl, h 4 _ rfl, h 5 _ rfl⟩
theorem cl_cells {A : Nat → Prop} {w wr : World} {l : List Cl} {b off : Nat} (he : Elems A w 6 Cl.rep l b off) (hA : A b) (hk : Keeps A w wr) {j : Nat} (hlt : j < l.length) :
    ∃ a ac bd bc, wr.cell? ⟨b, off + j * 6, none⟩ = some (.int .i64 l[j].head.kind) ∧ wr.cell? ⟨b, off + j * 6 + 1, none⟩ = some (.int .i64 l[j].head.n) ∧ wr.cell? ⟨b, off + j * 6 + 2, none⟩ = some (.string l[j].head.s) ∧
      wr.cell? ⟨b, off + j * 6 + 3, none⟩ = some (.slice a l[j].head.args.length ac) ∧ wr.cell? ⟨b, off + j * 6 + 4, none⟩ = some (.slice bd l[j].body.length bc) ∧ wr.cell? ⟨b, off + j * 6 + 5, none⟩ = some (.int .i64 l[j].vars) ∧
      Cl.rep A wr l[j] [.int .i64 l[j].head.kind, .int .i64 l[j].head.n, .string l[j].head.s, .slice a l[j].head.args.length ac, .slice bd l[j].body.length bc, .int .i64 l[j].vars] := by
  obtain ⟨vs, hvl, hr, hrow⟩ := he j _ (List.getElem?_eq_getElem hlt)
  have hr' := Cl.rep_lasts.1 _ _ _ _ _ hr hk
  obtain ⟨a, ac, bd, bc, rfl, -⟩ := hr
  obtain ⟨d0, d1, d2, d3, d4, d5⟩ := rowAt6 (RowAt.keeps hA hrow hk)
  exact ⟨a, ac, bd, bc, d0, d1, d2, d3, d4, d5, hr'⟩
def GoodP (l : List Cl) : Prop := l.length ≤ 24 ∧ ∀ c ∈ l, c.Good
def clsNodes : List Cl → Nat
  | [] => 0
  | c :: r => c.nodes + clsNodes r
theorem clsNodes_mem {l : List Cl} {c : Cl} (h : c ∈ l) : c.nodes ≤ clsNodes l := by
  induction l with
  | nil => cases h
  | cons x r ih =>
    simp only [clsNodes]
    rcases List.mem_cons.1 h with rfl | h
    · omega
    · have := ih h; omega
set_option maxHeartbeats 1000000 in
theorem goodProgram_ok (l : List Cl) (hnd : clsNodes l ≤ 1099511627776) (A : Nat → Prop) (w : World) (u : Value) (hu : ClsR A w l u) :
    Calls Try.prog 41 #[u] w (Pure w (BoolP (GoodP l))) := by
  obtain ⟨a, cap, b, off, rfl, hlc, hcm, hlb, ha, he⟩ := SlR.at hu
  have HE := hid he
  have HA := hid ha
  have HND := hid hnd
  clear hu he ha hnd
  go_enter Try.func41, Try.ntmps41
  go_wp2_with fail
  go_loopw [7] (fun i W => ∃ j : Nat, j ≤ l.length ∧ i = .int .i64 (j : Int) ∧ Below w.heap.size w W ∧ ∀ q (hq : q < l.length), q < j → l[q].Good) (fun i _ => l.length - (intOf i).toNat)
  case atStart => exact ⟨0, Nat.zero_le _, rfl, Below.refl _ _, fun q _ h => absurd h (Nat.not_lt_zero _)⟩
  case round =>
    obtain ⟨j, hj, rfl, hb, hq⟩ := hrel
    have HB := hid hb
    have HQ := hid hq
    have hz := hb.size
    clear hb hq
    by_cases hlt : j < l.length
    · obtain ⟨rfl, hAb⟩ := HA.out (by omega)
      obtain ⟨sa, sc, ba, bc, c0, c1, c2, c3, c4, c5, hr⟩ := cl_cells HE.out hAb (Keeps.of_below HB.out) hlt
      have hlt' : (j : Int) < (l.length : Int) := by omega
      have HLT := hid hlt
      obtain ⟨t, ht⟩ : ∃ t, t = l[j]'hlt := ⟨_, rfl⟩
      have hmem : t ∈ l := by rw [ht]; exact List.getElem_mem _
      rw [← ht] at c0 c1 c2 c3 c4 c5 hr
      have hn := clsNodes_mem hmem
      have hnn := HND.out
      have HT := hid ht
      have HR := hid hr
      have HN := hid (show t.nodes ≤ 1099511627776 by omega)
      clear hr ht hmem hn hnn
      go_wp2_with fail
      refine (goodClause_ok t HN.out A _ _ (Cl.rep_lasts.1 _ _ _ _ _ HR.out (Keeps.alloc _ _ _))).mono ?_
      rintro e w1 ⟨r, rfl, hb, g, rfl, hg⟩
      have HB1 := hid ((HB.out.alloc (by omega) (.cells #[.int .i64 t.head.kind, .int .i64 t.head.n, .string t.head.s, .slice sa t.head.args.length sc, .slice ba t.body.length bc, .int .i64 t.vars] 26)).trans (hb.mono (by simp; omega)))
      clear hb c0 c1 c2 c3 c4 c5
      cases g with
      | false =>
        have HNG := hid (show ¬ t.Good from fun h => by have := hg.2 h; cases this)
        clear hg
        go_wp2_with fail
        go_ret
        exact ⟨_, rfl, HB1.out, _, rfl, ⟨(fun h => by cases h), fun h => absurd (h.2 t (by rw [HT.out]; exact List.getElem_mem _)) HNG.out⟩⟩
      | true =>
        have HGD := hid (hg.1 rfl)
        clear hg
        go_wp2_with fail
        go_roundw
        case rel =>
          refine ⟨j + 1, by omega, by go_num, HB1.out, fun q hq hqj => ?_⟩
          by_cases e : q = j
          · subst e; rw [← HT.out]; exact HGD.out
          · exact HQ.out q hq (by omega)
        case measure => first | (simp [intOf]; done) | (simp [intOf]; omega)
    · have hlt' : ¬ (j : Int) < (l.length : Int) := by omega
      have HALL := hid (show ∀ g ∈ l, g.Good from fun g hg => by
        obtain ⟨q, hq, rfl⟩ := List.mem_iff_getElem.1 hg
        exact HQ.out q hq (by omega))
      by_cases h24 : l.length ≤ 24
      · have h24' : (l.length : Int) ≤ 24 := by omega
        go_wp2_with fail
        go_ret
        exact ⟨_, rfl, HB.out, _, rfl, ⟨fun _ => ⟨h24, HALL.out⟩, (fun _ => by first | rfl | simp [h24'])⟩⟩
      · have h24' : ¬ (l.length : Int) ≤ 24 := by omega
        go_wp2_with fail
        go_ret
        exact ⟨_, rfl, HB.out, _, rfl, ⟨(fun h => by first | (cases h; done) | (simp at h; omega)), fun h => absurd h.1 (by omega)⟩⟩
end Go.Proofs.Ytlpmfkpefoegeab
