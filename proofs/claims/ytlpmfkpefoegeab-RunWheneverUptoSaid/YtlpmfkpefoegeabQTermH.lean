/-
  Term, TermAt: the term at a place.
-/
import Derived.Test.YtlpmfkpefoegeabQRead
import Derived.Test.YtlpmfkpefoegeabQCopyHeap
import Derived.Test.YtlpmfkpefoegeabPSolve
import Derived.Test.YtlpmfkpefoegeabQFits
namespace Go.Proofs.Ytlpmfkpefoegeab
set_option linter.unusedVariables false
set_option linter.unusedSimpArgs false
open Go.RowKit
theorem below_ch_new {w w1 w2 : World} {g : Nat} (h : Below w.heap.size w w1) (hc : Ch (fun b => b = g) w1 w2) (hg : w.heap.size ≤ g) : Below w.heap.size w w2 :=
  (Ch.trans (Ch.of_below (M := fun b => b = g) h) hc (fun _ h => .inl h)).below (fun k hk e => by omega)
def TmNEA (A : Nat → Prop) (x : Tm × Int × Int) (r : Value) (w' : World) : Prop := ∃ us, r = .tuple #[.agg us.toArray, .int .i64 x.2.1, .int .i64 x.2.2] ∧ Tm.rep A w' x.1 us
set_option maxRecDepth 100000 in
set_option maxHeartbeats 2000000 in
theorem termH_okN (hq : Hp) (a most : Int) (ha : I64 a) (hmost : I64 most) (A : Nat → Prop) (w : World) (vs : List Value) (hh : Hp.rep A w hq vs) :
    Calls Try.prog 13 #[.agg vs.toArray, .int .i64 a, .int .i64 most] w (Pure w (TmNEA (New w) (termF hq a most))) := by
  obtain ⟨va, cap, vb, tap, rfl, hc1, hc2, hc3, ht1, ht2, ht3, hc, ht⟩ := Hp.rep2 hh
  have HH := hid hh
  have HIA := hid ha
  have HIM := hid hmost
  have HG1 := hid (fun w' (hk : Keeps A w w') => good_ok hq A w' _ (Hp.rep.keeps hh hk))
  obtain ⟨L, hL⟩ := Int.eq_ofNat_of_zero_le (show 0 ≤ leftOf most by unfold leftOf; omega)
  have hL2 : L ≤ 65536 := by unfold leftOf at hL; omega
  have hLM : max 0 (min most 65536) = (L : Int) := by unfold leftOf at hL; omega
  have HLE := hid hL
  clear hh hc ht ha hmost hL
  go_enter Try.func13, Try.ntmps13
  go_wp2_with fail
  refine (HG1.out _ ((Keeps.alloc _ _ _).trans (Keeps.alloc _ _ _))).mono ?_
  rintro e w1 ⟨v, rfl, hb1, tt, rfl, ht⟩
  have h2 := heap2 w (.cells #[.slice va hq.cells.length cap, .slice vb hq.trail.length tap] 30) (.cells #[.int .i64 0, .int .i64 0, .string ByteArray.empty, .slice none 0 0] 24)
  have HX1 := hid (blk_below h2.1 hb1)
  have HX2 := hid (blk_below h2.2 hb1)
  have HB := hid (show Below w.heap.size w w1 from below_pure (below_pure (hb1.mono (by simp))))
  have hz : w.heap.size + 1 < w1.heap.size := by have := hb1.size; simp at this; omega
  have hz' : w.heap.size < w1.heap.size := by omega
  have HTT := hid ht
  have hcs := cell_set
  clear h2 hb1 ht
  obtain ⟨x0, x1, xf⟩ := box2 HX1.out
  obtain ⟨y0, y1, y2, y3, yf⟩ := blk4 HX2.out
  cases tt with
  | false =>
    have hg : ¬ hq.Good := fun hg => by have := HTT.out.2 hg; cases this
    go_wp2_with fail
    refine bodyPost_ret (v := .tuple #[.agg #[.int .i64 0, .int .i64 0, .string ByteArray.empty, .slice none 0 0], .int .i64 0, .int .i64 1]) (by simp [results, Try.results13, go_sem, hcs, y0, y1, y2, y3]; try rfl) rfl ?_
    rw [termF, if_pos hg]
    refine Pure.mk ?_ ⟨[_, _, _, _], rfl, tm0_rep _ _⟩
    repeat (with_reducible first | exact HB.out | refine Below.setCell ?_ (by simp) _)
  | true =>
    have HG := hid (HTT.out.1 rfl)
    clear HTT
    by_cases hin : Inb hq.cells a
    case neg =>
      have HIN := hid hin
      have hin' : ¬ (0 ≤ a ∧ a < (hq.cells.length : Int)) := hin
      clear hin
      go_wp2_with fail
      all_goals first
        | (exfalso; omega)
        | (refine bodyPost_ret (v := .tuple #[.agg #[.int .i64 0, .int .i64 0, .string ByteArray.empty, .slice none 0 0], .int .i64 0, .int .i64 4]) (by simp [results, Try.results13, go_sem, hcs, y0, y1, y2, y3]; try rfl) rfl ?_
           rw [termF, if_neg (not_not_intro HG.out), if_pos HIN.out]
           refine Pure.mk ?_ ⟨[_, _, _, _], rfl, tm0_rep _ _⟩
           repeat (with_reducible first | exact HB.out | refine Below.setCell ?_ (by simp) _))
        | go_ways
    case pos =>
      have HIN := hid hin
      obtain ⟨i0, i1⟩ := hin
      have HT0 := hid (show termF hq a most = termOf (L : Int) (rd1 hq.cells L a) by rw [termF, if_neg (not_not_intro HG.out), if_neg (not_not_intro HIN.out), HLE.out, Int.toNat_natCast])
      have hcases : (most ≤ 0 ∧ (L : Int) = 0) ∨ (0 < most ∧ most ≤ 65536 ∧ (L : Int) = most) ∨ (65536 < most ∧ (L : Int) = 65536) := by
        have := HLE.out
        unfold leftOf at this
        omega
      rcases hcases with ⟨m1, m2⟩ | ⟨m1, m3, m2⟩ | ⟨m1, m2⟩
      · go_wp2_with fail
        all_goals
         have HX11 := hid (blk_alloc HX1.out (.cells #[.int .i64 0] 3))
         have HX21 := hid (blk_alloc HX2.out (.cells #[.int .i64 0] 3))
         have HL1 := hid (show LeftAt w1.heap.size (L : Int) (w1.alloc (.cells #[.int .i64 0] 3)) by rw [m2]; exact blk_new _ _)
         have HB1 := hid (HB.out.alloc (by omega) (.cells #[.int .i64 0] 3))
         have hs1 : (w1.alloc (.cells #[.int .i64 0] 3)).heap.size = w1.heap.size + 1 := by simp
         have HR1 := hid (Hp.rep.keeps (Hp.rep.mono (A' := fun b => b < w.heap.size) HH.out (fun b hb _ => hb)) (Keeps.of_below HB1.out))
         clear x0 x1 xf y0 y1 y2 y3 yf
         refine (read_ok L hq a w1.heap.size (fun b => b < w.heap.size) _ [_, _] HG.out.1 HIA.out (by omega) HR1.out HL1.out hL2).mono ?_
         rintro e w2 ⟨us, t, k, rfl, hch, hr, hl, hres⟩
         obtain ⟨sa, sc, rfl, -⟩ := Tm.rep4 hr
         have hsz2 := hch.size
         have hkg : Keeps (fun b => b ≠ w1.heap.size) _ w2 := hch.keeps (A := fun b => b ≠ w1.heap.size) (fun b _ hb e => hb e)
         have HX12 := hid (blk_keeps HX11.out hkg (by omega))
         have HX22 := hid (blk_keeps HX21.out hkg (by omega))
         have HB2 := hid (show Below w.heap.size w w2 from below_ch_new HB1.out hch (by omega))
         have HR := hid hr
         have HL := hid hl
         have HRES := hid hres
         have hw2 : w.heap.size + 1 < w2.heap.size := by omega
         have hw2' : w.heap.size < w2.heap.size := by omega
         have hne : ¬ w1.heap.size = w.heap.size + 1 := by omega
         have hne' : ¬ w.heap.size + 1 = w1.heap.size := by omega
         obtain ⟨q0, qf, hgl⟩ := left_cell hl
         obtain ⟨y0, y1, y2, y3, yf⟩ := blk4 HX22.out
         clear hch hr hl hres hkg
         rcases HRES.out with ⟨r1, rfl⟩ | ⟨r1, r2⟩
         · go_wp2_with fail
           refine bodyPost_ret (v := .tuple #[.agg #[.int .i64 0, .int .i64 0, .string ByteArray.empty, .slice none 0 0], .int .i64 0, .int .i64 3]) (by simp [results, Try.results13, go_sem, hcs, y0, y1, y2, y3, hw2, hw2']; try rfl) rfl ?_
           rw [HT0.out, r1]
           refine Pure.mk ?_ ⟨[_, _, _, _], rfl, tm0_rep _ _⟩
           repeat (with_reducible first | exact HB2.out | refine Below.drew ?_ | refine Below.alloc ?_ (by simp only [World.size_setCell, World.size_drew]; omega) _ | refine Below.setCell ?_ (by simp) _)
         · obtain ⟨k, rfl⟩ := Int.eq_ofNat_of_zero_le r2
           have HR1 := hid r1
           have HK := hid (rd1_le r1)
           have hkL := rd1_le r1
           clear r1 HRES r2
           go_wp2_with fail
           go_region
           all_goals
             go_wp2_with fail
             refine bodyPost_ret (v := .tuple #[.agg #[.int .i64 t.kind, .int .i64 t.n, .string t.s, .slice sa t.args.length sc], .int .i64 (0 - (k : Int)), .int .i64 0]) (by simp [results, Try.results13, go_sem, hcs, y0, y1, y2, y3, hw2, hw2']; try rfl) rfl ?_
             rw [HT0.out, HR1.out]
             refine Pure.mk ?_ ⟨[.int .i64 t.kind, .int .i64 t.n, .string t.s, .slice sa t.args.length sc], by simp only [termOf, Int.toNat_natCast, m2]; try rfl, ?_⟩
             · repeat (with_reducible first | exact HB2.out | refine Below.drew ?_ | refine Below.alloc ?_ (by simp only [World.size_setCell, World.size_drew]; omega) _ | refine Below.setCell ?_ (by simp) _)
             · refine Tm.rep_lasts.2.1 _ _ _ _ _ (Tm.rep_lasts.1 _ _ _ _ _ HR.out ?_) (fun b _ hb => by unfold New at hb ⊢; omega)
               repeat (with_reducible first | exact Keeps.refl _ _ | exact Keeps.drew _ _ | refine Keeps.trans ?_ (Keeps.alloc _ _ _) | refine Keeps.trans ?_ (Keeps.setCell _ _ _ _ (by simp [New]; omega)) | refine Keeps.trans ?_ (Keeps.drew _ _))
      · go_wp2_with fail
        all_goals
         have HX11 := hid (blk_alloc HX1.out (.cells #[.int .i64 most] 3))
         have HX21 := hid (blk_alloc HX2.out (.cells #[.int .i64 most] 3))
         have HL1 := hid (show LeftAt w1.heap.size (L : Int) (w1.alloc (.cells #[.int .i64 most] 3)) by rw [m2]; exact blk_new _ _)
         have HB1 := hid (HB.out.alloc (by omega) (.cells #[.int .i64 most] 3))
         have hs1 : (w1.alloc (.cells #[.int .i64 most] 3)).heap.size = w1.heap.size + 1 := by simp
         have HR1 := hid (Hp.rep.keeps (Hp.rep.mono (A' := fun b => b < w.heap.size) HH.out (fun b hb _ => hb)) (Keeps.of_below HB1.out))
         clear x0 x1 xf y0 y1 y2 y3 yf
         refine (read_ok L hq a w1.heap.size (fun b => b < w.heap.size) _ [_, _] HG.out.1 HIA.out (by omega) HR1.out HL1.out hL2).mono ?_
         rintro e w2 ⟨us, t, k, rfl, hch, hr, hl, hres⟩
         obtain ⟨sa, sc, rfl, -⟩ := Tm.rep4 hr
         have hsz2 := hch.size
         have hkg : Keeps (fun b => b ≠ w1.heap.size) _ w2 := hch.keeps (A := fun b => b ≠ w1.heap.size) (fun b _ hb e => hb e)
         have HX12 := hid (blk_keeps HX11.out hkg (by omega))
         have HX22 := hid (blk_keeps HX21.out hkg (by omega))
         have HB2 := hid (show Below w.heap.size w w2 from below_ch_new HB1.out hch (by omega))
         have HR := hid hr
         have HL := hid hl
         have HRES := hid hres
         have hw2 : w.heap.size + 1 < w2.heap.size := by omega
         have hw2' : w.heap.size < w2.heap.size := by omega
         have hne : ¬ w1.heap.size = w.heap.size + 1 := by omega
         have hne' : ¬ w.heap.size + 1 = w1.heap.size := by omega
         obtain ⟨q0, qf, hgl⟩ := left_cell hl
         obtain ⟨y0, y1, y2, y3, yf⟩ := blk4 HX22.out
         clear hch hr hl hres hkg
         rcases HRES.out with ⟨r1, rfl⟩ | ⟨r1, r2⟩
         · go_wp2_with fail
           refine bodyPost_ret (v := .tuple #[.agg #[.int .i64 0, .int .i64 0, .string ByteArray.empty, .slice none 0 0], .int .i64 0, .int .i64 3]) (by simp [results, Try.results13, go_sem, hcs, y0, y1, y2, y3, hw2, hw2']; try rfl) rfl ?_
           rw [HT0.out, r1]
           refine Pure.mk ?_ ⟨[_, _, _, _], rfl, tm0_rep _ _⟩
           repeat (with_reducible first | exact HB2.out | refine Below.drew ?_ | refine Below.alloc ?_ (by simp only [World.size_setCell, World.size_drew]; omega) _ | refine Below.setCell ?_ (by simp) _)
         · obtain ⟨k, rfl⟩ := Int.eq_ofNat_of_zero_le r2
           have HR1 := hid r1
           have HK := hid (rd1_le r1)
           have hkL := rd1_le r1
           clear r1 HRES r2
           go_wp2_with fail
           go_region
           all_goals
             go_wp2_with fail
             refine bodyPost_ret (v := .tuple #[.agg #[.int .i64 t.kind, .int .i64 t.n, .string t.s, .slice sa t.args.length sc], .int .i64 (most - (k : Int)), .int .i64 0]) (by simp [results, Try.results13, go_sem, hcs, y0, y1, y2, y3, hw2, hw2']; try rfl) rfl ?_
             rw [HT0.out, HR1.out]
             refine Pure.mk ?_ ⟨[.int .i64 t.kind, .int .i64 t.n, .string t.s, .slice sa t.args.length sc], by simp only [termOf, Int.toNat_natCast, m2]; try rfl, ?_⟩
             · repeat (with_reducible first | exact HB2.out | refine Below.drew ?_ | refine Below.alloc ?_ (by simp only [World.size_setCell, World.size_drew]; omega) _ | refine Below.setCell ?_ (by simp) _)
             · refine Tm.rep_lasts.2.1 _ _ _ _ _ (Tm.rep_lasts.1 _ _ _ _ _ HR.out ?_) (fun b _ hb => by unfold New at hb ⊢; omega)
               repeat (with_reducible first | exact Keeps.refl _ _ | exact Keeps.drew _ _ | refine Keeps.trans ?_ (Keeps.alloc _ _ _) | refine Keeps.trans ?_ (Keeps.setCell _ _ _ _ (by simp [New]; omega)) | refine Keeps.trans ?_ (Keeps.drew _ _))
      · go_wp2_with fail
        all_goals
         have HX11 := hid (blk_alloc HX1.out (.cells #[.int .i64 65536] 3))
         have HX21 := hid (blk_alloc HX2.out (.cells #[.int .i64 65536] 3))
         have HL1 := hid (show LeftAt w1.heap.size (L : Int) (w1.alloc (.cells #[.int .i64 65536] 3)) by rw [m2]; exact blk_new _ _)
         have HB1 := hid (HB.out.alloc (by omega) (.cells #[.int .i64 65536] 3))
         have hs1 : (w1.alloc (.cells #[.int .i64 65536] 3)).heap.size = w1.heap.size + 1 := by simp
         have HR1 := hid (Hp.rep.keeps (Hp.rep.mono (A' := fun b => b < w.heap.size) HH.out (fun b hb _ => hb)) (Keeps.of_below HB1.out))
         clear x0 x1 xf y0 y1 y2 y3 yf
         refine (read_ok L hq a w1.heap.size (fun b => b < w.heap.size) _ [_, _] HG.out.1 HIA.out (by omega) HR1.out HL1.out hL2).mono ?_
         rintro e w2 ⟨us, t, k, rfl, hch, hr, hl, hres⟩
         obtain ⟨sa, sc, rfl, -⟩ := Tm.rep4 hr
         have hsz2 := hch.size
         have hkg : Keeps (fun b => b ≠ w1.heap.size) _ w2 := hch.keeps (A := fun b => b ≠ w1.heap.size) (fun b _ hb e => hb e)
         have HX12 := hid (blk_keeps HX11.out hkg (by omega))
         have HX22 := hid (blk_keeps HX21.out hkg (by omega))
         have HB2 := hid (show Below w.heap.size w w2 from below_ch_new HB1.out hch (by omega))
         have HR := hid hr
         have HL := hid hl
         have HRES := hid hres
         have hw2 : w.heap.size + 1 < w2.heap.size := by omega
         have hw2' : w.heap.size < w2.heap.size := by omega
         have hne : ¬ w1.heap.size = w.heap.size + 1 := by omega
         have hne' : ¬ w.heap.size + 1 = w1.heap.size := by omega
         obtain ⟨q0, qf, hgl⟩ := left_cell hl
         obtain ⟨y0, y1, y2, y3, yf⟩ := blk4 HX22.out
         clear hch hr hl hres hkg
         rcases HRES.out with ⟨r1, rfl⟩ | ⟨r1, r2⟩
         · go_wp2_with fail
           refine bodyPost_ret (v := .tuple #[.agg #[.int .i64 0, .int .i64 0, .string ByteArray.empty, .slice none 0 0], .int .i64 0, .int .i64 3]) (by simp [results, Try.results13, go_sem, hcs, y0, y1, y2, y3, hw2, hw2']; try rfl) rfl ?_
           rw [HT0.out, r1]
           refine Pure.mk ?_ ⟨[_, _, _, _], rfl, tm0_rep _ _⟩
           repeat (with_reducible first | exact HB2.out | refine Below.drew ?_ | refine Below.alloc ?_ (by simp only [World.size_setCell, World.size_drew]; omega) _ | refine Below.setCell ?_ (by simp) _)
         · obtain ⟨k, rfl⟩ := Int.eq_ofNat_of_zero_le r2
           have HR1 := hid r1
           have HK := hid (rd1_le r1)
           have hkL := rd1_le r1
           clear r1 HRES r2
           go_wp2_with fail
           go_region
           all_goals
             go_wp2_with fail
             refine bodyPost_ret (v := .tuple #[.agg #[.int .i64 t.kind, .int .i64 t.n, .string t.s, .slice sa t.args.length sc], .int .i64 (65536 - (k : Int)), .int .i64 0]) (by simp [results, Try.results13, go_sem, hcs, y0, y1, y2, y3, hw2, hw2']; try rfl) rfl ?_
             rw [HT0.out, HR1.out]
             refine Pure.mk ?_ ⟨[.int .i64 t.kind, .int .i64 t.n, .string t.s, .slice sa t.args.length sc], by simp only [termOf, Int.toNat_natCast, m2]; try rfl, ?_⟩
             · repeat (with_reducible first | exact HB2.out | refine Below.drew ?_ | refine Below.alloc ?_ (by simp only [World.size_setCell, World.size_drew]; omega) _ | refine Below.setCell ?_ (by simp) _)
             · refine Tm.rep_lasts.2.1 _ _ _ _ _ (Tm.rep_lasts.1 _ _ _ _ _ HR.out ?_) (fun b _ hb => by unfold New at hb ⊢; omega)
               repeat (with_reducible first | exact Keeps.refl _ _ | exact Keeps.drew _ _ | refine Keeps.trans ?_ (Keeps.alloc _ _ _) | refine Keeps.trans ?_ (Keeps.setCell _ _ _ _ (by simp [New]; omega)) | refine Keeps.trans ?_ (Keeps.drew _ _))
end Go.Proofs.Ytlpmfkpefoegeab
