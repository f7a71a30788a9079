/-
  Heaps that are alike.
-/
import Derived.Test.YtlpmfkpefoegeabQSameN
import Derived.Test.YtlpmfkpefoegeabQCopy
import Derived.Test.YtlpmfkpefoegeabQIsHeap
namespace Go.Proofs.Ytlpmfkpefoegeab
set_option linter.unusedVariables false
set_option linter.unusedSimpArgs false
open Go.RowKit

theorem Hp.ext' {a b : Hp} (h1 : a.cells = b.cells) (h2 : a.trail = b.trail) : a = b := by
  cases a; cases b; simp_all

set_option maxHeartbeats 1000000 in
theorem sameHeapK_ok (h h' : Hp) (A : Nat → Prop) (w : World) (us vs : List Value) (hu : Hp.rep A w h us) (hv : Hp.rep A w h' vs) :
    Calls Try.prog 18 #[.agg us.toArray, .agg vs.toArray] w (Pure w (BoolP (h = h'))) := by
  obtain ⟨a, cap, b, tap, rfl, hc1, hc2, hc3, ht1, ht2, ht3, hc, ht⟩ := Hp.rep2 hu
  obtain ⟨a', cap', b', tap', rfl, hc1', hc2', hc3', ht1', ht2', ht3', hc', ht'⟩ := Hp.rep2 hv
  obtain ⟨_, _, cb, coff, e, -, -, -, ha, he⟩ := hc.at
  simp only [Value.slice.injEq, true_and] at e
  obtain ⟨rfl, rfl⟩ := e
  obtain ⟨_, _, cb', coff', e, -, -, -, ha', he'⟩ := hc'.at
  simp only [Value.slice.injEq, true_and] at e
  obtain ⟨rfl, rfl⟩ := e
  have HE := hid he
  have HA := hid ha
  have HE' := hid he'
  have HA' := hid ha'
  have HT := hid (fun w' (hk : Keeps A w w') => sameNumbersK_ok h.trail h'.trail A w' _ _ (SlR.keeps numR_lasts ht hk) (SlR.keeps numR_lasts ht' hk))
  clear hu hv hc ht hc' ht' he ha he' ha'
  by_cases e4 : h.cells.length = h'.cells.length
  · have E4 := hid e4
    rw [← e4] at hc1' hc3' HA' ⊢
    clear e4
    go_enter Try.func18, Try.ntmps18
    go_wp2_with fail
    refine (HT.out _ ((Keeps.alloc _ _ _).trans (Keeps.alloc _ _ _))).mono ?_
    rintro e w1 ⟨v, rfl, hb1, t, rfl, ht⟩
    obtain ⟨hcc, hff⟩ := bcell hb1
    have HTT := hid ht
    have hz := hb1.size
    simp only [World.size_alloc] at hz
    have HB := hid (show Below w.heap.size w w1 from below_pure (below_pure (hb1.mono (by simp))))
    have f0 : w1.cell? ⟨w.heap.size, 0, none⟩ = some (.slice a h.cells.length cap) := by rw [hb1.cell (by simp; try omega)]; simp
    have f1 : w1.cell? ⟨w.heap.size + 1, 0, none⟩ = some (.slice a' h.cells.length cap') := by rw [hb1.cell (by simp; try omega)]; simp
    clear ht hb1 hcc hff
    cases t with
    | false =>
      go_wp2_with fail
      go_ret
      exact ⟨_, rfl, HB.out, false, rfl, by
        have := HTT.out
        simp only [Bool.false_eq_true, false_iff] at this ⊢
        rintro rfl
        exact this rfl⟩
    | true =>
      have h1 := hid (HTT.out.1 rfl)
      obtain ⟨W1, rfl⟩ : ∃ x, x = w1 := ⟨_, rfl⟩
      go_wp2_with fail
      go_loopw [24] (fun i wr => ∃ j : Nat, j ≤ h.cells.length ∧ i = .int .i64 j ∧ Below W1.heap.size W1 wr ∧ h.cells.take j = h'.cells.take j) (fun i _ => h.cells.length - (intOf i).toNat)
      case atStart => exact ⟨0, Nat.zero_le _, rfl, Below.refl _ _, by simp⟩
      case round =>
        obtain ⟨j, hj, rfl, hb, hpre⟩ := hrel
        have HB2 := hid hb
        have HP := hid hpre
        have hz2 := hb.size
        have f0' := bc hb f0
        have f1' := bc hb f1
        clear hb hpre f0 f1
        by_cases hlt : j < h.cells.length
        · have hlt' : j < h'.cells.length := by have := E4.out; omega
          obtain ⟨rfl, hAb⟩ := HA.out (by omega)
          obtain ⟨rfl, hAb'⟩ := HA'.out (by omega)
          have hk2 : Keeps A w wr := Keeps.of_below (HB.out.trans (HB2.out.mono (by omega)))
          obtain ⟨c0, c1, c2, -⟩ := ce_cells HE.out hAb hk2 hlt
          obtain ⟨d0, d1, d2, -⟩ := ce_cells HE'.out hAb' hk2 hlt'
          have hi0 : (0 : Int) ≤ (j : Int) := Int.natCast_nonneg _
          have hi1 : (j : Int) < (h.cells.length : Int) := by omega
          clear hk2
          by_cases hq : h.cells[j] = h'.cells[j]
          · have HQ := hid hq
            rw [← hq] at d0 d1 d2
            clear hq
            go_wp2_with fail
            go_region
            go_wp2_with fail
            go_roundw
            case rel => exact ⟨j + 1, by omega, by go_num, HB2.out.drew, take_next' HP.out hlt hlt' HQ.out⟩
            case measure => simp [intOf]; omega
          · by_cases q1 : h.cells[j].kind = h'.cells[j].kind
            · by_cases q2 : h.cells[j].n = h'.cells[j].n
              · by_cases q3 : h.cells[j].s.toList = h'.cells[j].s.toList
                · exfalso
                  exact hq (Ce.ext' q1 q2 q3)
                · go_wp2_with fail
                  go_region
                  go_wp2_with fail
                  go_ret
                  refine ⟨_, rfl, HB.out.trans (HB2.out.drew.mono (by omega)), false, rfl, ?_⟩
                  simp only [Bool.false_eq_true, false_iff]
                  rintro rfl
                  exact hq rfl
              · go_wp2_with fail
                go_region
                go_wp2_with fail
                go_ret
                refine ⟨_, rfl, HB.out.trans (HB2.out.drew.mono (by omega)), false, rfl, ?_⟩
                simp only [Bool.false_eq_true, false_iff]
                rintro rfl
                exact hq rfl
            · go_wp2_with fail
              go_region
              go_wp2_with fail
              go_ret
              refine ⟨_, rfl, HB.out.trans (HB2.out.drew.mono (by omega)), false, rfl, ?_⟩
              simp only [Bool.false_eq_true, false_iff]
              rintro rfl
              exact hq rfl
        · go_wp2_with fail
          go_ret
          refine ⟨_, rfl, HB.out.trans (HB2.out.mono (by omega)), true, rfl, ?_⟩
          have h3 := HP.out
          have h2 := E4.out
          rw [List.take_of_length_le (by omega), List.take_of_length_le (by omega)] at h3
          simp only [true_iff]
          exact Hp.ext' h3 h1.out
  · have e4' : ((h.cells.length : Int) != (h'.cells.length : Int)) = true := by simp; omega
    go_enter Try.func18, Try.ntmps18
    go_wp2_with fail
    go_ret
    refine ⟨_, rfl, below_pure (below_pure (Below.refl _ _)), false, rfl, by simp; rintro rfl; exact e4 rfl⟩
end Go.Proofs.Ytlpmfkpefoegeab
