/-
  The two closures of queristref.CollectAll: how many are kept ahead of a place.
-/
import Derived.Test.YtlpmfkpefoegeaaQMarksOf
import Derived.Test.YtlpmfkpefoegeaaQCollect
namespace Go.Proofs.Ytlpmfkpefoegeaa
set_option linter.unusedVariables false
set_option linter.unusedSimpArgs false
open Go.RowKit

/-- a box of one cell -/
theorem box1 {w : World} {g : Nat} {E : TypeId} {v0 : Value} (h : w.heap[g]? = some (.cells #[v0] E (0, 0))) :
    w.cell? ⟨g, 0, none⟩ = some v0 ∧ ∀ o, w.frozen? ⟨g, o, none⟩ = false :=
  ⟨(blk_cell h 0).trans rfl, fun o => by simp [World.frozen?, h]⟩

theorem ahead_end (m : List Bool) {n : Int} {j : Nat} (h : (j : Int) ≤ max n 0) (h1 : ¬ ((j : Int) < n) ∨ j = m.length) : (cnt m j : Int) = ahead m n := by
  unfold ahead
  rcases h1 with h1 | rfl
  · rw [show n.toNat = j by omega]
  · rw [← cnt_min m n.toNat, Nat.min_eq_right (by omega)]

set_option maxRecDepth 100000 in
set_option maxHeartbeats 1000000 in
theorem ahead_calls (m : List Bool) (hml : m.length ≤ 65536) (B gi : Nat) (w : World) (mv : Value) (hg : w.heap[gi]? = some (.cells #[mv] 55 (0, 0))) (hm : OwnB w B m mv) (n : Int) (hn : I64 n) :
    Calls Try.prog 70 #[.int .i64 n, .pointer (some ⟨gi, 0, none⟩)] w (fun e w' => e = .returned (.int .i64 (ahead m n)) ∧ w' = w) := by
  obtain ⟨ma, mc, rfl, hl, hc⟩ := OwnF.val hm
  obtain ⟨b0, bf⟩ := box1 hg
  have HM := hid hm
  have hn1 : n ≤ 9223372036854775807 := by unfold I64 at hn; omega
  have hn2 : -9223372036854775808 ≤ n := by unfold I64 at hn; omega
  clear hm hn
  go_enter Try.func70, Try.ntmps70
  go_wp2_with fail
  go_loopw [5, 4] (fun i k wr => ∃ j : Nat, j ≤ m.length ∧ (j : Int) ≤ max n 0 ∧ i = .int .i64 (j : Int) ∧ k = .int .i64 (cnt m j : Int) ∧ wr = w) (fun i _ _ => m.length - (intOf i).toNat)
  case atStart => exact ⟨0, Nat.zero_le _, by omega, rfl, rfl, rfl⟩
  case round =>
    obtain ⟨j, hj, hjn, rfl, rfl, rfl⟩ := hrel
    have hcj := cnt_le m j
    by_cases h1 : (j : Int) < n
    · by_cases h2 : j < m.length
      · have h2' : (j : Int) < (m.length : Int) := by omega
        have hs := cnt_succ m h2
        obtain ⟨gb, gcap, e, -, -, -, -, -, -, -, hcell⟩ := OwnF.at boolV_len HM.out (by omega)
        simp only [Value.slice.injEq] at e
        obtain ⟨rfl, -, rfl⟩ := e
        have d0 : wr.cell? ⟨gb, j, none⟩ = some (.bool m[j]) := by simpa using hcell j h2 0 _ rfl
        clear hcell
        cases hb : m[j] with
        | false =>
          rw [hb] at d0 hs
          have HS := hid (show cnt m (j + 1) = cnt m j by simpa using hs)
          clear hs
          go_wp2_with fail
          go_roundw
          case rel => exact ⟨j + 1, by omega, by omega, by go_num, by rw [HS.out], (by first | rfl | trivial)⟩
          case measure => first | (simp [intOf]; done) | (simp [intOf]; omega)
        | true =>
          rw [hb] at d0 hs
          have HS := hid (show cnt m (j + 1) = cnt m j + 1 by simpa using hs)
          clear hs
          go_wp2_with fail
          go_roundw
          case rel => exact ⟨j + 1, by omega, by omega, by go_num, by rw [HS.out]; go_num, (by first | rfl | trivial)⟩
          case measure => first | (simp [intOf]; done) | (simp [intOf]; omega)
      · have h2' : ¬ (j : Int) < (m.length : Int) := by omega
        have HE := hid (ahead_end m hjn (.inr (by omega)))
        go_wp2_with fail
        refine bodyPost_ret (v := .int .i64 (cnt m j : Int)) (by simp [results, Try.results70, go_sem]) rfl ?_
        exact ⟨by rw [HE.out], rfl⟩
    · have HE := hid (ahead_end m hjn (.inl h1))
      go_wp2_with fail
      refine bodyPost_ret (v := .int .i64 (cnt m j : Int)) (by simp [results, Try.results70, go_sem]) rfl ?_
      exact ⟨by rw [HE.out], rfl⟩

set_option maxRecDepth 100000 in
set_option maxHeartbeats 1000000 in
theorem kept_calls (m : List Bool) (hml : m.length ≤ 65536) (B gi gh : Nat) (w : World) (mv c0 : Value) (hg : w.heap[gi]? = some (.cells #[mv] 55 (0, 0))) (hm : OwnB w B m mv)
    (t : List Int) (ht : t.length ≤ 65536) (hti : ∀ j (hj : j < t.length), ∃ v : Nat, t[j] = (v : Int) ∧ v < m.length) (A : Nat → Prop) (tv : Value) (htv : NumsR A w t tv) (hh : w.heap[gh]? = some (.cells #[c0, tv] 38 (0, 0))) (n : Int) (hn : I64 n) :
    Calls Try.prog 71 #[.int .i64 n, .pointer (some ⟨gh, 0, none⟩), .pointer (some ⟨gi, 0, none⟩)] w (Pure w (IsV (.int .i64 (ahead (trailM m t) n)))) := by
  obtain ⟨ma, mc, rfl, hl, hc⟩ := OwnF.val hm
  obtain ⟨ta, tap, tb, toff, rfl, ht1, ht2, ht3, hta, hte⟩ := htv.at
  have HTA := hid hta
  have HTE := hid hte
  have HM := hid hm
  have HG := hid hg
  have HH := hid hh
  have HTI := hid hti
  have hn1 : n ≤ 9223372036854775807 := by unfold I64 at hn; omega
  have hn2 : -9223372036854775808 ≤ n := by unfold I64 at hn; omega
  have htl : (trailM m t).length = t.length := by simp [trailM]
  clear hm hn hta hte hg hh hti htv
  go_enter Try.func71, Try.ntmps71
  go_wp2_with fail
  go_loopw [6, 5] (fun i k wr => ∃ j : Nat, j ≤ t.length ∧ (j : Int) ≤ max n 0 ∧ i = .int .i64 (j : Int) ∧ k = .int .i64 (cnt (trailM m t) j : Int) ∧ Below w.heap.size w wr) (fun i _ _ => t.length - (intOf i).toNat)
  case atStart => exact ⟨0, Nat.zero_le _, by omega, rfl, rfl, Below.refl _ _⟩
  case round =>
    obtain ⟨j, hj, hjn, rfl, rfl, hb⟩ := hrel
    have HB := hid hb
    have hcj := cnt_le (trailM m t) j
    obtain ⟨b0, bf⟩ := box1 (blk_below HG.out hb)
    obtain ⟨x0, x1, xf⟩ := box2 (blk_below HH.out hb)
    by_cases h1 : (j : Int) < n
    · by_cases h2 : j < t.length
      · have h2' : (j : Int) < (t.length : Int) := by omega
        obtain ⟨rfl, hAt⟩ := HTA.out (by omega)
        obtain ⟨e0, -⟩ := num_cell HTE.out hAt (Keeps.of_below hb) h2
        obtain ⟨v, hv, hvl⟩ := HTI.out j h2
        rw [hv] at e0
        have hs := cnt_succ (trailM m t) (j := j) (by omega)
        have hget : (trailM m t)[j]'(by omega) = m[v] := by
          simp [trailM, hv, List.getElem?_eq_getElem hvl]
        rw [hget] at hs
        have hv0 : (0 : Int) ≤ (v : Int) := Int.natCast_nonneg _
        have hv1 : (v : Int) < (m.length : Int) := by omega
        have hj0 : (0 : Int) ≤ (j : Int) := Int.natCast_nonneg _
        obtain ⟨gb, gcap, e, -, -, -, -, -, -, -, hcell⟩ := OwnF.at boolV_len (OwnF.below HM.out hb) (by omega)
        simp only [Value.slice.injEq] at e
        obtain ⟨rfl, -, rfl⟩ := e
        have d0 : wr.cell? ⟨gb, v, none⟩ = some (.bool m[v]) := by simpa using hcell v hvl 0 _ rfl
        clear hcell hb hv hget
        cases hb : m[v] with
        | false =>
          rw [hb] at d0 hs
          have HS := hid (show cnt (trailM m t) (j + 1) = cnt (trailM m t) j by simpa using hs)
          clear hs
          go_wp2_with fail
          go_region
          go_wp2_with fail
          go_roundw
          case rel => exact ⟨j + 1, by omega, by omega, by go_num, by rw [HS.out], HB.out.drew⟩
          case measure => first | (simp [intOf]; done) | (simp [intOf]; omega)
        | true =>
          rw [hb] at d0 hs
          have HS := hid (show cnt (trailM m t) (j + 1) = cnt (trailM m t) j + 1 by simpa using hs)
          clear hs
          go_wp2_with fail
          go_region
          go_wp2_with fail
          go_roundw
          case rel => exact ⟨j + 1, by omega, by omega, by go_num, by rw [HS.out]; go_num, HB.out.drew⟩
          case measure => first | (simp [intOf]; done) | (simp [intOf]; omega)
      · have h2' : ¬ (j : Int) < (t.length : Int) := by omega
        have HE := hid (ahead_end (trailM m t) hjn (.inr (by omega)))
        clear hb
        go_wp2_with fail
        refine bodyPost_ret (v := .int .i64 (cnt (trailM m t) j : Int)) (by simp [results, Try.results71, go_sem]) rfl ?_
        exact ⟨_, rfl, HB.out, by rw [HE.out]; rfl⟩
    · have HE := hid (ahead_end (trailM m t) hjn (.inl h1))
      clear hb
      go_wp2_with fail
      refine bodyPost_ret (v := .int .i64 (cnt (trailM m t) j : Int)) (by simp [results, Try.results71, go_sem]) rfl ?_
      exact ⟨_, rfl, HB.out, by rw [HE.out]; rfl⟩
end Go.Proofs.Ytlpmfkpefoegeaa
