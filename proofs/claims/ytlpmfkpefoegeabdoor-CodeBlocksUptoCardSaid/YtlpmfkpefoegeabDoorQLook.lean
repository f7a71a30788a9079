/-
  heap.Look.
-/
import Derived.Test.YtlpmfkpefoegeabDoorQLoad
namespace Go.Proofs.YtlpmfkpefoegeabDoor
set_option linter.unusedVariables false
set_option linter.unusedSimpArgs false
open Go.RowKit

/-- an answer that is a number -/
def IntIs (n : Int) (r : Value) (_ : World) : Prop := r = .int .i64 n

theorem HpHid {A : Nat → Prop} {w : World} {h : Hp} {vs : List Value} (hh : Hp.rep A w h vs) :
    ∃ a cap b tap cb coff tb toff, vs = [.slice a h.cells.length cap, .slice b h.trail.length tap] ∧ h.cells.length ≤ cap ∧ cap ≤ maxLen ∧ h.cells.length ≤ 1048576 ∧ h.trail.length ≤ tap ∧ tap ≤ maxLen ∧ h.trail.length ≤ 1048576 ∧
      Hid (0 < h.cells.length → a = some ⟨cb, coff, none⟩ ∧ A cb) ∧ Hid (Elems A w 3 Ce.rep h.cells cb coff) ∧ Hid (0 < h.trail.length → b = some ⟨tb, toff, none⟩ ∧ A tb) ∧ Hid (Elems A w 1 numR h.trail tb toff) := by
  obtain ⟨a, cap, b, tap, rfl, hc1, hc2, hc3, ht1, ht2, ht3, hc, ht⟩ := Hp.rep2 hh
  obtain ⟨_, _, cb, coff, e, -, -, -, ha, he⟩ := hc.at
  simp only [Value.slice.injEq, true_and] at e
  obtain ⟨rfl, rfl⟩ := e
  obtain ⟨_, _, tb, toff, e, -, -, -, hb, hf⟩ := ht.at
  simp only [Value.slice.injEq, true_and] at e
  obtain ⟨rfl, rfl⟩ := e
  exact ⟨a, cap, b, tap, cb, coff, tb, toff, rfl, hc1, hc2, hc3, ht1, ht2, ht3, hid ha, hid he, hid hb, hid hf⟩

/-- the way of Look -/
def LookSt (l : List Ce) (a0 : Int) (i : Nat) (a : Int) : Prop := lookN l (l.length + 1 - i) a = look l a0 ∧ I64 a

set_option maxHeartbeats 2000000 in
theorem look_ok (h : Hp) (a : Int) (ha : I64 a) (A : Nat → Prop) (w : World) (vs : List Value) (hh : Hp.rep A w h vs) :
    Calls Tryd.prog 148 #[.agg vs.toArray, .int .i64 a] w (Pure w (IntIs (look h.cells a))) := by
  obtain ⟨va, cap, vb, tap, cb, coff, tb, toff, rfl, hc1, hc2, hc3, ht1, ht2, ht3, HA, HE, HA', HE'⟩ := HpHid hh
  have HI := hid ha
  clear hh ha
  go_enter Tryd.func148, Tryd.ntmps148
  go_wp2_with fail
  go_loopw [1, 10] (fun x i wr => ∃ (j : Nat) (b : Int), j ≤ h.cells.length + 1 ∧ i = .int .i64 j ∧ x = .int .i64 b ∧ Below (w.heap.size + 1) (w.alloc (.cells #[.slice va h.cells.length cap, .slice vb h.trail.length tap] 109)) wr ∧ LookSt h.cells a j b) (fun _ i _ => h.cells.length + 1 - (intOf i).toNat)
  case atStart => exact ⟨0, a, Nat.zero_le _, rfl, rfl, Below.refl _ _, rfl, HI.out⟩
  case round =>
    obtain ⟨j, b, hj, rfl, rfl, hb, hst⟩ := hrel
    have HB := hid hb
    have HS := hid hst.1
    have hz := hb.size
    simp only [World.size_alloc] at hz
    have hz' : w.heap.size < wr.heap.size := hz
    have f0 : wr.cell? ⟨w.heap.size, 0, none⟩ = some (.slice va h.cells.length cap) := by
      rw [hb.cell (by simp)]; simp
    have hbi := hst.2
    clear hb hst
    by_cases hlt : j < h.cells.length + 1
    · have hlt' : (j : Int) < (h.cells.length : Int) + 1 := by omega
      have HK := hid (show h.cells.length + 1 - j = (h.cells.length - j) + 1 by omega)
      by_cases hin : Inb h.cells b
      · obtain ⟨v, rfl, hv, hcv⟩ := cellAt_eq hin
        have HCV := hid hcv
        obtain ⟨rfl, hAb⟩ := HA.out (by omega)
        have hk2 : Keeps A w wr := (Keeps.alloc _ _ _).trans (Keeps.of_below (HB.out.mono (by simp)))
        obtain ⟨c0, c1, c2, i0, i1, i2⟩ := ce_cells HE.out hAb hk2 hv
        have hlb : cb < wr.heap.size := World.block_lt_of_cell? wr _ c0
        have hv0 : (0 : Int) ≤ (v : Int) := Int.natCast_nonneg _
        have hv1 : (v : Int) < (h.cells.length : Int) := by omega
        have HIN := hid hin
        clear hk2 hcv hin
        by_cases hs : Stop h.cells (v : Int)
        · have hres : look h.cells a = (v : Int) := by
            have := HS.out
            rw [HK.out, lookN, if_neg (not_not_intro HIN.out), if_pos hs] at this
            exact this.symm
          have HRES := hid hres
          unfold Stop at hs
          rw [HCV.out] at hs
          have HST := hid hs
          clear hres hs
          by_cases hk : h.cells[v].kind = 0
          · have hn : h.cells[v].n = v := HST.out.resolve_left (not_not_intro hk)
            rw [hk] at c0
            rw [hn] at c1
            clear hk hn
            go_wp2_with fail
            go_ret
            exact ⟨_, rfl, below_pure ((HB.out.alloc hz _).mono (by simp)), by unfold IntIs; rw [HRES.out]; rfl⟩
          · have hk' : (h.cells[v].kind != 0) = true := by simpa using hk
            clear hk
            go_wp2_with fail
            go_ret
            exact ⟨_, rfl, below_pure ((HB.out.alloc hz _).mono (by simp)), by unfold IntIs; rw [HRES.out]; rfl⟩
        · have hnx : lookN h.cells (h.cells.length - j) h.cells[v].n = look h.cells a := by
            have := HS.out
            rw [HK.out, lookN, if_neg (not_not_intro HIN.out), if_neg hs, HCV.out] at this
            exact this
          have HNX := hid hnx
          unfold Stop at hs
          rw [HCV.out] at hs
          have hk : h.cells[v].kind = 0 := Decidable.not_not.1 fun e => hs (.inl e)
          have hn : ¬ h.cells[v].n = v := fun e => hs (.inr e)
          have hn' : (h.cells[v].n == (v : Int)) = false := by simpa using hn
          rw [hk] at c0
          clear hs hk hn hnx
          go_wp2_with fail
          go_roundw
          case rel =>
            refine ⟨j + 1, h.cells[v].n, by omega, by go_num, rfl, HB.out.alloc hz _, ?_, i1⟩
            rw [show h.cells.length + 1 - (j + 1) = h.cells.length - j by omega]
            exact HNX.out
          case measure => simp [intOf]; omega
      · have hres : look h.cells a = -1 := by
          have := HS.out
          rw [HK.out, lookN, if_pos hin] at this
          exact this.symm
        have HRES := hid hres
        unfold Inb at hin
        clear hres
        go_wp2_with fail
        all_goals first
          | (exfalso; omega)
          | (go_ret
             exact ⟨_, rfl, below_pure (HB.out.mono (by simp)), by unfold IntIs; rw [HRES.out]; rfl⟩)
          | go_ways
    · have hres : look h.cells a = -1 := by
        have := HS.out
        rw [show h.cells.length + 1 - j = 0 by omega, lookN] at this
        exact this.symm
      have HRES := hid hres
      clear hres
      have hje : j = h.cells.length + 1 := by omega
      subst hje
      go_wp2_with fail
      go_ret
      exact ⟨_, rfl, below_pure (HB.out.mono (by simp)), by unfold IntIs; rw [HRES.out]; rfl⟩
end Go.Proofs.YtlpmfkpefoegeabDoor
