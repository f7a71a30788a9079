/-
  Which heaps are valid: the program's answer, and the document's.
-/
import Derived.Test.YtlpmfkpefoegeabDoorQSameN
import Derived.Test.YtlpmfkpefoegeabDoorQCopy
import Derived.Test.YtlpmfkpefoegeabDoorHGc
namespace Go.Proofs.YtlpmfkpefoegeabDoor
set_option linter.unusedVariables false
set_option linter.unusedSimpArgs false
open Go.RowKit

/-- the answer to whether p -/
def BoolP (p : Prop) (r : Value) (_ : World) : Prop := ∃ t, r = .bool t ∧ (t = true ↔ p)

/-- the first cells, of a valid heap -/
def OkTo (l : List Ce) (j : Nat) : Prop := ∀ k (hk : k < l.length), k < j → (l[k]).OkAt l.length k

/-- the first elements, of a valid trail -/
def OkTr (l : List Ce) (t : List Int) (j : Nat) : Prop := ∀ k (hk : k < t.length), k < j → ∃ v : Nat, t[k] = (v : Int) ∧ ∃ hv : v < l.length, (l[v]).kind = 0

theorem OkTo.next {l : List Ce} {j : Nat} (h : OkTo l j) (hj : j < l.length) (ho : (l[j]).OkAt l.length j) : OkTo l (j + 1) := fun k hk hkj => by
  by_cases e : k = j
  · subst e; exact ho
  · exact h k hk (by omega)

theorem OkTr.next {l : List Ce} {t : List Int} {j : Nat} (h : OkTr l t j) (hj : j < t.length) (ho : ∃ v : Nat, t[j] = (v : Int) ∧ ∃ hv : v < l.length, (l[v]).kind = 0) : OkTr l t (j + 1) := fun k hk hkj => by
  by_cases e : k = j
  · subst e; exact ho
  · exact h k hk (by omega)

set_option maxRecDepth 100000 in
set_option maxHeartbeats 4000000 in
theorem good_ok (h : Hp) (A : Nat → Prop) (w : World) (vs : List Value) (hh : Hp.rep A w h vs) :
    Calls Tryd.prog 102 #[.agg vs.toArray] w (Pure w (BoolP h.Good)) := by
  obtain ⟨a, cap, b, tap, rfl, hc1, hc2, hc3, ht1, ht2, ht3, hc, ht⟩ := Hp.rep2 hh
  obtain ⟨_, _, cb, coff, e, -, -, -, ha, he⟩ := hc.at
  simp only [Value.slice.injEq, true_and] at e
  obtain ⟨rfl, rfl⟩ := e
  obtain ⟨_, _, tb, toff, e, -, -, -, hb, hf⟩ := ht.at
  simp only [Value.slice.injEq, true_and] at e
  obtain ⟨rfl, rfl⟩ := e
  have HE := hid he
  have HA := hid ha
  have HE' := hid hf
  have HA' := hid hb
  clear hh hc ht he ha hf hb
  go_enter Tryd.func102, Tryd.ntmps102
  go_wp2_with fail
  go_loopw [10] (fun i wr => ∃ j : Nat, j ≤ h.cells.length ∧ i = .int .i64 j ∧ Below (w.heap.size + 1) (w.alloc (.cells #[.slice a h.cells.length cap, .slice b h.trail.length tap] 109)) wr ∧ OkTo h.cells j) (fun i _ => h.cells.length - (intOf i).toNat)
  case atStart => exact ⟨0, Nat.zero_le _, rfl, Below.refl _ _, fun k _ hk => by omega⟩
  case round =>
    obtain ⟨j, hj, rfl, hb, hpre⟩ := hrel
    have HB := hid hb
    have HP := hid hpre
    have hz := hb.size
    simp only [World.size_alloc] at hz
    have hz' : w.heap.size < wr.heap.size := hz
    clear hb hpre
    by_cases hlt : j < h.cells.length
    · obtain ⟨rfl, hAb⟩ := HA.out (by omega)
      have hk2 : Keeps A w wr := (Keeps.alloc _ _ _).trans (Keeps.of_below (HB.out.mono (by simp)))
      obtain ⟨c0, c1, c2, i0, i1, i2⟩ := ce_cells HE.out hAb hk2 hlt
      have f0 : wr.cell? ⟨w.heap.size, 0, none⟩ = some (.slice (some ⟨cb, coff, none⟩) h.cells.length cap) := by
        rw [HB.out.cell (by simp)]; simp
      clear hk2
      have hlb : cb < wr.heap.size := World.block_lt_of_cell? wr _ c0
      go_wp2_with fail
      all_goals first
        | (go_roundw
           case rel =>
             refine ⟨j + 1, by omega, by go_num, HB.out.alloc hz _, HP.out.next hlt ?_⟩
             clear HE HE' HA HA' HB HP
             unfold Ce.OkAt
             simp_all <;> omega
           case measure => simp [intOf]; omega)
        | (go_ret
           refine ⟨_, rfl, below_pure ((HB.out.alloc hz _).mono (by simp)), false, rfl, ?_⟩
           simp only [Bool.false_eq_true, false_iff]
           intro hg
           have := hg.1 j hlt
           clear HE HE' HA HA' HB HP
           unfold Ce.OkAt at this
           simp_all <;> omega)
        | go_ways
    · have hje : j = h.cells.length := by omega
      have HJ := hid hje
      clear hje
      have f0 : wr.cell? ⟨w.heap.size, 0, none⟩ = some (.slice a h.cells.length cap) := by
        rw [HB.out.cell (by simp)]; simp
      have f1 : wr.cell? ⟨w.heap.size, 1, none⟩ = some (.slice b h.trail.length tap) := by
        rw [HB.out.cell (by simp)]; simp
      obtain ⟨w1, rfl⟩ : ∃ x, x = wr := ⟨_, rfl⟩
      go_wp2_with fail
      go_loopw [80] (fun i ws => ∃ q : Nat, q ≤ h.trail.length ∧ i = .int .i64 q ∧ Below w1.heap.size w1 ws ∧ OkTr h.cells h.trail q) (fun i _ => h.trail.length - (intOf i).toNat)
      case atStart => exact ⟨0, Nat.zero_le _, rfl, Below.refl _ _, fun k _ hk => by omega⟩
      case round =>
        obtain ⟨q, hq, rfl, hb, hpre⟩ := hrel
        have f0' := bc hb f0
        have f1' := bc hb f1
        clear f0 f1
        have HB2 := hid hb
        have HP2 := hid hpre
        have hzz := hb.size
        clear hb hpre
        by_cases hlt2 : q < h.trail.length
        · obtain ⟨rfl, hAb2⟩ := HA'.out (by omega)
          have hk2 : Keeps A w wr := ((Keeps.alloc _ _ _).trans (Keeps.of_below (HB.out.mono (by simp)))).trans (Keeps.of_below HB2.out)
          have HK2 := hid hk2
          obtain ⟨d0, id0⟩ := num_cell HE'.out hAb2 hk2 hlt2
          have hq0 : (0 : Int) ≤ (q : Int) := Int.natCast_nonneg _
          have hq1 : (q : Int) < (h.trail.length : Int) := by omega
          clear hk2
          by_cases hin : 0 ≤ h.trail[q] ∧ h.trail[q] < h.cells.length
          · obtain ⟨v, hv⟩ := Int.eq_ofNat_of_zero_le hin.1
            have hvl : v < h.cells.length := by omega
            have HV := hid hv
            rw [hv] at d0
            clear hv hin id0
            obtain ⟨rfl, hAb⟩ := HA.out (by omega)
            obtain ⟨c0, c1, c2, i0, i1, i2⟩ := ce_cells HE.out hAb HK2.out hvl
            have hv0 : (0 : Int) ≤ (v : Int) := Int.natCast_nonneg _
            have hv1 : (v : Int) < (h.cells.length : Int) := by omega
            go_wp2_with fail
            all_goals first
              | (go_roundw
                 case rel =>
                   refine ⟨q + 1, by omega, by go_num, HB2.out, HP2.out.next hlt2 ⟨v, HV.out, hvl, ?_⟩⟩
                   clear HE HE' HA HA' HB HP HK2 HB2 HP2 HV HJ
                   simp_all <;> omega
                 case measure => simp [intOf]; omega)
              | (go_ret
                 refine ⟨_, rfl, below_pure ((HB.out.trans (HB2.out.mono hz)).mono (by simp)), false, rfl, ?_⟩
                 simp only [Bool.false_eq_true, false_iff]
                 intro hg
                 obtain ⟨v', e1, e2, e3⟩ := hg.2.1 q hlt2
                 obtain rfl : v' = v := by have := HV.out; omega
                 clear HE HE' HA HA' HB HP HK2 HB2 HP2 HV HJ
                 simp_all <;> omega)
              | go_ways
          · go_wp2_with fail
            all_goals
              go_ret
              refine ⟨_, rfl, below_pure ((HB.out.trans (HB2.out.mono hz)).mono (by simp)), false, rfl, ?_⟩
              simp only [Bool.false_eq_true, false_iff]
              intro hg
              obtain ⟨v', e1, e2, e3⟩ := hg.2.1 q hlt2
              omega
        · go_wp2_with fail
          all_goals
            go_ret
            refine ⟨_, rfl, below_pure ((HB.out.trans (HB2.out.mono hz)).mono (by simp)), _, rfl, ?_⟩
            have := HJ.out
            refine Iff.trans (b := h.cells.length ≤ 65536 ∧ h.trail.length ≤ 65536) ?_ ⟨fun h1 => ⟨fun i hi => HP.out i hi (by omega), fun i hi => HP2.out i hi (by omega), h1.1, h1.2⟩, fun hg => hg.2.2⟩
            simp <;> omega
end Go.Proofs.YtlpmfkpefoegeabDoor
