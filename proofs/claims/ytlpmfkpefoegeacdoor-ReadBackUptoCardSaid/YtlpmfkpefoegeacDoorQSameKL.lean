/-
  Lists of terms that are alike.
-/
import Derived.Test.YtlpmfkpefoegeacDoorQSameK
import Derived.Test.YtlpmfkpefoegeacDoorQReg
namespace Go.Proofs.YtlpmfkpefoegeacDoor
set_option linter.unusedVariables false
set_option linter.unusedSimpArgs false
open Go.RowKit
set_option maxHeartbeats 1000000 in
theorem sames_ok (l l' : List Tm) (A : Nat → Prop) (w : World) (u v : Value) (hu : TmsR A w l u) (hv : TmsR A w l' v) :
    Calls Tryd.prog 12 #[u, v] w (Pure w fun r _ => ∃ t, r = .bool t ∧ (t = true ↔ l = l')) := by
  obtain ⟨a, cap, b, off, rfl, hlc, hcm, hlb, ha, he⟩ := hu.at
  obtain ⟨a', cap', b', off', rfl, hlc', hcm', hlb', ha', he'⟩ := hv.at
  have HE := hid he
  have HA := hid ha
  have HE' := hid he'
  have HA' := hid ha'
  clear he ha he' ha' hu hv
  by_cases e4 : l.length = l'.length
  · have E4 := hid e4
    rw [← e4] at hlc' hlb' HA' ⊢
    clear e4
    go_enter Tryd.func12, Tryd.ntmps12
    go_wp2_with fail
    go_loopw [13] (fun i wr => ∃ j : Nat, j ≤ l.length ∧ i = .int .i64 j ∧ Below w.heap.size w wr ∧ l.take j = l'.take j) (fun i _ => l.length - (intOf i).toNat)
    case atStart => exact ⟨0, Nat.zero_le _, rfl, Below.refl _ _, by simp⟩
    case round =>
      obtain ⟨j, hj, rfl, hb, hpre⟩ := hrel
      have HB := hid hb
      have HP := hid hpre
      have hz := hb.size
      clear hb hpre
      by_cases hlt : j < l.length
      · have hlt' : j < l'.length := by have := E4.out; omega
        obtain ⟨rfl, hAb⟩ := HA.out (by omega)
        obtain ⟨rfl, hAb'⟩ := HA'.out (by omega)
        obtain ⟨sa, sc, c0, c1, c2, c3, hr⟩ := tm_cells HE.out hAb (Keeps.of_below HB.out) hlt
        obtain ⟨sa', sc', d0, d1, d2, d3, hr'⟩ := tm_cells HE'.out hAb' (Keeps.of_below HB.out) hlt'
        have HC := hid (same_keep_ok l[j] l'[j] _ _ _ _ (Tm.rep_lasts.1 _ _ _ _ _ hr (Keeps.drew _ _)) (Tm.rep_lasts.1 _ _ _ _ _ hr' (Keeps.drew _ _)))
        have hi0 : (0 : Int) ≤ (j : Int) := Int.natCast_nonneg _
        have hi1 : (j : Int) < (l.length : Int) := by omega
        clear hr hr'
        go_wp2_with fail
        go_region_held3 (fun w' => w'.cell? ⟨b, off + j * 4, none⟩ = some (.int .i64 l[j].kind) ∧ w'.cell? ⟨b, off + j * 4 + 1, none⟩ = some (.int .i64 l[j].n) ∧ w'.cell? ⟨b, off + j * 4 + 2, none⟩ = some (.string l[j].s) ∧ w'.cell? ⟨b, off + j * 4 + 3, none⟩ = some (.slice sa l[j].args.length sc) ∧
            w'.cell? ⟨b', off' + j * 4, none⟩ = some (.int .i64 l'[j].kind) ∧ w'.cell? ⟨b', off' + j * 4 + 1, none⟩ = some (.int .i64 l'[j].n) ∧ w'.cell? ⟨b', off' + j * 4 + 2, none⟩ = some (.string l'[j].s) ∧ w'.cell? ⟨b', off' + j * 4 + 3, none⟩ = some (.slice sa' l'[j].args.length sc'))
          (first | exact ⟨c0, c1, c2, c3, d0, d1, d2, d3⟩ | exact ⟨bc hb1 c0, bc hb1 c1, bc hb1 c2, bc hb1 c3, bc hb1 d0, bc hb1 d1, bc hb1 d2, bc hb1 d3⟩)
          ((go_at_call 25; refine (HC.out).mono ?_; rintro e w1 ⟨v, rfl, hb1, r, rfl, hr⟩))
        have HB1 := hid (HB.out.drew.trans (hb1.mono (by simp; omega)))
        have HR := hid hr
        clear hr hb1 HC c0 c1 c2 c3 d0 d1 d2 d3
        cases r with
        | false =>
          go_wp2_with fail
          go_ret
          refine ⟨_, rfl, HB1.out, false, rfl, ?_⟩
          have h1 := HR.out
          simp only [Bool.false_eq_true, false_iff] at h1 ⊢
          rintro rfl
          exact h1 rfl
        | true =>
          go_wp2_with fail
          go_roundw
          case rel => exact ⟨j + 1, by omega, by go_num, HB1.out, take_next HP.out hlt hlt' (by simpa using HR.out)⟩
          case measure => simp [intOf]; omega
      · go_wp2_with fail
        go_ret
        refine ⟨_, rfl, HB.out, true, rfl, ?_⟩
        have h1 := HP.out
        have h2 := E4.out
        rw [List.take_of_length_le (by omega), List.take_of_length_le (by omega)] at h1
        simp [h1]
  · have e4' : ((l.length : Int) != (l'.length : Int)) = true := by simp; omega
    go_enter Tryd.func12, Tryd.ntmps12
    go_wp2_with fail
    go_ret
    refine ⟨_, rfl, Below.refl _ _, false, rfl, by simp; rintro rfl; exact e4 rfl⟩
end Go.Proofs.YtlpmfkpefoegeacDoor
