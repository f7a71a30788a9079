/-
  Terms that are alike.
-/
import Derived.Test.YtlpmfkpefoegeacDoorQSame
namespace Go.Proofs.YtlpmfkpefoegeacDoor
set_option linter.unusedVariables false
set_option linter.unusedSimpArgs false
open Go.RowKit
set_option maxHeartbeats 400000 in
theorem same_keep_of (k n : Int) (s : ByteArray) (l : List Tm) (ih : ∀ t ∈ l, SameOK 25 t) : SameOK 25 (.mk k n s l) := by
  rintro ⟨k', n', s', l'⟩ A w us vs hu hv
  rw [Tm.rep_iff] at hu hv
  obtain ⟨hk, hn, hs, u, rfl, hl⟩ := hu
  obtain ⟨hk', hn', hs', v, rfl, hl'⟩ := hv
  obtain ⟨a, cap, b, off, rfl, hlc, hcm, hlb, ha, he⟩ := hl.at
  obtain ⟨a', cap', b', off', rfl, hlc', hcm', hlb', ha', he'⟩ := hl'.at
  have HE := hid he
  have HA := hid ha
  have HE' := hid he'
  have HA' := hid ha'
  have IH := hid ih
  clear he ha he' ha' hl hl' ih
  by_cases e1 : k = k'
  · subst e1
    by_cases e2 : n = n'
    · subst e2
      by_cases e3 : s = s'
      · subst e3
        by_cases e4 : l.length = l'.length
        · have E4 := hid e4
          rw [← e4] at hlc' hlb' HA' ⊢
          clear e4
          go_enter Tryd.func25, Tryd.ntmps25
          go_wp2_with fail
          go_loopw [37] (fun i wr => ∃ j : Nat, j ≤ l.length ∧ i = .int .i64 j ∧ Below (w.heap.size + 2) ((w.alloc (.cells #[.int .i64 k, .int .i64 n, .string s, .slice a l.length cap] 27)).alloc (.cells #[.int .i64 k, .int .i64 n, .string s, .slice a' l.length cap'] 27)) wr ∧ l.take j = l'.take j) (fun i _ => l.length - (intOf i).toNat)
          case atStart => exact ⟨0, Nat.zero_le _, rfl, Below.refl _ _, by simp⟩
          case round =>
            obtain ⟨j, hj, rfl, hb, hpre⟩ := hrel
            have HB := hid hb
            have HP := hid hpre
            have hz := hb.size
            simp only [World.size_alloc] at hz
            clear hb hpre
            by_cases hlt : j < l.length
            · have hlt' : j < l'.length := by have := E4.out; omega
              obtain ⟨rfl, hAb⟩ := HA.out (by omega)
              obtain ⟨rfl, hAb'⟩ := HA'.out (by omega)
              have hk2 : Keeps A w wr := ((Keeps.alloc _ _ _).trans (Keeps.alloc _ _ _)).trans (Keeps.of_below (HB.out.mono (by simp)))
              obtain ⟨sa, sc, c0, c1, c2, c3, hr⟩ := tm_cells HE.out hAb hk2 hlt
              obtain ⟨sa', sc', d0, d1, d2, d3, hr'⟩ := tm_cells HE'.out hAb' hk2 hlt'
              have f0 : wr.cell? ⟨w.heap.size, 3, none⟩ = some (.slice (some ⟨b, off, none⟩) l.length cap) := by
                rw [HB.out.cell (by simp)]; simp
              have f1 : wr.cell? ⟨w.heap.size + 1, 3, none⟩ = some (.slice (some ⟨b', off', none⟩) l.length cap') := by
                rw [HB.out.cell (by simp)]; simp
              have HC := hid (IH.out _ (List.getElem_mem hlt) _ _ _ _ _ (Tm.rep_lasts.1 _ _ _ _ _ hr (Keeps.drew _ _)) (Tm.rep_lasts.1 _ _ _ _ _ hr' (Keeps.drew _ _)))
              clear hr hr' hk2
              go_wp2_with fail
              go_region_held3 (fun w' => w'.cell? ⟨w.heap.size, 3, none⟩ = some (.slice (some ⟨b, off, none⟩) l.length cap) ∧ w'.cell? ⟨w.heap.size + 1, 3, none⟩ = some (.slice (some ⟨b', off', none⟩) l.length cap') ∧
                  w'.cell? ⟨b, off + j * 4, none⟩ = some (.int .i64 l[j].kind) ∧ w'.cell? ⟨b, off + j * 4 + 1, none⟩ = some (.int .i64 l[j].n) ∧ w'.cell? ⟨b, off + j * 4 + 2, none⟩ = some (.string l[j].s) ∧ w'.cell? ⟨b, off + j * 4 + 3, none⟩ = some (.slice sa l[j].args.length sc) ∧
                  w'.cell? ⟨b', off' + j * 4, none⟩ = some (.int .i64 l'[j].kind) ∧ w'.cell? ⟨b', off' + j * 4 + 1, none⟩ = some (.int .i64 l'[j].n) ∧ w'.cell? ⟨b', off' + j * 4 + 2, none⟩ = some (.string l'[j].s) ∧ w'.cell? ⟨b', off' + j * 4 + 3, none⟩ = some (.slice sa' l'[j].args.length sc'))
                (first | exact ⟨f0, f1, c0, c1, c2, c3, d0, d1, d2, d3⟩ | exact ⟨bc hb1 f0, bc hb1 f1, bc hb1 c0, bc hb1 c1, bc hb1 c2, bc hb1 c3, bc hb1 d0, bc hb1 d1, bc hb1 d2, bc hb1 d3⟩)
                ((go_at_call 25; refine (HC.out).mono ?_; rintro e w1 ⟨v, rfl, hb1, r, rfl, hr⟩))
              have HB1 := hid (HB.out.drew.trans (hb1.mono (by simp; omega)))
              have HR := hid hr
              clear hr hb1 HC c0 c1 c2 c3 d0 d1 d2 d3 f0 f1
              cases r with
              | false =>
                go_wp2_with fail
                go_ret
                refine ⟨_, rfl, below_pure (below_pure (HB1.out.mono (by simp))), false, rfl, ?_⟩
                have h1 := HR.out
                simp only [Bool.false_eq_true, false_iff, Tm.mk.injEq, true_and] at h1 ⊢
                rintro rfl
                exact h1 rfl
              | true =>
                go_wp2_with fail
                go_roundw
                case rel => exact ⟨j + 1, by omega, by go_num, HB1.out, take_next HP.out hlt hlt' (by simpa using HR.out)⟩
                case measure => simp [intOf]; omega
            · go_wp2_with fail
              go_ret
              refine ⟨_, rfl, below_pure (below_pure (HB.out.mono (by simp))), true, rfl, ?_⟩
              have h1 := HP.out
              have h2 := E4.out
              rw [List.take_of_length_le (by omega), List.take_of_length_le (by omega)] at h1
              simp [h1]
        · have e4' : ((l.length : Int) != (l'.length : Int)) = true := by simp; omega
          go_enter Tryd.func25, Tryd.ntmps25
          go_wp2_with fail
          go_ret
          refine ⟨_, rfl, ((Below.refl _ _).alloc (Nat.le_refl _) _).alloc (by simp) _, false, rfl, by simp; rintro rfl; exact e4 rfl⟩
      · have e3' := toList_ne e3
        go_enter Tryd.func25, Tryd.ntmps25
        go_wp2_with fail
        go_ret
        refine ⟨_, rfl, ((Below.refl _ _).alloc (Nat.le_refl _) _).alloc (by simp) _, false, rfl, by simp [e3]⟩
    · have e2' : (n != n') = true := by simpa using e2
      go_enter Tryd.func25, Tryd.ntmps25
      go_wp2_with fail
      go_ret
      refine ⟨_, rfl, ((Below.refl _ _).alloc (Nat.le_refl _) _).alloc (by simp) _, false, rfl, by simp [e2]⟩
  · have e1' : (k != k') = true := by simpa using e1
    go_enter Tryd.func25, Tryd.ntmps25
    go_wp2_with fail
    go_ret
    refine ⟨_, rfl, ((Below.refl _ _).alloc (Nat.le_refl _) _).alloc (by simp) _, false, rfl, by simp [e1]⟩
theorem same_keep_ok : ∀ t, SameOK 25 t := by
  intro t
  induction t using Tm.induct with
  | h k n s l ih => exact same_keep_of k n s l ih
end Go.Proofs.YtlpmfkpefoegeacDoor
