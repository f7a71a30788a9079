/-
  The small question whether package heap answers at all.
-/
import Derived.Test.YtlpmfkpefoegeabQHUnify
namespace Go.Proofs.Ytlpmfkpefoegeab
set_option linter.unusedVariables false
set_option linter.unusedSimpArgs false
open Go.RowKit

def hc0 : Ce := ⟨0, 0, ByteArray.empty⟩
def hc1 : Ce := ⟨2, 7, ByteArray.empty⟩

theorem empty_toList : ByteArray.empty.toList = [] := by rw [ByteArray.toList_eq]; rfl

theorem hc_good : Hp.Good ⟨[hc0, hc1], []⟩ := by
  refine ⟨fun i hi => ?_, fun j hj => by simp at hj, by simp, by simp⟩
  match i, hi with
  | 0, _ => exact .inl ⟨rfl, Int.le_refl 0, by show (0 : Int) < 2; decide, empty_toList⟩
  | 1, _ => exact .inr (.inr (.inl ⟨rfl, empty_toList⟩))
  | i + 2, hi => simp at hi; omega
theorem nil_good : Hp.Good ⟨[], []⟩ := ⟨fun i hi => by simp at hi, fun j hj => by simp at hj, by simp, by simp⟩

theorem heaps_load : loadF ⟨[], []⟩ [hc0, hc1] = (⟨[hc0, hc1], []⟩, 0, 0) := by
  rw [loadF, if_neg (not_not_intro ⟨nil_good, hc_good⟩), if_neg (by simp)]
  rfl

theorem heaps_look0 : look [hc0, hc1] 0 = 0 := look_self (by decide) (by decide)
theorem heaps_look1 : look [hc0, hc1] 1 = 1 := look_self (by decide) (by decide)

theorem heaps_uni : uniL 400 [(0, 1)] [hc0, hc1] [] = ⟨true, [⟨0, 1, ByteArray.empty⟩, hc1], [0], 398⟩ := by
  rw [show (400 : Nat) = 399 + 1 from rfl, uniL_one, heaps_look0, heaps_look1, if_neg (by decide), uniM]
  have h0 : (cellAt [hc0, hc1] 0).kind = 0 := by decide
  have h1 : (cellAt [hc0, hc1] 1).kind = 2 := by decide
  have hin : inL [hc0, hc1] 0 399 [1] = (false, 398) := by
    rw [show (399 : Nat) = 398 + 1 from rfl, inL_succ, heaps_look1, if_neg (by decide), h1, if_neg (by decide), if_neg (by decide), inL_nil]
    rfl
  rw [h0, h1, if_neg (by decide), if_pos (by decide), if_neg (show ¬ (2 : Int) = 0 by decide), if_neg (show ¬ (2 : Int) = 0 by decide), hin, if_neg (by decide)]
  rfl

theorem heaps_unify : unifyF ⟨[hc0, hc1], []⟩ 0 1 = (⟨[⟨0, 1, ByteArray.empty⟩, hc1], [0]⟩, true, 0) := by
  rw [unifyF, if_neg (not_not_intro hc_good), if_neg (not_not_intro ⟨by show Inb [hc0, hc1] 0; decide, by show Inb [hc0, hc1] 1; decide⟩)]
  simp only
  rw [heaps_uni]
  rfl

theorem heaps_look : look [⟨0, 1, ByteArray.empty⟩, hc1] 0 = 1 := by
  rw [look_next (by decide) (by decide)]
  exact look_self (by decide) (by decide)

theorem heaps_cells {w : World} {g : Nat} {E : TypeId} {fr : Nat × Nat} (h : w.heap[g]? = some (.cells #[.int .i64 0, .int .i64 0, .string ByteArray.empty, .int .i64 2, .int .i64 7, .string ByteArray.empty] E fr)) :
    CesR (fun _ => True) w [hc0, hc1] (.slice (some ⟨g, 0, none⟩) 2 2) := by
  refine ⟨g, 0, ⟨by simp, .inr ⟨by simp, trivial, 2, rfl, by simp, by simp [maxLen]⟩⟩, fun i x hx => ?_⟩
  have i0 : hc0.Ok := ⟨by unfold I64 hc0; simp, by unfold I64 hc0; simp, by decide⟩
  have i1 : hc1.Ok := ⟨by unfold I64 hc1; simp, by unfold I64 hc1; simp, by decide⟩
  match i, hx with
  | 0, hx =>
    simp at hx; subst hx
    exact ⟨hc0.vals, rfl, ⟨i0, rfl⟩, fun j u hj => by
      rw [blk_cell h]
      match j, hj with
      | 0, hj => exact hj
      | 1, hj => exact hj
      | 2, hj => exact hj
      | j + 3, hj => simp [Ce.vals] at hj⟩
  | 1, hx =>
    simp at hx; subst hx
    exact ⟨hc1.vals, rfl, ⟨i1, rfl⟩, fun j u hj => by
      rw [blk_cell h]
      match j, hj with
      | 0, hj => exact hj
      | 1, hj => exact hj
      | 2, hj => exact hj
      | j + 3, hj => simp [Ce.vals] at hj⟩
  | i + 2, hx => simp at hx

set_option maxRecDepth 100000 in
set_option maxHeartbeats 2000000 in
theorem heapsK_ok (w : World) : Calls Try.prog 17 #[] w (Pure w (fun r _ => r = .bool true)) := by
  go_enter Try.func17, Try.ntmps17
  go_wp2_with fail
  have h1 := load_ok ⟨[], []⟩ [hc0, hc1] (fun _ => True) (w.alloc (.cells #[.int .i64 0, .int .i64 0, .string ByteArray.empty, .int .i64 2, .int .i64 7, .string ByteArray.empty] 71)) [.slice none 0 0, .slice none 0 0] (.slice (some ⟨w.heap.size, 0, none⟩) 2 2) ⟨_, _, rfl, SlR.nil .., SlR.nil ..⟩ (heaps_cells (blk_new _ _))
  rw [heaps_load] at h1
  refine Calls.mono h1 ?_
  clear h1
  rintro e w1 ⟨v, rfl, hb1, us, rfl, hr⟩
  obtain ⟨a1, cap1, b1, tap1, rfl, -⟩ := Hp.rep2 hr
  have HB1 := hid (below_pure hb1)
  have HR1 := hid (show Hp.rep (fun _ => True) w1 ⟨[hc0, hc1], []⟩ _ from Hp.rep.mono hr (fun _ _ _ => trivial))
  clear hb1 hr
  go_wp2_with fail
  have h2 := hunify_ok ⟨[hc0, hc1], []⟩ 0 1 (by unfold I64; omega) (by unfold I64; omega) (fun _ => True) (w1.alloc (.cells #[.slice a1 2 cap1, .slice b1 0 tap1] 30)) [.slice a1 2 cap1, .slice b1 0 tap1] (Hp.rep.keeps HR1.out (Keeps.alloc _ _ _))
  rw [heaps_unify] at h2
  refine Calls.mono h2 ?_
  clear h2
  rintro e w2 ⟨v, rfl, hb2, us, rfl, hr⟩
  obtain ⟨a2, cap2, b2, tap2, rfl, -⟩ := Hp.rep2 hr
  have HB2 := hid (HB1.out.trans ((below_pure hb2).mono HB1.out.size))
  have HR2 := hid (show Hp.rep (fun _ => True) w2 ⟨[⟨0, 1, ByteArray.empty⟩, hc1], [0]⟩ _ from Hp.rep.mono hr (fun _ _ _ => trivial))
  clear hb2 hr
  go_wp2_with fail
  have h3 := look_ok ⟨[⟨0, 1, ByteArray.empty⟩, hc1], [0]⟩ 0 (by unfold I64; omega) (fun _ => True) (w2.alloc (.cells #[.slice a2 2 cap2, .slice b2 1 tap2] 30)) [.slice a2 2 cap2, .slice b2 1 tap2] (Hp.rep.keeps HR2.out (Keeps.alloc _ _ _))
  rw [heaps_look] at h3
  refine Calls.mono h3 ?_
  clear h3
  rintro e w3 ⟨v, rfl, hb3, rfl⟩
  have HB3 := hid (HB2.out.trans ((below_pure hb3).mono HB2.out.size))
  clear hb3
  go_wp2_with fail
  go_ret
  exact ⟨_, rfl, HB3.out, rfl⟩

end Go.Proofs.Ytlpmfkpefoegeab
