/-
  A block that is being made: its beginning.
-/
import Derived.Test.YtlpmfkpefoegeabQMakerG
namespace Go.Proofs.Ytlpmfkpefoegeab
set_option linter.unusedVariables false
set_option linter.unusedSimpArgs false
set_option maxRecDepth 100000
open Go.RowKit

/-- a cell for each variable -/
def begF (n : Nat) : List Ce := (List.range n).map fun (i : Nat) => (⟨0, (i : Int), ByteArray.empty⟩ : Ce)
theorem begF_len (n : Nat) : (begF n).length = n := by simp [begF]
theorem begF_succ (n : Nat) : begF (n + 1) = begF n ++ [⟨0, (n : Int), ByteArray.empty⟩] := by simp [begF, List.range_succ]

set_option maxHeartbeats 2000000 in
theorem begun_ok (n : Nat) (hn : n ≤ 65536) (w : World) :
    Calls Try.prog 28 #[.int .i64 (n : Int)] w (fun e w' => ∃ cv, e = .returned (.pointer (some ⟨w.heap.size, 0, none⟩)) ∧ Below w.heap.size w w' ∧ MkI w.heap.size (w.heap.size + 1) (begF n) cv w') := by
  have hcs := cell_set
  go_enter Try.func28, Try.ntmps28
  go_wp2_with fail
  have HX := hid (blk_new w (.cells #[.slice none 0 0] 68))
  have HB := hid ((Below.refl _ w).alloc (Nat.le_refl _) (.cells #[.slice none 0 0] 68))
  obtain ⟨g, hg⟩ : ∃ g, g = w.heap.size := ⟨_, rfl⟩
  have HG := hid hg
  have hz0 : g < (w.alloc (.cells #[.slice none 0 0] 68)).heap.size := by rw [hg]; simp
  rw [← hg] at HX
  rw [← hg]
  clear hg
  go_loopw [8] (fun i W => ∃ (j : Nat) (cv : Value), j ≤ n ∧ i = .int .i64 (j : Int) ∧ Below w.heap.size w W ∧ MkI g (g + 1) (begF j) cv W) (fun i _ => n - (intOf i).toNat)
  case atStart => exact ⟨0, _, Nat.zero_le _, rfl, HB.out, HX.out, OwnF.nil, by omega, by simp [begF], by omega⟩
  case round =>
    obtain ⟨j, cv, hj, rfl, hb, hm⟩ := hrel
    have HBL := hid hb
    have HM := hid hm
    obtain ⟨ca, cc, rfl, hl1, hmc⟩ := OwnF.val hm.own
    rw [begF_len] at hl1 hm HM
    obtain ⟨y0, yf⟩ := blk1 hm.box
    have hgs := blk_lt hm.box
    have hbw := hm.base_le
    have HOWB := hid (fun b (hb : ownB (.slice ca j cc) = some b) => hm.own.lt b hb)
    have HOR := hid (OwnF.ownR Ce.vals_len hm.own (fun _ => True))
    have HBX := hid (blk_alloc hm.box (.cells #[.int .i64 0, .int .i64 (j : Int), .string ByteArray.empty] 71))
    clear hb hm
    by_cases hlt : j < n
    · have hlt' : (j : Int) < (n : Int) := by omega
      have hl2 : (begF j).length < 4194304 := by rw [begF_len]; omega
      go_wp2_with (at_builtin; go_must (refine wpList_app1 rfl (.tmp 15) (.tmp 18) 27 rfl (g + 1) 71 3 32 tyCells Ce.rep_lasts (A := fun _ => True) (.slice ca j cc) (begF j) rfl HOR.out (⟨0, (j : Int), ByteArray.empty⟩ : Ce) [.int .i64 0, .int .i64 (j : Int), .string ByteArray.empty] rfl rfl ⟨⟨by unfold I64; simp only; omega, by unfold I64; simp only; omega, (show ByteArray.empty.size ≤ 1048576 by decide)⟩, rfl⟩ ⟨hl2, hbw⟩ ?_); go_must (intro v2 w2 hown hgrew; have HO2 := hid (OwnF.of_ownR hown); obtain ⟨va2, vc2, hv2, hvl2, hvm2⟩ := OwnF.val HO2.out; rw [List.length_append, List.length_singleton, begF_len] at hv2; subst hv2; have HB2 := hid (show w2.heap[g]? = _ from (hgrew.grown.block g (by simp; omega) (fun e => by have := (HOWB.out _ e.symm).1; omega)).trans HBX.out); obtain ⟨z0, zf⟩ := blk1 HB2.out; have hgs2 := blk_lt HB2.out; have HG2 := hid hgrew; have hz2 := hgrew.size; clear hown hgrew y0 yf))
      go_roundw
      case rel =>
        obtain ⟨cv', h1, h2, h3⟩ := mgrew_of HM.out (by rw [begF_len]; omega) (Ch.refl _ _) (Nat.le_refl _) HO2.out HB2.out HG2.out
        refine ⟨j + 1, cv', by omega, by go_num, ?_, by rw [begF_succ]; exact h1⟩
        refine ((Ch.of_below (M := fun _ => False) HBL.out).trans h2 (fun b hb => .inr ?_)).below (fun _ _ h => h)
        have hgw := HG.out
        rcases hb with rfl | hb
        · omega
        · have := (HOWB.out b hb).1; omega
      case measure => first | (simp [intOf]; done) | (simp [intOf]; omega)
    · have hje : j = n := by omega
      subst hje
      have hlt' : ¬ ((j : Int) < (j : Int)) := by omega
      clear hlt
      go_wp2_with fail
      go_ret
      have hm := HM.out
      rw [HG.out] at hm
      exact ⟨by rw [← HG.out]; rfl, HBL.out, _, hm⟩
end Go.Proofs.Ytlpmfkpefoegeab
