/-
  queristkeep.reads: does read answer at all?
-/
import Derived.Test.YtlpmfkpefoegeacDoorQRd10
import Derived.Test.YtlpmfkpefoegeacDoorQPrint
import Derived.Test.YtlpmfkpefoegeacDoorPCalc
namespace Go.Proofs.YtlpmfkpefoegeacDoor
set_option linter.unusedVariables false
set_option linter.unusedSimpArgs false
open Go.RowKit
def readsP : Str := [112, 40, 88, 41, 32, 58, 45, 32, 113, 40, 88, 41, 44, 32, 33, 46, 32, 113, 40, 45, 51, 41, 46]
def readsCl : List Cl := [⟨aOne 112 (aVar 0), [aOne 113 (aVar 0), .mk 1 0 ⟨#[33]⟩ []], 1⟩, ⟨aOne 113 (aInt (-3)), [], 0⟩]
set_option maxRecDepth 100000 in
theorem reads_read : readR readsP = (readsCl, 0) := readR_calc (by decide) (by kernel_rfl) (by decide)
theorem reads_print : printF (aOne 113 (aInt (-3))) = [113, 40, 45, 51, 41] := by
  have h3 : Lib.itoa (-3) = [45, 51] := by decide +kernel
  simp [aOne, aInt, printF, printA, h3]
set_option maxRecDepth 100000 in
set_option maxHeartbeats 8000000 in
theorem reads_ok (B : Nat) (w : World) (hB : B ≤ w.heap.size) (ht : TabsK B w) : Calls Tryd.prog 9 #[] w (Pure w (fun r _ => r = .bool true)) := by
  have HT := hid (fun (W : World) (hb : Below w.heap.size w W) => ht.below hb)
  have HA := hid (rprog_ok readsP (by decide) B w hB ht)
  rw [reads_read] at HA
  clear ht
  go_enter Tryd.func9, Tryd.ntmps9
  go_wp2_with fail
  refine HA.out.mono ?_
  rintro e w1 ⟨lv, rfl, hb1, hr1⟩
  obtain ⟨a, cap, b, off, rfl, hlc, hcm, hlb, ha, he⟩ := SlR.at hr1
  obtain ⟨rfl, hAb⟩ := ha (by simp [readsCl])
  obtain ⟨sa0, sc0, ba0, bc0, c0, c1, c2, c3, c4, c5, -⟩ := cl_cells he hAb (Keeps.refl _ _) (j := 0) (by simp [readsCl])
  obtain ⟨sa1, sc1, ba1, bc1, d0, d1, d2, d3, d4, d5, hr⟩ := cl_cells he hAb (Keeps.refl _ _) (j := 1) (by simp [readsCl])
  obtain ⟨x0, x1, x2, x3, ex, hhd, -, -⟩ := hr
  have HP := hid (print_ok (aOne 113 (aInt (-3))) B _ w1 _ (Nat.le_trans hB hb1.size) (HT.out w1 hb1) (by decide) hhd)
  rw [reads_print] at HP
  have HB1 := hid hb1
  have l0 : b < w1.heap.size := World.block_lt_of_cell? w1 _ c0
  have tb : ((bs [113, 40, 45, 51, 41]).toList == [113, 40, 45, 51, 41]) = true := by rw [bs_toList]; rfl
  unfold maxLen at hcm
  simp only [readsCl, List.getElem_cons_zero, List.getElem_cons_succ, Nat.zero_mul, Nat.add_zero, Nat.one_mul, List.length_cons, List.length_nil] at HP ex c0 c1 c2 c3 c4 c5 d0 d1 d2 d3 d4 d5 hlc hlb
  simp only [List.cons.injEq, Value.slice.injEq, true_and, and_true] at ex
  obtain ⟨⟨rfl, rfl⟩, -⟩ := ex
  clear hb1 hr1 ha he hAb HA
  rw [show readsCl.length = 2 from rfl]
  go_wp2_with fail
  refine HP.out.mono ?_
  rintro e w2 ⟨v, rfl, hb2, rfl⟩
  have HB2 := hid (HB1.out.trans (hb2.mono HB1.out.size))
  clear hb2 HP
  go_wp2_with fail
  go_ret
  exact ⟨_, rfl, HB2.out, rfl⟩
end Go.Proofs.YtlpmfkpefoegeacDoor
