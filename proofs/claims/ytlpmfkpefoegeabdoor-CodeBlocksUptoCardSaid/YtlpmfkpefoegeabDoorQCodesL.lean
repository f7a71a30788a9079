/-
  Blocks that are alike.
  The small question whether package code answers at all.
  The small question whether package code answers at all, as the laws ask it.
-/
import Derived.Test.YtlpmfkpefoegeabDoorQSameN
import Derived.Test.YtlpmfkpefoegeabDoorQCode
namespace Go.Proofs.YtlpmfkpefoegeabDoor
set_option linter.unusedVariables false
set_option linter.unusedSimpArgs false
open Go.RowKit

set_option maxHeartbeats 2000000 in
theorem sameBlock_same (x : Bk) (A : Nat → Prop) (w : World) (cv gv cv' gv' : Value) (h1 : CesR A w x.cells cv) (h2 : CesR A w x.cells cv') (g1 : NumsR A w x.goals gv) (g2 : NumsR A w x.goals gv') :
    Calls Tryd.prog 36 #[.agg #[cv, .int .i64 x.vars, .int .i64 x.head, gv], .agg #[cv', .int .i64 x.vars, .int .i64 x.head, gv']] w (Pure w (fun r _ => r = .bool true)) := by
  have H1 := hid (fun (W : World) (hb : Below w.heap.size w W) => sameCells_ok x.cells x.cells A W cv cv' (SlR.keeps Ce.rep_lasts h1 (Keeps.of_below hb)) (SlR.keeps Ce.rep_lasts h2 (Keeps.of_below hb)))
  have H2 := hid (fun (W : World) (hb : Below w.heap.size w W) => sameNumbers_ok x.goals x.goals A W gv gv' (SlR.keeps numR_lasts g1 (Keeps.of_below hb)) (SlR.keeps numR_lasts g2 (Keeps.of_below hb)))
  obtain ⟨a1, c1, -, -, rfl, -⟩ := SlR.at h1
  obtain ⟨a2, c2, -, -, rfl, -⟩ := SlR.at h2
  obtain ⟨a3, c3, -, -, rfl, -⟩ := SlR.at g1
  obtain ⟨a4, c4, -, -, rfl, -⟩ := SlR.at g2
  clear h1 h2 g1 g2
  go_enter Tryd.func36, Tryd.ntmps36
  go_wp2_with fail
  obtain ⟨W1, hW1⟩ : ∃ W1, W1 = (w.alloc (.cells #[.slice a1 x.cells.length c1, .int .i64 x.vars, .int .i64 x.head, .slice a3 x.goals.length c3] 50)).alloc (.cells #[.slice a2 x.cells.length c2, .int .i64 x.vars, .int .i64 x.head, .slice a4 x.goals.length c4] 50) := ⟨_, rfl⟩
  have h2 := heap2 w (.cells #[.slice a1 x.cells.length c1, .int .i64 x.vars, .int .i64 x.head, .slice a3 x.goals.length c3] 50) (.cells #[.slice a2 x.cells.length c2, .int .i64 x.vars, .int .i64 x.head, .slice a4 x.goals.length c4] 50)
  rw [← hW1] at h2
  have HB1 := hid (show Below w.heap.size w W1 by rw [hW1]; exact ((Below.refl _ _).alloc (Nat.le_refl _) _).alloc (by simp) _)
  rw [← hW1]
  clear hW1
  obtain ⟨h21, h22⟩ := h2
  have hz1 := HB1.out.size
  refine (H1.out W1 HB1.out).mono ?_
  rintro e w2 ⟨v, rfl, hb2, r, rfl, hr⟩
  obtain rfl : r = true := hr.2 (by simp)
  have HB2 := hid (HB1.out.trans (hb2.mono hz1))
  have k1 := blk_below h21 hb2
  have k2 := blk_below h22 hb2
  obtain ⟨x0, x1, x2, x3, xf⟩ := blk4 k1
  obtain ⟨y0, y1, y2, y3, yf⟩ := blk4 k2
  have l1 := blk_lt k1
  have l2 := blk_lt k2
  clear hb2 hr h21 h22 k1 k2
  go_wp2_with fail
  refine (H2.out w2 HB2.out).mono ?_
  rintro e w3 ⟨v, rfl, hb3, r, rfl, hr⟩
  obtain rfl : r = true := hr.2 (by simp)
  have HB3 := hid (HB2.out.trans (hb3.mono HB2.out.size))
  clear hb3 hr
  go_wp2_with fail
  go_ret
  exact ⟨_, rfl, HB3.out, rfl⟩
end Go.Proofs.YtlpmfkpefoegeabDoor

namespace Go.Proofs.YtlpmfkpefoegeabDoor
set_option linter.unusedVariables false
set_option linter.unusedSimpArgs false
set_option maxRecDepth 100000
open Go.RowKit

/-- V1 -/
def tv : Tm := .mk 0 1 ByteArray.empty []
/-- f(V1) -/
def tf : Tm := .mk 3 0 ⟨#[102]⟩ [tv]

/-- a block just made, of one term, read as a slice -/
theorem tms_one {A : Nat → Prop} {w : World} {t : Tm} {us : List Value} (hA : A w.heap.size) (ht : Tm.rep A w t us) (hl : us.length = 4) :
    TmsR A (w.alloc (.cells us.toArray 31)) [t] (.slice (some ⟨w.heap.size, 0, none⟩) 1 1) :=
  ⟨w.heap.size, 0, ⟨by simp, .inr ⟨by simp, hA, 1, rfl, by simp, by simp [maxLen]⟩⟩, elems_one Tm.rep_lasts _ hl ht⟩

theorem tf_good : GoodQ [tf] 2 := by
  refine ⟨by omega, by omega, by decide, fun g hg => ?_⟩
  simp only [List.mem_singleton] at hg
  subst hg
  refine ⟨.inr rfl, .comp _ _ ?_ (by decide +kernel) (by decide) (by decide) (fun t ht => ?_), by decide⟩
  · refine .inr ⟨by decide, by decide, fun i h => ?_⟩
    have : i = 0 := by have : (⟨#[102]⟩ : ByteArray).size = 1 := rfl; omega
    subst this
    show (97 : Int) ≤ ((102 : UInt8).toNat : Int) ∧ ((102 : UInt8).toNat : Int) ≤ 122
    decide
  · simp only [List.mem_singleton] at ht
    subst ht
    exact .var 1 (by omega) (by omega)

theorem tf_query : queryF [tf] 2 = (⟨[⟨0, 0, ByteArray.empty⟩, ⟨0, 1, ByteArray.empty⟩, ⟨3, 1, ⟨#[102]⟩⟩, ⟨0, 1, ByteArray.empty⟩], 2, -1, [2]⟩, 0) := by
  rw [queryF, if_pos tf_good]
  simp [queryB, goalsF, goalF, frameF, putLF, putF, begF, tf, tv, Tm.kind, List.range_succ]

end Go.Proofs.YtlpmfkpefoegeabDoor

namespace Go.Proofs.YtlpmfkpefoegeabDoor
set_option linter.unusedVariables false
set_option linter.unusedSimpArgs false
set_option maxRecDepth 100000
open Go.RowKit

set_option maxHeartbeats 4000000 in
theorem codesL_ok (w : World) : Calls Tryd.prog 37 #[] w (Pure w (fun r _ => r = .bool true)) := by
  have i0 : I64 0 := by unfold I64; omega
  have i1 : I64 1 := by unfold I64; omega
  have i3 : I64 3 := by unfold I64; omega
  have hcs := cell_set
  have HQ := hid (fun (W : World) (u : Value) (h : TmsR (fun b => b < W.heap.size) W [tf] u) => query_ok [tf] 2 (by unfold I64; omega) (by decide) W u h)
  rw [tf_query] at HQ
  go_enter Tryd.func37, Tryd.ntmps37
  go_wp2_with fail
  have hr1 : Tm.rep (fun b => b < w.heap.size + 1) w tv [.int .i64 0, .int .i64 1, .string ByteArray.empty, .slice none 0 0] := by
    rw [tv, Tm.rep_iff]
    exact ⟨i0, i1, by decide, _, rfl, SlR.nil ..⟩
  have h1 := tms_one (A := fun b => b < w.heap.size + 1) (w := w) (by omega) hr1 rfl
  have hr2 : Tm.rep (fun b => b < w.heap.size + 2) (w.alloc (.cells #[.int .i64 0, .int .i64 1, .string ByteArray.empty, .slice none 0 0] 31)) tf [.int .i64 3, .int .i64 0, .string ⟨#[102]⟩, .slice (some ⟨w.heap.size, 0, none⟩) 1 1] := by
    rw [tf, Tm.rep_iff]
    exact ⟨i3, i0, by decide, _, rfl, SlR.mono Tm.rep_lasts (by omega) h1 (fun b _ hb => by omega)⟩
  have h2 := tms_one (A := fun b => b < w.heap.size + 2) (w := w.alloc (.cells #[.int .i64 0, .int .i64 1, .string ByteArray.empty, .slice none 0 0] 31)) (by simp) hr2 rfl
  rw [World.size_alloc] at h2
  have HTS := hid h2
  have HB0 := hid (((Below.refl _ w).alloc (Nat.le_refl _) (.cells #[.int .i64 0, .int .i64 1, .string ByteArray.empty, .slice none 0 0] 31)).alloc (by simp) (.cells #[.int .i64 3, .int .i64 0, .string ⟨#[102]⟩, .slice (some ⟨w.heap.size, 0, none⟩) 1 1] 31))
  clear hr1 h1 hr2 h2
  refine (HQ.out _ _ (SlR.mono Tm.rep_lasts (by omega) HTS.out (fun b _ hb => by simp; omega))).mono ?_
  rintro e w1 ⟨r, rfl, hb1, cv, gv, rfl, hc, hg⟩
  have HB1 := hid (HB0.out.trans (hb1.mono HB0.out.size))
  clear hb1 HTS HB0 HQ
  obtain ⟨ca, cc, cb, co, rfl, -, -, -, hca, hce⟩ := SlR.at hc
  obtain ⟨ga, gc, gb, go, rfl, -, -, -, hga, hge⟩ := SlR.at hg
  obtain ⟨rfl, hAc⟩ := hca (by simp)
  obtain ⟨rfl, hAg⟩ := hga (by simp)
  have d2 : w1.cell? ⟨cb, co + 6, none⟩ = some (.int .i64 3) := (ce_cells hce hAc (Keeps.refl _ _) (k := 2) (by simp)).1
  have d3 : w1.cell? ⟨cb, co + 9 + 1, none⟩ = some (.int .i64 1) := (ce_cells hce hAc (Keeps.refl _ _) (k := 3) (by simp)).2.1
  have d4 : w1.cell? ⟨gb, go, none⟩ = some (.int .i64 2) := (num_cell hge hAg (Keeps.refl _ _) (k := 0) (by simp)).1
  have l1 := World.block_lt_of_cell? w1 _ d2
  have l2 := World.block_lt_of_cell? w1 _ d4
  simp only at l1 l2
  clear hc hg hca hga hce hge hAc hAg
  simp only [List.length_cons, List.length_nil]
  go_wp2_with fail
  go_ret
  exact ⟨_, rfl, HB1.out.alloc HB1.out.size _, rfl⟩
end Go.Proofs.YtlpmfkpefoegeabDoor
