/-
  The small question whether package code answers at all.
-/
import Derived.Test.YtlpmfkpefoegeabQCode
namespace Go.Proofs.Ytlpmfkpefoegeab
set_option linter.unusedVariables false
set_option linter.unusedSimpArgs false
set_option maxRecDepth 100000
open Go.RowKit

/-- V1 -/
def tv : Tm := .mk 0 1 ByteArray.empty []
/-- f(V1) -/
def tf : Tm := .mk 3 0 ⟨#[102]⟩ [tv]

/-- a block just made, of one term, read as a slice -/
theorem tms_one {A : Nat → Prop} {w : World} {t : Tm} {us : List Value} (hA : A w.heap.size) (ht : Tm.rep A w t us) (hl : us.length = 4) :
    TmsR A (w.alloc (.cells us.toArray 24)) [t] (.slice (some ⟨w.heap.size, 0, none⟩) 1 1) :=
  ⟨w.heap.size, 0, ⟨by simp, .inr ⟨by simp, hA, 1, rfl, by simp, by simp [maxLen]⟩⟩, elems_one Tm.rep_lasts _ hl ht⟩

theorem tf_good : GoodQ [tf] 2 := by
  refine ⟨by omega, by omega, by decide, fun g hg => ?_⟩
  simp only [List.mem_singleton] at hg
  subst hg
  refine ⟨.inr rfl, .comp _ _ ?_ (by decide +kernel) (by decide) (by decide) (fun t ht => ?_), by decide⟩
  · refine .inr ⟨by decide, by decide, fun i h => ?_⟩
    have : i = 0 := by have : (⟨#[102]⟩ : ByteArray).size = 1 := rfl; omega
    subst this
    show (97 : Int) ≤ ((102 : UInt8).toNat : Int) ∧ ((102 : UInt8).toNat : Int) ≤ 122
    decide
  · simp only [List.mem_singleton] at ht
    subst ht
    exact .var 1 (by omega) (by omega)

theorem tf_query : queryF [tf] 2 = (⟨[⟨0, 0, ByteArray.empty⟩, ⟨0, 1, ByteArray.empty⟩, ⟨3, 1, ⟨#[102]⟩⟩, ⟨0, 1, ByteArray.empty⟩], 2, -1, [2]⟩, 0) := by
  rw [queryF, if_pos tf_good]
  simp [queryB, goalsF, goalF, frameF, putLF, putF, begF, tf, tv, Tm.kind, List.range_succ]

set_option maxHeartbeats 4000000 in
theorem codesK_ok (w : World) : Calls Try.prog 10 #[] w (Pure w (fun r _ => r = .bool true)) := by
  have i0 : I64 0 := by unfold I64; omega
  have i1 : I64 1 := by unfold I64; omega
  have i3 : I64 3 := by unfold I64; omega
  have hcs := cell_set
  have HQ := hid (fun (W : World) (u : Value) (h : TmsR (fun b => b < W.heap.size) W [tf] u) => query_ok [tf] 2 (by unfold I64; omega) (by decide) W u h)
  rw [tf_query] at HQ
  go_enter Try.func10, Try.ntmps10
  go_wp2_with fail
  have hr1 : Tm.rep (fun b => b < w.heap.size + 1) w tv [.int .i64 0, .int .i64 1, .string ByteArray.empty, .slice none 0 0] := by
    rw [tv, Tm.rep_iff]
    exact ⟨i0, i1, by decide, _, rfl, SlR.nil ..⟩
  have h1 := tms_one (A := fun b => b < w.heap.size + 1) (w := w) (by omega) hr1 rfl
  have hr2 : Tm.rep (fun b => b < w.heap.size + 2) (w.alloc (.cells #[.int .i64 0, .int .i64 1, .string ByteArray.empty, .slice none 0 0] 24)) tf [.int .i64 3, .int .i64 0, .string ⟨#[102]⟩, .slice (some ⟨w.heap.size, 0, none⟩) 1 1] := by
    rw [tf, Tm.rep_iff]
    exact ⟨i3, i0, by decide, _, rfl, SlR.mono Tm.rep_lasts (by omega) h1 (fun b _ hb => by omega)⟩
  have h2 := tms_one (A := fun b => b < w.heap.size + 2) (w := w.alloc (.cells #[.int .i64 0, .int .i64 1, .string ByteArray.empty, .slice none 0 0] 24)) (by simp) hr2 rfl
  rw [World.size_alloc] at h2
  have HTS := hid h2
  have HB0 := hid (((Below.refl _ w).alloc (Nat.le_refl _) (.cells #[.int .i64 0, .int .i64 1, .string ByteArray.empty, .slice none 0 0] 24)).alloc (by simp) (.cells #[.int .i64 3, .int .i64 0, .string ⟨#[102]⟩, .slice (some ⟨w.heap.size, 0, none⟩) 1 1] 24))
  clear hr1 h1 hr2 h2
  refine (HQ.out _ _ (SlR.mono Tm.rep_lasts (by omega) HTS.out (fun b _ hb => by simp; omega))).mono ?_
  rintro e w1 ⟨r, rfl, hb1, cv, gv, rfl, hc, hg⟩
  have HB1 := hid (HB0.out.trans (hb1.mono HB0.out.size))
  clear hb1 HTS HB0 HQ
  obtain ⟨ca, cc, cb, co, rfl, -, -, -, hca, hce⟩ := SlR.at hc
  obtain ⟨ga, gc, gb, go, rfl, -, -, -, hga, hge⟩ := SlR.at hg
  obtain ⟨rfl, hAc⟩ := hca (by simp)
  obtain ⟨rfl, hAg⟩ := hga (by simp)
  have d2 : w1.cell? ⟨cb, co + 6, none⟩ = some (.int .i64 3) := (ce_cells hce hAc (Keeps.refl _ _) (k := 2) (by simp)).1
  have d3 : w1.cell? ⟨cb, co + 9 + 1, none⟩ = some (.int .i64 1) := (ce_cells hce hAc (Keeps.refl _ _) (k := 3) (by simp)).2.1
  have d4 : w1.cell? ⟨gb, go, none⟩ = some (.int .i64 2) := (num_cell hge hAg (Keeps.refl _ _) (k := 0) (by simp)).1
  have l1 := World.block_lt_of_cell? w1 _ d2
  have l2 := World.block_lt_of_cell? w1 _ d4
  simp only at l1 l2
  clear hc hg hca hga hce hge hAc hAg
  simp only [List.length_cons, List.length_nil]
  go_wp2_with fail
  go_ret
  exact ⟨_, rfl, HB1.out.alloc HB1.out.size _, rfl⟩
end Go.Proofs.Ytlpmfkpefoegeab
