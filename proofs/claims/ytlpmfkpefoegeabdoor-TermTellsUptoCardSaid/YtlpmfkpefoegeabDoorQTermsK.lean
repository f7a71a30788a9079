/-
  The small question whether package term answers at all.
-/
import Derived.Test.YtlpmfkpefoegeabDoorQGood
import Derived.Test.YtlpmfkpefoegeabDoorQNodes
import Derived.Test.YtlpmfkpefoegeabDoorQTidy
namespace Go.Proofs.YtlpmfkpefoegeabDoor
set_option linter.unusedVariables false
set_option linter.unusedSimpArgs false
open Go.RowKit

/-- f(V3, 7) -/
def tt (n : Int) : Tm := .mk 3 0 ⟨#[102]⟩ [.mk 0 n ByteArray.empty [], .mk 2 7 ByteArray.empty []]

theorem tt_rep {w : World} {g : Nat} {E : TypeId} {fr : Nat × Nat} {n : Int} (hn : I64 n) {A : Nat → Prop} (hA : A g)
    (h : w.heap[g]? = some (.cells #[.int .i64 0, .int .i64 n, .string ByteArray.empty, .slice none 0 0, .int .i64 2, .int .i64 7, .string ByteArray.empty, .slice none 0 0] E fr)) :
    Tm.rep A w (tt n) [.int .i64 3, .int .i64 0, .string ⟨#[102]⟩, .slice (some ⟨g, 0, none⟩) 2 2] := by
  have i3 : I64 3 := by unfold I64; omega
  have i0 : I64 0 := by unfold I64; omega
  have i2 : I64 2 := by unfold I64; omega
  have i7 : I64 7 := by unfold I64; omega
  have e0 : ByteArray.empty.size ≤ 1048576 := by decide
  rw [tt, Tm.rep_iff]
  refine ⟨i3, i0, by decide, _, rfl, g, 0, ⟨by simp, .inr ⟨by simp, hA, 2, rfl, by simp, by simp [maxLen]⟩⟩, fun i x hx => ?_⟩
  match i, hx with
  | 0, hx =>
    simp at hx; subst hx
    exact ⟨[.int .i64 0, .int .i64 n, .string ByteArray.empty, .slice none 0 0], rfl, Tm.rep_iff.2 ⟨i0, hn, e0, _, rfl, SlR.nil ..⟩, fun j u hj => by
      rw [blk_cell h]
      match j, hj with
      | 0, hj => exact hj
      | 1, hj => exact hj
      | 2, hj => exact hj
      | 3, hj => exact hj
      | j + 4, hj => simp at hj⟩
  | 1, hx =>
    simp at hx; subst hx
    exact ⟨[.int .i64 2, .int .i64 7, .string ByteArray.empty, .slice none 0 0], rfl, Tm.rep_iff.2 ⟨i2, i7, e0, _, rfl, SlR.nil ..⟩, fun j u hj => by
      rw [blk_cell h]
      match j, hj with
      | 0, hj => exact hj
      | 1, hj => exact hj
      | 2, hj => exact hj
      | 3, hj => exact hj
      | j + 4, hj => simp at hj⟩
  | i + 2, hx => simp at hx

theorem tt_name : IsName ⟨#[102]⟩ := by
  refine .inr ⟨by decide, by decide, fun i h => ?_⟩
  have : i = 0 := by have : (⟨#[102]⟩ : ByteArray).size = 1 := rfl; omega
  subst this
  show (97 : Int) ≤ ((102 : UInt8).toNat : Int) ∧ ((102 : UInt8).toNat : Int) ≤ 122
  decide

theorem tt_good (n v : Int) : (tt n).Good v ↔ (0 ≤ n ∧ n < v) := by
  constructor
  · intro h
    cases h with
    | comp _ _ _ _ _ _ h4 =>
      have := h4 _ (List.mem_cons_self ..)
      cases this with
      | var _ h0 h1 => exact ⟨h0, h1⟩
  · rintro ⟨h0, h1⟩
    refine .comp _ _ tt_name (by decide +kernel) (by simp) (by simp) fun t ht => ?_
    simp only [List.mem_cons, List.not_mem_nil, or_false] at ht
    rcases ht with rfl | rfl
    · exact .var n h0 h1
    · exact .int 7 (by omega) (by omega)

theorem tt_tidy : (Tm.renSL seenF [] [tt 3]).1 = [tt 0] := by
  simp [Tm.renSL, tt, Tm.renS, Tm.num, seenF]

theorem tt_nodes (n : Int) : (tt n).nodes = 3 := by simp [tt, Tm.nodes, Tm.nodesL]

end Go.Proofs.YtlpmfkpefoegeabDoor
