/-
  From a reading of an argument to what lies in memory: heaps, slices of cells and of numbers.
  Names, and numbers brought into a range.
-/
import Derived.Test.YtlpmfkpefoegeabDoorROpen
import Derived.Test.YtlpmfkpefoegeabDoorQHeap
import Derived.Deep.Strs
import Derived.Test.YtlpmfkpefoegeabDoorQTerm
import Derived.Test.YtlpmfkpefoegeabDoorProg
namespace Go.Proofs.YtlpmfkpefoegeabDoor
set_option linter.unusedVariables false
set_option linter.unusedSimpArgs false
set_option maxRecDepth 100000
open Go.RowKit Go.WideShapes Go.ChangeShapes

section
variable {H : Type} {enc : TypeId × Value → H} {W : World} {base : Nat} {sp : Nat → Bool} {held : Bool}

theorem cells_cell : Program.cellsOf Tryd.prog 80 = 3 := by kernel_rfl
theorem cells_cs : Program.cellsOf Tryd.prog 47 = 1 := by kernel_rfl
theorem cells_ns : Program.cellsOf Tryd.prog 48 = 1 := by kernel_rfl
theorem cells_heap : Program.cellsOf Tryd.prog 109 = 2 := by kernel_rfl

/-- a cell that reads -/
theorem open_ce {n : Nat} {cs : List Value} {y : DataW H × List MemPlace} (h : DataW.trod enc Tryd.prog W base sp held n 80 cs = some y) (hb : Rows.uptoBulk y.1 ≤ 1048576) :
    ∃ c : Ce, Ce.rep (fun _ => True) W c cs ∧ 0 ≤ Rows.uptoBulk y.1 := by
  obtain ⟨y0, y1, y2, n', rfl, hl, h0, h1, h2⟩ := Deep.trod_struct3 Tryd.underlying80 h
  simp only [cells_cell, cells_i, cells_s] at hl h0 h1 h2
  match cs, hl with
  | [c0, c1, c2], _ =>
    simp only [List.drop_zero, List.drop_succ_cons, List.take_succ_cons, List.take_zero] at h0 h1 h2
    obtain ⟨k, e0, rfl, k64⟩ := DataW.trod_int Tryd.underlying3 h0
    obtain ⟨m, e1, rfl, m64⟩ := DataW.trod_int Tryd.underlying3 h1
    obtain ⟨s, e2, rfl, hs⟩ := DataW.trod_string Tryd.underlying9 h2
    simp only [Rows.uptoBulk, Rows.uptoBulkAll] at hb ⊢
    have hs' : s.size = s.data.toList.length := by rfl
    simp only [List.cons.injEq, and_true] at e0 e1 e2
    subst e0 e1 e2
    exact ⟨⟨k, m, s⟩, ⟨⟨I64.of_wf k64, I64.of_wf m64, by simp only; omega⟩, rfl⟩, by omega⟩

/-- a slice of cells that reads -/
theorem open_cs {n : Nat} {cs : List Value} {y : DataW H × List MemPlace} (h : DataW.trod enc Tryd.prog W base sp held n 47 cs = some y) (hb : Rows.uptoBulk y.1 ≤ 1048576) :
    ∃ (l : List Ce) (v : Value), cs = [v] ∧ CesR (fun _ => True) W l v ∧ l.length + 1 ≤ Rows.uptoBulk y.1 := by
  obtain ⟨l, v, e3, hv, -, hn⟩ := open_sl Tryd.underlying47 cells_cell (by omega) (R := Ce.rep) (A := fun _ => True) (fun _ => trivial) (fun _ => 0) (B := Rows.uptoBulk y.1) hb
    (fun n cs' y hy hlt => open_ce hy (by omega)) (Nat.le_refl _) h
  exact ⟨l, v, e3, hv, hn⟩

/-- a slice of numbers that reads -/
theorem open_ns {n : Nat} {cs : List Value} {y : DataW H × List MemPlace} (h : DataW.trod enc Tryd.prog W base sp held n 48 cs = some y) (hb : Rows.uptoBulk y.1 ≤ 1048576) :
    ∃ (l : List Int) (v : Value), cs = [v] ∧ NumsR (fun _ => True) W l v ∧ l.length + 1 ≤ Rows.uptoBulk y.1 := by
  obtain ⟨l, v, e3, hv, -, hn⟩ := open_sl Tryd.underlying48 cells_i (by omega) (R := numR) (A := fun _ => True) (fun _ => trivial) (fun _ => 0) (B := Rows.uptoBulk y.1) hb
    (fun n cs' y hy hlt => by
      obtain ⟨k, e0, h1, k64⟩ := DataW.trod_int Tryd.underlying3 hy
      exact ⟨k, ⟨I64.of_wf k64, e0⟩, Nat.zero_le _⟩) (Nat.le_refl _) h
  exact ⟨l, v, e3, hv, hn⟩

/-- an argument that is a slice of cells -/
theorem open_cells {r : Reach} {b0 : Nat} {v : Value} {d : DataW H} {ps : List MemPlace} (hval : Value.okWide Tryd.prog W r b0 47 v) (h : DataW.Trod enc Tryd.prog W base sp held 47 v d ps)
    (hb : Rows.uptoBulk d ≤ 1048576) : ∃ l : List Ce, CesR (fun _ => True) W l v ∧ l.length + 1 ≤ Rows.uptoBulk d := by
  obtain ⟨a, len, cap, rfl⟩ := okWide_slice Tryd.underlying47 hval
  obtain ⟨fuel, hf⟩ := h
  obtain ⟨l, v, e3, hv, hn⟩ := open_cs hf hb
  simp only [Value.cells, List.cons.injEq, and_true] at e3
  subst e3
  exact ⟨l, hv, hn⟩

/-- an argument that is a slice of numbers -/
theorem open_nums {r : Reach} {b0 : Nat} {v : Value} {d : DataW H} {ps : List MemPlace} (hval : Value.okWide Tryd.prog W r b0 48 v) (h : DataW.Trod enc Tryd.prog W base sp held 48 v d ps)
    (hb : Rows.uptoBulk d ≤ 1048576) : ∃ l : List Int, NumsR (fun _ => True) W l v ∧ l.length + 1 ≤ Rows.uptoBulk d := by
  obtain ⟨a, len, cap, rfl⟩ := okWide_slice Tryd.underlying48 hval
  obtain ⟨fuel, hf⟩ := h
  obtain ⟨l, v, e3, hv, hn⟩ := open_ns hf hb
  simp only [Value.cells, List.cons.injEq, and_true] at e3
  subst e3
  exact ⟨l, hv, hn⟩

/-- an argument that is a heap -/
theorem open_heap {r : Reach} {b0 : Nat} {v : Value} {d : DataW H} {ps : List MemPlace} (hval : Value.okWide Tryd.prog W r b0 109 v) (h : DataW.Trod enc Tryd.prog W base sp held 109 v d ps)
    (hb : Rows.uptoBulk d ≤ 1048576) : ∃ (t : Hp) (us : List Value), v = .agg us.toArray ∧ Hp.rep (fun _ => True) W t us ∧ t.cells.length + t.trail.length + 1 ≤ Rows.uptoBulk d := by
  unfold Value.okWide at hval
  rw [Tryd.underlying109] at hval
  obtain ⟨cs, rfl, -, -⟩ := hval
  obtain ⟨fuel, hf⟩ := h
  obtain ⟨y0, y1, n', e, hl, h0, h1⟩ := trod_struct2 Tryd.underlying109 hf
  simp only [Prod.mk.injEq] at e
  obtain ⟨rfl, rfl⟩ := e
  simp only [cells_heap, cells_cs, cells_ns] at hl h0 h1
  simp only [Rows.uptoBulk, Rows.uptoBulkAll] at hb ⊢
  have e : (Value.agg cs).cells.toList = cs.toList := by simp [Value.cells]
  obtain ⟨c0, c1, rfl⟩ : ∃ c0 c1, cs = #[c0, c1] := by
    obtain ⟨l⟩ := cs
    match l, hl with
    | [c0, c1], _ => exact ⟨c0, c1, rfl⟩
  simp only [Value.cells, List.drop_zero, List.drop_succ_cons, List.take_succ_cons, List.take_zero] at h0 h1
  obtain ⟨l, u, e0, hu, hn0⟩ := open_cs h0 (by omega)
  obtain ⟨t, u', e1, hu', hn1⟩ := open_ns h1 (by omega)
  simp only [List.cons.injEq, and_true] at e0 e1
  subst e0 e1
  exact ⟨⟨l, t⟩, [_, _], rfl, ⟨_, _, rfl, hu, hu'⟩, by simp only; omega⟩
end
end Go.Proofs.YtlpmfkpefoegeabDoor

namespace Go.Proofs.YtlpmfkpefoegeabDoor
set_option linter.unusedVariables false
set_option linter.unusedSimpArgs false
open Go.RowKit

/-- a call tells whether something holds, and does nothing else -/
def Tells (w : World) (p : Prop) (e : Ending) (w' : World) : Prop := ∃ r, e = .returned (.bool r) ∧ (r = true ↔ p) ∧ w = w'

/-- a name -/
def IsName (s : ByteArray) : Prop := s = ⟨#[33]⟩ ∨ (1 ≤ s.size ∧ s.size ≤ 8 ∧ ∀ i (h : i < s.size), 97 ≤ (s[i].toNat : Int) ∧ (s[i].toNat : Int) ≤ 122)

theorem toList_inj' {s s' : ByteArray} (h : s.toList = s'.toList) : s = s' := by
  rw [ByteArray.toList_eq, ByteArray.toList_eq] at h
  cases s; cases s'
  congr 1
  exact Array.toList_inj.1 h

set_option maxHeartbeats 400000 in
theorem named_ok (s : ByteArray) (w : World) (hs : s.size ≤ 1048576) :
    Calls Tryd.prog 13 #[.string s] w (Tells w (IsName s)) := by
  have hc : (⟨#[33]⟩ : ByteArray).toList = [33] := by decide +kernel
  by_cases h1 : s.toList = (⟨#[33]⟩ : ByteArray).toList
  · have h1b : (s.toList == [33]) = true := by rw [h1, hc]; rfl
    have hn : IsName s := .inl (toList_inj' h1)
    have HN := hid hn
    clear hn h1 hc
    go_enter Tryd.func13, Tryd.ntmps13
    go_wp2_with fail
    go_ret
    exact ⟨true, rfl, by simp [HN.out], rfl⟩
  · have h1' : ¬ s = ⟨#[33]⟩ := fun e => h1 (by rw [e])
    have h1b : (s.toList == [33]) = false := by rw [hc] at h1; simpa using h1
    have HN := hid h1'
    clear h1' h1 hc
    go_enter Tryd.func13, Tryd.ntmps13
    go_wp2_with fail
    go_loop [8] (fun i => ∃ k : Nat, k ≤ s.size ∧ i = .int .i64 k ∧ ∀ j (h : j < s.size), j < k → 97 ≤ (s[j].toNat : Int) ∧ (s[j].toNat : Int) ≤ 122) (fun i => s.size - (intOf i).toNat)
    case atStart => exact ⟨0, Nat.zero_le _, rfl, fun j _ h => by omega⟩
    case round =>
      obtain ⟨k, hk, rfl, hp⟩ := hrel
      have HP := hid hp
      clear hp
      by_cases hlt : k < s.size
      · by_cases g1 : (s[k].toNat : Int) < 97
        · go_wp2_with fail
          go_ret
          refine ⟨false, rfl, ?_, rfl⟩
          simp only [Bool.false_eq_true, false_iff]
          rintro (h | ⟨_, _, h⟩)
          · exact HN.out h
          · have := h k hlt; omega
        · by_cases g2 : 122 < (s[k].toNat : Int)
          · go_wp2_with fail
            go_ret
            refine ⟨false, rfl, ?_, rfl⟩
            simp only [Bool.false_eq_true, false_iff]
            rintro (h | ⟨_, _, h⟩)
            · exact HN.out h
            · have := h k hlt; omega
          · go_wp2_with fail
            go_round
            case rel =>
              refine ⟨k + 1, by omega, by go_num, fun j h hj => ?_⟩
              by_cases hjk : j = k
              · subst hjk; omega
              · exact HP.out j h (by omega)
            case measure => simp [intOf]; omega
      · have : k = s.size := by omega
        subst this
        by_cases g1 : 1 ≤ s.size
        · go_wp2_with fail
          go_ret
          refine ⟨decide ((s.size : Int) ≤ 8), by simp, ?_, rfl⟩
          rw [decide_eq_true_iff]
          constructor
          · exact fun h => .inr ⟨g1, by omega, fun i hi => HP.out i hi hi⟩
          · rintro (h | ⟨_, h, _⟩)
            · exact absurd h HN.out
            · omega
        · have g1' : decide ((1 : Int) ≤ (s.size : Int)) = false := by simp; omega
          go_wp2_with fail
          go_ret
          refine ⟨false, by simp, ?_, rfl⟩
          simp only [Bool.false_eq_true, false_iff]
          rintro (h | ⟨h, _, _⟩)
          · exact HN.out h
          · omega

theorem pick_math (k n : Int) (hn : 0 < n) : (k.tmod n < 0 → k.tmod n + n = k % n) ∧ (¬ k.tmod n < 0 → k.tmod n = k % n) := by
  have h1 := Int.emod_nonneg k (Int.ne_of_gt hn)
  have h2 := Int.emod_lt_of_pos k hn
  rcases Int.le_total 0 k with h | h
  · rw [Int.tmod_eq_emod_of_nonneg h]; omega
  · obtain ⟨m, rfl⟩ : ∃ m, k = -m := ⟨-k, by omega⟩
    rw [Int.neg_tmod, Int.tmod_eq_emod_of_nonneg (by omega)]
    have h3 := Int.emod_nonneg m (Int.ne_of_gt hn)
    have h4 := Int.emod_lt_of_pos m hn
    have h5 : (-m) % n = (-(m % n)) % n := by
      conv => lhs; rw [← Int.emod_add_mul_ediv m n, Int.neg_add, ← Int.mul_neg, Int.add_mul_emod_self_left]
    by_cases h6 : m % n = 0
    · rw [h5, h6]; simp
    · have h7 : (-(m % n)) % n = n - m % n := by
        rw [show -(m % n) = (n - m % n) + n * (-1) by rw [Int.mul_neg, Int.mul_one]; omega, Int.add_mul_emod_self_left]
        exact Int.emod_eq_of_lt (by omega) (by omega)
      rw [h5, h7]; omega

end Go.Proofs.YtlpmfkpefoegeabDoor
