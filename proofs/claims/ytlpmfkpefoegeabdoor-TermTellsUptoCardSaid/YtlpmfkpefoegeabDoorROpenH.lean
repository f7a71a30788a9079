/-
  From a reading of an argument to what lies in memory: heaps, slices of cells and of numbers.
-/
import Derived.Test.YtlpmfkpefoegeabDoorROpen
import Derived.Test.YtlpmfkpefoegeabDoorQHeap
import Derived.Deep.Strs
namespace Go.Proofs.YtlpmfkpefoegeabDoor
set_option linter.unusedVariables false
set_option linter.unusedSimpArgs false
set_option maxRecDepth 100000
open Go.RowKit Go.WideShapes Go.ChangeShapes

section
variable {H : Type} {enc : TypeId × Value → H} {W : World} {base : Nat} {sp : Nat → Bool} {held : Bool}

theorem cells_cell : Program.cellsOf Tryd.prog 80 = 3 := by kernel_rfl
theorem cells_cs : Program.cellsOf Tryd.prog 47 = 1 := by kernel_rfl
theorem cells_ns : Program.cellsOf Tryd.prog 48 = 1 := by kernel_rfl
theorem cells_heap : Program.cellsOf Tryd.prog 109 = 2 := by kernel_rfl

/-- a cell that reads -/
theorem open_ce {n : Nat} {cs : List Value} {y : DataW H × List MemPlace} (h : DataW.trod enc Tryd.prog W base sp held n 80 cs = some y) (hb : Rows.uptoBulk y.1 ≤ 1048576) :
    ∃ c : Ce, Ce.rep (fun _ => True) W c cs ∧ 0 ≤ Rows.uptoBulk y.1 := by
  obtain ⟨y0, y1, y2, n', rfl, hl, h0, h1, h2⟩ := Deep.trod_struct3 Tryd.underlying80 h
  simp only [cells_cell, cells_i, cells_s] at hl h0 h1 h2
  match cs, hl with
  | [c0, c1, c2], _ =>
    simp only [List.drop_zero, List.drop_succ_cons, List.take_succ_cons, List.take_zero] at h0 h1 h2
    obtain ⟨k, e0, rfl, k64⟩ := DataW.trod_int Tryd.underlying3 h0
    obtain ⟨m, e1, rfl, m64⟩ := DataW.trod_int Tryd.underlying3 h1
    obtain ⟨s, e2, rfl, hs⟩ := DataW.trod_string Tryd.underlying9 h2
    simp only [Rows.uptoBulk, Rows.uptoBulkAll] at hb ⊢
    have hs' : s.size = s.data.toList.length := by rfl
    simp only [List.cons.injEq, and_true] at e0 e1 e2
    subst e0 e1 e2
    exact ⟨⟨k, m, s⟩, ⟨⟨I64.of_wf k64, I64.of_wf m64, by simp only; omega⟩, rfl⟩, by omega⟩

/-- a slice of cells that reads -/
theorem open_cs {n : Nat} {cs : List Value} {y : DataW H × List MemPlace} (h : DataW.trod enc Tryd.prog W base sp held n 47 cs = some y) (hb : Rows.uptoBulk y.1 ≤ 1048576) :
    ∃ (l : List Ce) (v : Value), cs = [v] ∧ CesR (fun _ => True) W l v ∧ l.length + 1 ≤ Rows.uptoBulk y.1 := by
  obtain ⟨l, v, e3, hv, -, hn⟩ := open_sl Tryd.underlying47 cells_cell (by omega) (R := Ce.rep) (A := fun _ => True) (fun _ => trivial) (fun _ => 0) (B := Rows.uptoBulk y.1) hb
    (fun n cs' y hy hlt => open_ce hy (by omega)) (Nat.le_refl _) h
  exact ⟨l, v, e3, hv, hn⟩

/-- a slice of numbers that reads -/
theorem open_ns {n : Nat} {cs : List Value} {y : DataW H × List MemPlace} (h : DataW.trod enc Tryd.prog W base sp held n 48 cs = some y) (hb : Rows.uptoBulk y.1 ≤ 1048576) :
    ∃ (l : List Int) (v : Value), cs = [v] ∧ NumsR (fun _ => True) W l v ∧ l.length + 1 ≤ Rows.uptoBulk y.1 := by
  obtain ⟨l, v, e3, hv, -, hn⟩ := open_sl Tryd.underlying48 cells_i (by omega) (R := numR) (A := fun _ => True) (fun _ => trivial) (fun _ => 0) (B := Rows.uptoBulk y.1) hb
    (fun n cs' y hy hlt => by
      obtain ⟨k, e0, h1, k64⟩ := DataW.trod_int Tryd.underlying3 hy
      exact ⟨k, ⟨I64.of_wf k64, e0⟩, Nat.zero_le _⟩) (Nat.le_refl _) h
  exact ⟨l, v, e3, hv, hn⟩

/-- an argument that is a slice of cells -/
theorem open_cells {r : Reach} {b0 : Nat} {v : Value} {d : DataW H} {ps : List MemPlace} (hval : Value.okWide Tryd.prog W r b0 47 v) (h : DataW.Trod enc Tryd.prog W base sp held 47 v d ps)
    (hb : Rows.uptoBulk d ≤ 1048576) : ∃ l : List Ce, CesR (fun _ => True) W l v ∧ l.length + 1 ≤ Rows.uptoBulk d := by
  obtain ⟨a, len, cap, rfl⟩ := okWide_slice Tryd.underlying47 hval
  obtain ⟨fuel, hf⟩ := h
  obtain ⟨l, v, e3, hv, hn⟩ := open_cs hf hb
  simp only [Value.cells, List.cons.injEq, and_true] at e3
  subst e3
  exact ⟨l, hv, hn⟩

/-- an argument that is a slice of numbers -/
theorem open_nums {r : Reach} {b0 : Nat} {v : Value} {d : DataW H} {ps : List MemPlace} (hval : Value.okWide Tryd.prog W r b0 48 v) (h : DataW.Trod enc Tryd.prog W base sp held 48 v d ps)
    (hb : Rows.uptoBulk d ≤ 1048576) : ∃ l : List Int, NumsR (fun _ => True) W l v ∧ l.length + 1 ≤ Rows.uptoBulk d := by
  obtain ⟨a, len, cap, rfl⟩ := okWide_slice Tryd.underlying48 hval
  obtain ⟨fuel, hf⟩ := h
  obtain ⟨l, v, e3, hv, hn⟩ := open_ns hf hb
  simp only [Value.cells, List.cons.injEq, and_true] at e3
  subst e3
  exact ⟨l, hv, hn⟩

/-- an argument that is a heap -/
theorem open_heap {r : Reach} {b0 : Nat} {v : Value} {d : DataW H} {ps : List MemPlace} (hval : Value.okWide Tryd.prog W r b0 109 v) (h : DataW.Trod enc Tryd.prog W base sp held 109 v d ps)
    (hb : Rows.uptoBulk d ≤ 1048576) : ∃ (t : Hp) (us : List Value), v = .agg us.toArray ∧ Hp.rep (fun _ => True) W t us ∧ t.cells.length + t.trail.length + 1 ≤ Rows.uptoBulk d := by
  unfold Value.okWide at hval
  rw [Tryd.underlying109] at hval
  obtain ⟨cs, rfl, -, -⟩ := hval
  obtain ⟨fuel, hf⟩ := h
  obtain ⟨y0, y1, n', e, hl, h0, h1⟩ := trod_struct2 Tryd.underlying109 hf
  simp only [Prod.mk.injEq] at e
  obtain ⟨rfl, rfl⟩ := e
  simp only [cells_heap, cells_cs, cells_ns] at hl h0 h1
  simp only [Rows.uptoBulk, Rows.uptoBulkAll] at hb ⊢
  have e : (Value.agg cs).cells.toList = cs.toList := by simp [Value.cells]
  obtain ⟨c0, c1, rfl⟩ : ∃ c0 c1, cs = #[c0, c1] := by
    obtain ⟨l⟩ := cs
    match l, hl with
    | [c0, c1], _ => exact ⟨c0, c1, rfl⟩
  simp only [Value.cells, List.drop_zero, List.drop_succ_cons, List.take_succ_cons, List.take_zero] at h0 h1
  obtain ⟨l, u, e0, hu, hn0⟩ := open_cs h0 (by omega)
  obtain ⟨t, u', e1, hu', hn1⟩ := open_ns h1 (by omega)
  simp only [List.cons.injEq, and_true] at e0 e1
  subst e0 e1
  exact ⟨⟨l, t⟩, [_, _], rfl, ⟨_, _, rfl, hu, hu'⟩, by simp only; omega⟩
end
end Go.Proofs.YtlpmfkpefoegeabDoor
