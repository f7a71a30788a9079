/-
  From a reading of an argument to what lies in memory: clauses.
  A block behind a heap: in plain data.
-/
import Derived.Test.YtlpmfkpefoegeabDoorQNamed
import Derived.Test.YtlpmfkpefoegeabDoorQClause2
import Derived.Test.YtlpmfkpefoegeabDoorHGc
namespace Go.Proofs.YtlpmfkpefoegeabDoor
set_option linter.unusedVariables false
set_option linter.unusedSimpArgs false
set_option maxRecDepth 100000
open Go.RowKit Go.WideShapes Go.ChangeShapes

section
variable {H : Type} {enc : TypeId × Value → H} {W : World} {base : Nat} {sp : Nat → Bool} {held : Bool}

instance : Inhabited Cl := ⟨⟨default, [], 0⟩⟩
theorem cells_clause : Program.cellsOf Tryd.prog 39 = 6 := by kernel_rfl

theorem Tm.rep_vals {A : Nat → Prop} {t : Tm} {cs : List Value} (h : Tm.rep A W t cs) : ∃ a ac, cs = [.int .i64 t.kind, .int .i64 t.n, .string t.s, .slice a t.args.length ac] := by
  obtain ⟨a, ac, rfl, -⟩ := Tm.rep4 h
  exact ⟨a, ac, rfl⟩

/-- a clause that reads -/
theorem open_cl {n : Nat} {cs : List Value} {y : DataW H × List MemPlace} (h : DataW.trod enc Tryd.prog W base sp held n 39 cs = some y) (hb : Rows.uptoBulk y.1 ≤ 1048576) :
    ∃ c : Cl, Cl.rep (fun _ => True) W c cs ∧ c.nodes + 1 ≤ Rows.uptoBulk y.1 := by
  obtain ⟨y0, y1, y2, n', rfl, hl, h0, h1, h2⟩ := Deep.trod_struct3 Tryd.underlying39 h
  simp only [cells_clause, cells_term, cells_ts, cells_i] at hl h0 h1 h2
  match cs, hl with
  | [c0, c1, c2, c3, c4, c5], _ =>
    simp only [List.drop_zero, List.drop_succ_cons, List.take_succ_cons, List.take_zero] at h0 h1 h2
    simp only [Rows.uptoBulk, Rows.uptoBulkAll] at hb ⊢
    obtain ⟨t, ht, hn0⟩ := open_tm h0 (by omega)
    obtain ⟨a, ac, e0⟩ := Tm.rep_vals ht
    obtain ⟨l, v, e1, hv, hn1, _⟩ := open_sl Tryd.underlying29 cells_term (by omega) (R := Tm.rep) (A := fun _ => True) (fun _ => trivial) Tm.nodes (B := Rows.uptoBulk y1.1) (by omega)
        (fun n cs' y hy hlt => open_tm hy (by omega)) (Nat.le_refl _) h1
    obtain ⟨m, e2, rfl, m64⟩ := DataW.trod_int Tryd.underlying3 h2
    obtain ⟨b, bc, -, -, rfl, -⟩ := SlR.at hv
    simp only [List.cons.injEq, and_true] at e0 e1 e2
    obtain ⟨rfl, rfl, rfl, rfl⟩ := e0
    subst e1 e2
    refine ⟨⟨t, l, m⟩, ⟨a, ac, b, bc, rfl, ht, hv, I64.of_wf m64⟩, ?_⟩
    simp only [Cl.nodes, Tm.nodesL_sum] at hn1 ⊢
    simp only [Rows.uptoBulk] at hn1 ⊢
    omega

/-- an argument that is a clause -/
theorem open_clause {r : Go.Reach} {b0 : Nat} {v : Value} {d : DataW H} {ps : List MemPlace} (hval : Value.okWide Tryd.prog W r b0 39 v) (h : DataW.Trod enc Tryd.prog W base sp held 39 v d ps)
    (hb : Rows.uptoBulk d ≤ 1048576) : ∃ (c : Cl) (us : List Value), v = .agg us.toArray ∧ Cl.rep (fun _ => True) W c us ∧ c.nodes + 1 ≤ Rows.uptoBulk d := by
  unfold Value.okWide at hval
  rw [Tryd.underlying39] at hval
  obtain ⟨cs, rfl, -, -⟩ := hval
  obtain ⟨fuel, hf⟩ := h
  obtain ⟨c, h1, h2⟩ := open_cl hf hb
  exact ⟨c, cs.toList, by simp, by simpa [Value.cells] using h1, h2⟩

/-- an argument that is a slice of clauses -/
theorem open_clauses {r : Go.Reach} {b0 : Nat} {v : Value} {d : DataW H} {ps : List MemPlace} (hval : Value.okWide Tryd.prog W r b0 32 v) (h : DataW.Trod enc Tryd.prog W base sp held 32 v d ps)
    (hb : Rows.uptoBulk d ≤ 1048576) : ∃ l : List Cl, ClsR (fun _ => True) W l v ∧ (l.map Cl.nodes).sum + 1 ≤ Rows.uptoBulk d := by
  obtain ⟨a, len, cap, rfl⟩ := okWide_slice Tryd.underlying32 hval
  obtain ⟨fuel, hf⟩ := h
  obtain ⟨l, v, e3, hv, hn, _⟩ := open_sl Tryd.underlying32 cells_clause (by omega) (R := Cl.rep) (A := fun _ => True) (fun _ => trivial) Cl.nodes (B := Rows.uptoBulk d) hb
    (fun n cs' y hy hlt => by obtain ⟨c, h1, h2⟩ := open_cl hy (by omega); exact ⟨c, h1, by omega⟩) (Nat.le_refl _) hf
  simp only [Value.cells, List.cons.injEq, and_true] at e3
  subst e3
  exact ⟨l, hv, hn⟩
end
end Go.Proofs.YtlpmfkpefoegeabDoor

namespace Go.Proofs.YtlpmfkpefoegeabDoor
set_option linter.unusedVariables false
set_option linter.unusedSimpArgs false

/-- a block's cell, where the block begins at b -/
def shC (b : Nat) (c : Ce) : Ce := if c.kind = 0 then { c with n := c.n + b } else c

/-- cells, of which those from b to j are moved -/
def shTo (b : Nat) (l : List Ce) (j : Nat) : List Ce := l.mapIdx fun i c => if b ≤ i ∧ i < j then shC b c else c

theorem shTo_len (b : Nat) (l : List Ce) (j : Nat) : (shTo b l j).length = l.length := by simp [shTo]
theorem shTo_get (b : Nat) (l : List Ce) (j i : Nat) (h : i < (shTo b l j).length) : (shTo b l j)[i] = if b ≤ i ∧ i < j then shC b (l[i]'(by rw [shTo_len] at h; exact h)) else l[i]'(by rw [shTo_len] at h; exact h) := by
  simp [shTo]
theorem shTo_start (b : Nat) (l : List Ce) : shTo b l b = l := by
  apply List.ext_getElem (by simp [shTo])
  intro i h1 h2
  rw [shTo_get, if_neg (by omega)]
theorem shTo_step (b : Nat) (l : List Ce) (j : Nat) (hb : b ≤ j) (hj : j < l.length) : shTo b l (j + 1) = (shTo b l j).set j (shC b l[j]) := by
  apply List.ext_getElem (by simp [shTo])
  intro i h1 h2
  rw [shTo_get, List.getElem_set]
  by_cases e : j = i
  · subst e; rw [if_pos ⟨hb, by omega⟩, if_pos rfl]
  · rw [if_neg e, shTo_get]
    by_cases e2 : b ≤ i ∧ i < j
    · rw [if_pos e2, if_pos ⟨e2.1, by omega⟩]
    · rw [if_neg e2, if_neg (by omega)]
theorem shTo_same (b : Nat) (l : List Ce) (j : Nat) (hb : b ≤ j) (hj : j < l.length) (hk : (l[j]).kind ≠ 0) : shTo b l (j + 1) = shTo b l j := by
  rw [shTo_step b l j hb hj]
  apply List.ext_getElem (by simp)
  intro i h1 h2
  rw [List.getElem_set]
  split
  · rename_i e
    subst e
    rw [shTo_get, if_neg (by omega), shC, if_neg hk]
  · rfl
theorem shTo_end (l bl : List Ce) : shTo l.length (l ++ bl) (l ++ bl).length = l ++ bl.map (shC l.length) := by
  apply List.ext_getElem (by simp [shTo])
  intro i h1 h2
  rw [shTo_get]
  by_cases e : l.length ≤ i
  · rw [if_pos ⟨e, by simpa [shTo] using h1⟩, List.getElem_append_right e, List.getElem_append_right e, List.getElem_map]
  · rw [if_neg (by omega), List.getElem_append_left (by omega), List.getElem_append_left (by omega)]

open Classical in
/-- what Load answers -/
noncomputable def loadF (h : Hp) (bl : List Ce) : Hp × Int × Int :=
  if ¬ (h.Good ∧ Hp.Good ⟨bl, []⟩) then (h, 0, 1)
  else if 65536 < h.cells.length + bl.length then (h, 0, 3)
  else (⟨h.cells ++ bl.map (shC h.cells.length), h.trail⟩, h.cells.length, 0)
end Go.Proofs.YtlpmfkpefoegeabDoor
