/-
  From a reading of an argument to what lies in memory: clauses.
-/
import Derived.Test.YtlpmfkpefoegeabDoorROpenH
import Derived.Test.YtlpmfkpefoegeabDoorQClause2
namespace Go.Proofs.YtlpmfkpefoegeabDoor
set_option linter.unusedVariables false
set_option linter.unusedSimpArgs false
set_option maxRecDepth 100000
open Go.RowKit Go.WideShapes Go.ChangeShapes

section
variable {H : Type} {enc : TypeId × Value → H} {W : World} {base : Nat} {sp : Nat → Bool} {held : Bool}

instance : Inhabited Cl := ⟨⟨default, [], 0⟩⟩
theorem cells_clause : Program.cellsOf Tryd.prog 39 = 6 := by kernel_rfl

theorem Tm.rep_vals {A : Nat → Prop} {t : Tm} {cs : List Value} (h : Tm.rep A W t cs) : ∃ a ac, cs = [.int .i64 t.kind, .int .i64 t.n, .string t.s, .slice a t.args.length ac] := by
  obtain ⟨a, ac, rfl, -⟩ := Tm.rep4 h
  exact ⟨a, ac, rfl⟩

/-- a clause that reads -/
theorem open_cl {n : Nat} {cs : List Value} {y : DataW H × List MemPlace} (h : DataW.trod enc Tryd.prog W base sp held n 39 cs = some y) (hb : Rows.uptoBulk y.1 ≤ 1048576) :
    ∃ c : Cl, Cl.rep (fun _ => True) W c cs ∧ c.nodes + 1 ≤ Rows.uptoBulk y.1 := by
  obtain ⟨y0, y1, y2, n', rfl, hl, h0, h1, h2⟩ := Deep.trod_struct3 Tryd.underlying39 h
  simp only [cells_clause, cells_term, cells_ts, cells_i] at hl h0 h1 h2
  match cs, hl with
  | [c0, c1, c2, c3, c4, c5], _ =>
    simp only [List.drop_zero, List.drop_succ_cons, List.take_succ_cons, List.take_zero] at h0 h1 h2
    simp only [Rows.uptoBulk, Rows.uptoBulkAll] at hb ⊢
    obtain ⟨t, ht, hn0⟩ := open_tm h0 (by omega)
    obtain ⟨a, ac, e0⟩ := Tm.rep_vals ht
    obtain ⟨l, v, e1, hv, hn1, _⟩ := open_sl Tryd.underlying29 cells_term (by omega) (R := Tm.rep) (A := fun _ => True) (fun _ => trivial) Tm.nodes (B := Rows.uptoBulk y1.1) (by omega)
        (fun n cs' y hy hlt => open_tm hy (by omega)) (Nat.le_refl _) h1
    obtain ⟨m, e2, rfl, m64⟩ := DataW.trod_int Tryd.underlying3 h2
    obtain ⟨b, bc, -, -, rfl, -⟩ := SlR.at hv
    simp only [List.cons.injEq, and_true] at e0 e1 e2
    obtain ⟨rfl, rfl, rfl, rfl⟩ := e0
    subst e1 e2
    refine ⟨⟨t, l, m⟩, ⟨a, ac, b, bc, rfl, ht, hv, I64.of_wf m64⟩, ?_⟩
    simp only [Cl.nodes, Tm.nodesL_sum] at hn1 ⊢
    simp only [Rows.uptoBulk] at hn1 ⊢
    omega

/-- an argument that is a clause -/
theorem open_clause {r : Go.Reach} {b0 : Nat} {v : Value} {d : DataW H} {ps : List MemPlace} (hval : Value.okWide Tryd.prog W r b0 39 v) (h : DataW.Trod enc Tryd.prog W base sp held 39 v d ps)
    (hb : Rows.uptoBulk d ≤ 1048576) : ∃ (c : Cl) (us : List Value), v = .agg us.toArray ∧ Cl.rep (fun _ => True) W c us ∧ c.nodes + 1 ≤ Rows.uptoBulk d := by
  unfold Value.okWide at hval
  rw [Tryd.underlying39] at hval
  obtain ⟨cs, rfl, -, -⟩ := hval
  obtain ⟨fuel, hf⟩ := h
  obtain ⟨c, h1, h2⟩ := open_cl hf hb
  exact ⟨c, cs.toList, by simp, by simpa [Value.cells] using h1, h2⟩

/-- an argument that is a slice of clauses -/
theorem open_clauses {r : Go.Reach} {b0 : Nat} {v : Value} {d : DataW H} {ps : List MemPlace} (hval : Value.okWide Tryd.prog W r b0 32 v) (h : DataW.Trod enc Tryd.prog W base sp held 32 v d ps)
    (hb : Rows.uptoBulk d ≤ 1048576) : ∃ l : List Cl, ClsR (fun _ => True) W l v ∧ (l.map Cl.nodes).sum + 1 ≤ Rows.uptoBulk d := by
  obtain ⟨a, len, cap, rfl⟩ := okWide_slice Tryd.underlying32 hval
  obtain ⟨fuel, hf⟩ := h
  obtain ⟨l, v, e3, hv, hn, _⟩ := open_sl Tryd.underlying32 cells_clause (by omega) (R := Cl.rep) (A := fun _ => True) (fun _ => trivial) Cl.nodes (B := Rows.uptoBulk d) hb
    (fun n cs' y hy hlt => by obtain ⟨c, h1, h2⟩ := open_cl hy (by omega); exact ⟨c, h1, by omega⟩) (Nat.le_refl _) hf
  simp only [Value.cells, List.cons.injEq, and_true] at e3
  subst e3
  exact ⟨l, hv, hn⟩
end
end Go.Proofs.YtlpmfkpefoegeabDoor
