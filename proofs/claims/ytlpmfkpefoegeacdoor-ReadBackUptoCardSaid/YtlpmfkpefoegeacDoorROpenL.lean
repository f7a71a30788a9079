/-
  From the laid variables to what the reader asks of memory: strconv's table and its two errors.
-/
import Derived.Test.YtlpmfkpefoegeacDoorQRd1
import Derived.Stop.LaidErr
namespace Go.Proofs.YtlpmfkpefoegeacDoor
set_option linter.unusedVariables false
set_option linter.unusedSimpArgs false
set_option maxRecDepth 100000
open Go.RowKit Go.ChangeShapes Go.WideShapes
theorem var_keeps {n : String} {w w' : World} {cs : Array Value} (h : w.var? Tryd.prog n = some cs) (hk : Keeps (fun b => b < w.heap.size) w w') : w'.var? Tryd.prog n = some cs := by
  unfold World.var? at h ⊢
  cases hg : Program.globalNamed Tryd.prog n with
  | none => simp [hg] at h
  | some g =>
    simp only [hg, Option.bind_some] at h ⊢
    have hlt : g < w.heap.size := by
      rcases Nat.lt_or_ge g w.heap.size with h' | h'
      · exact h'
      · simp [Array.getElem?_eq_none h'] at h
    rw [hk.block g hlt hlt]
    exact h
theorem starErr : "*" ++ "errors.errorString" = "*errors.errorString" := by decide
theorem rowErr (u : TypeId) (h : Program.typeName? Tryd.prog 3 u = some "*errors.errorString") : u = 191 :=
  typeName_ptr_named (nm := "errors.errorString") (by rw [starErr]; kernel_rfl) (by kernel_rfl) (by decide) u (by rw [starErr]; exact h)
theorem cells_err : Program.cellsOf Tryd.prog 193 = 1 := by kernel_rfl
theorem cells_str : Program.cellsOf Tryd.prog 9 = 1 := by kernel_rfl
theorem cells_u64 : Program.cellsOf Tryd.prog 135 = 1 := by kernel_rfl
theorem cells_tab : Program.cellsOf Tryd.prog 155 = 20 := by kernel_rfl
theorem laid_pow {r : List (String × DataW Unit)} {W : World} (h : laidMet Tryd.prog (("internal/strconv.uint64pow10", Lib.tabData .u64 Lib.pow10Tab) :: r) W) : Lib.TabIs Tryd.prog W "internal/strconv.uint64pow10" .u64 Lib.pow10Tab :=
  Lib.tabIs_of_head (g := 1) (by kernel_rfl) (by kernel_rfl) Tryd.underlying155 Tryd.underlying135 cells_u64 cells_tab h
theorem laid_rng {text : List UInt8} {r : List (String × DataW Unit)} {W : World} (h : laidMet Tryd.prog (("strconv.ErrRange", .iface "*errors.errorString" (.ptr (.agg [.lit (.string text)]))) :: r) W) : ∃ tp p, W.var? Tryd.prog "strconv.ErrRange" = some #[.iface tp p] := by
  obtain ⟨a, s, hv, -, -, -⟩ := laid_sentinel (g := 4) h (by kernel_rfl) (by kernel_rfl) Tryd.underlying101 rowErr Tryd.underlying191 Tryd.underlying193 rfl rfl Tryd.underlying9 cells_err cells_str
  exact ⟨_, _, hv⟩
theorem laid_syn {text : List UInt8} {r : List (String × DataW Unit)} {W : World} (h : laidMet Tryd.prog (("strconv.ErrSyntax", .iface "*errors.errorString" (.ptr (.agg [.lit (.string text)]))) :: r) W) : ∃ tp p, W.var? Tryd.prog "strconv.ErrSyntax" = some #[.iface tp p] := by
  obtain ⟨a, s, hv, -, -, -⟩ := laid_sentinel (g := 3) h (by kernel_rfl) (by kernel_rfl) Tryd.underlying101 rowErr Tryd.underlying191 Tryd.underlying193 rfl rfl Tryd.underlying9 cells_err cells_str
  exact ⟨_, _, hv⟩
theorem tabsK_of {W : World} (h1 : Lib.TabIs Tryd.prog W "internal/strconv.uint64pow10" .u64 Lib.pow10Tab) (h2 : ∃ tp p, W.var? Tryd.prog "strconv.ErrSyntax" = some #[.iface tp p]) (h3 : ∃ tp p, W.var? Tryd.prog "strconv.ErrRange" = some #[.iface tp p]) : TabsK W.heap.size W := by
  intro w' hk
  obtain ⟨t2, p2, e2⟩ := h2
  obtain ⟨t3, p3, e3⟩ := h3
  exact ⟨var_keeps h1 hk, ⟨_, _, var_keeps e2 hk⟩, ⟨_, _, var_keeps e3 hk⟩⟩
end Go.Proofs.YtlpmfkpefoegeacDoor
