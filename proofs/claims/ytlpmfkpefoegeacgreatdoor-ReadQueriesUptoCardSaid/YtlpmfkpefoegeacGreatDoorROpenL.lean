/-
  From the laid variables to what the reader asks of memory: strconv's table and its two errors.
-/
import Derived.Test.YtlpmfkpefoegeacGreatDoorQRd1
import Derived.Stop.LaidErr
namespace Go.Proofs.YtlpmfkpefoegeacGreatDoor
set_option linter.unusedVariables false
set_option linter.unusedSimpArgs false
set_option maxRecDepth 100000
open Go.RowKit Go.ChangeShapes Go.WideShapes
theorem var_keeps {n : String} {w w' : World} {cs : Array Value} (h : w.var? Tryz.prog n = some cs) (hk : Keeps (fun b => b < w.heap.size) w w') : w'.var? Tryz.prog n = some cs := by
  unfold World.var? at h ⊢
  cases hg : Program.globalNamed Tryz.prog n with
  | none => simp [hg] at h
  | some g =>
    simp only [hg, Option.bind_some] at h ⊢
    have hlt : g < w.heap.size := by
      rcases Nat.lt_or_ge g w.heap.size with h' | h'
      · exact h'
      · simp [Array.getElem?_eq_none h'] at h
    rw [hk.block g hlt hlt]
    exact h
theorem starErr : "*" ++ "errors.errorString" = "*errors.errorString" := by decide
theorem rowErr (u : TypeId) (h : Program.typeName? Tryz.prog 3 u = some "*errors.errorString") : u = 246 :=
  typeName_ptr_named (nm := "errors.errorString") (by rw [starErr]; kernel_rfl) (by kernel_rfl) (by decide) u (by rw [starErr]; exact h)
theorem cells_err : Program.cellsOf Tryz.prog 248 = 1 := by kernel_rfl
theorem cells_str : Program.cellsOf Tryz.prog 9 = 1 := by kernel_rfl
theorem cells_u64 : Program.cellsOf Tryz.prog 200 = 1 := by kernel_rfl
theorem cells_tab : Program.cellsOf Tryz.prog 214 = 20 := by kernel_rfl
theorem laid_pow {r : List (String × DataW Unit)} {W : World} (h : laidMet Tryz.prog (("internal/strconv.uint64pow10", Lib.tabData .u64 Lib.pow10Tab) :: r) W) : Lib.TabIs Tryz.prog W "internal/strconv.uint64pow10" .u64 Lib.pow10Tab :=
  Lib.tabIs_of_head (g := 2) (by kernel_rfl) (by kernel_rfl) Tryz.underlying214 Tryz.underlying200 cells_u64 cells_tab h
theorem laid_rng {text : List UInt8} {r : List (String × DataW Unit)} {W : World} (h : laidMet Tryz.prog (("strconv.ErrRange", .iface "*errors.errorString" (.ptr (.agg [.lit (.string text)]))) :: r) W) : ∃ tp p, W.var? Tryz.prog "strconv.ErrRange" = some #[.iface tp p] := by
  obtain ⟨a, s, hv, -, -, -⟩ := laid_sentinel (g := 4) h (by kernel_rfl) (by kernel_rfl) Tryz.underlying150 rowErr Tryz.underlying246 Tryz.underlying248 rfl rfl Tryz.underlying9 cells_err cells_str
  exact ⟨_, _, hv⟩
theorem laid_syn {text : List UInt8} {r : List (String × DataW Unit)} {W : World} (h : laidMet Tryz.prog (("strconv.ErrSyntax", .iface "*errors.errorString" (.ptr (.agg [.lit (.string text)]))) :: r) W) : ∃ tp p, W.var? Tryz.prog "strconv.ErrSyntax" = some #[.iface tp p] := by
  obtain ⟨a, s, hv, -, -, -⟩ := laid_sentinel (g := 3) h (by kernel_rfl) (by kernel_rfl) Tryz.underlying150 rowErr Tryz.underlying246 Tryz.underlying248 rfl rfl Tryz.underlying9 cells_err cells_str
  exact ⟨_, _, hv⟩
theorem tabsK_of {W : World} (h1 : Lib.TabIs Tryz.prog W "internal/strconv.uint64pow10" .u64 Lib.pow10Tab) (h2 : ∃ tp p, W.var? Tryz.prog "strconv.ErrSyntax" = some #[.iface tp p]) (h3 : ∃ tp p, W.var? Tryz.prog "strconv.ErrRange" = some #[.iface tp p]) : TabsK W.heap.size W := by
  intro w' hk
  obtain ⟨t2, p2, e2⟩ := h2
  obtain ⟨t3, p3, e3⟩ := h3
  exact ⟨var_keeps h1 hk, ⟨_, _, var_keeps e2 hk⟩, ⟨_, _, var_keeps e3 hk⟩⟩
end Go.Proofs.YtlpmfkpefoegeacGreatDoor
