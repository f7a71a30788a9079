/-
  Maps keyed by integers, as lists of pairs.
-/
import Derived.Test.YtlpmfkpefoegeabDoorQLib
import Derived.Carry
namespace Go.Proofs.YtlpmfkpefoegeabDoor
set_option linter.unusedVariables false
set_option linter.unusedSimpArgs false
open Go.RowKit

/-- block r is a map that holds just these, in the order in which they were put -/
def MapIs (w : World) (r : Nat) (L : List (Int × Value)) : Prop :=
  ∃ es clock, w.heap[r]? = some (.map es clock) ∧ es.toList.map (fun e => (e.key, e.val)) = L.map (fun p => (Value.int .i64 p.1, p.2))

theorem MapIs.lt {w : World} {r : Nat} {L : List (Int × Value)} (h : MapIs w r L) : r < w.heap.size := by
  obtain ⟨es, clock, h, _⟩ := h
  exact blk_lt h
theorem MapIs.keeps {A : Nat → Prop} {w w' : World} {r : Nat} {L : List (Int × Value)} (h : MapIs w r L) (hk : Keeps A w w') (hA : A r) : MapIs w' r L := by
  obtain ⟨es, clock, h1, h2⟩ := h
  exact ⟨es, clock, blk_keeps h1 hk hA, h2⟩
theorem MapIs.made (w : World) : MapIs (w.alloc (.map #[] 0)) w.heap.size [] := ⟨#[], 0, blk_new _ _, rfl⟩

/-- what a map holds at a key -/
def mget (L : List (Int × Value)) (n : Int) : Option Value := (L.find? (fun p => p.1 == n)).map (·.2)

theorem findNow_int (n : Int) : ∀ (es : List MapEntry) (L : List (Int × Value)) (i : Nat), es.map (fun e => (e.key, e.val)) = L.map (fun p => (Value.int .i64 p.1, p.2)) →
    ∃ r, Instr.findNow (.int .i64) (.int .i64 n) es i = some r ∧ r.map (·.2) = mget L n ∧ (∀ k x, r = some (k, x) → i ≤ k ∧ (∃ e, es[k - i]? = some e ∧ e.key = .int .i64 n) ∧ ∀ j, j < k - i → ∀ p, L[j]? = some p → p.1 ≠ n)
  | [], L, i, h => by
    have : L = [] := by simpa using h.symm
    subst this
    exact ⟨none, rfl, rfl, fun k x h => by cases h⟩
  | e :: es, [], i, h => by simp at h
  | e :: es, p :: L, i, h => by
    simp only [List.map_cons, List.cons.injEq, Prod.mk.injEq] at h
    obtain ⟨⟨hk, hv⟩, hr⟩ := h
    by_cases hn : n = p.1
    · subst hn
      refine ⟨some (i, e.val), ?_, ?_, ?_⟩
      · simp [Instr.findNow, Instr.sameNow, hk]
      · simp [mget, hv]
      · intro k x h
        simp only [Option.some.injEq, Prod.mk.injEq] at h
        obtain ⟨rfl, rfl⟩ := h
        exact ⟨Nat.le_refl _, ⟨e, by simp, hk⟩, fun j hj => by omega⟩
    · obtain ⟨r, h1, h2, h3⟩ := findNow_int n es L (i + 1) hr
      refine ⟨r, ?_, ?_, ?_⟩
      · rw [Instr.findNow, hk]
        have hb : (n == p.1) = false := by simpa using hn
        simp [Instr.sameNow, hb, h1]
      · rw [h2]
        have : (p.1 == n) = false := by simp; omega
        simp [mget, this]
      · intro k x h
        obtain ⟨h4, ⟨e', h5, h6⟩, h7⟩ := h3 k x h
        refine ⟨by omega, ⟨e', ?_, h6⟩, fun j hj q hq => ?_⟩
        · rw [show k - i = (k - (i + 1)) + 1 by omega]; simpa using h5
        · cases j with
          | zero => simp at hq; subst hq; omega
          | succ j => exact h7 j (by omega) q (by simpa using hq)

/-- the types of a map keyed by int -/
def IntMapTy (P : Program) (t e : TypeId) (z : Value) : Prop :=
  ∃ k, P.underlying t = some (.map k e) ∧ P.underlying k = some (.int .i64) ∧ ∀ w, (zeroValue e).run P w = .ok z w

section
variable {P : Program} {t e : TypeId} {z : Value} {w : World} {r : Nat} {L : List (Int × Value)} {n : Int}

theorem run_findKey (k : TypeId) (hk : P.underlying k = some (.int .i64)) (es : List MapEntry) (x : Option (Nat × Value)) (h : Instr.findNow (.int .i64) (.int .i64 n) es 0 = some x) :
    (Instr.findKey k (.int .i64 n) es).run P w = .ok x w := by
  simp [Instr.findKey, run_underlying hk, h]

theorem run_checkKey (k : TypeId) (hk : P.underlying k = some (.int .i64)) (b : Bool) : (Instr.checkKey b 10000 k (.int .i64 n)).run P w = .ok () w := by
  rw [show (10000 : Nat) = 9999 + 1 from rfl, Instr.checkKey]
  simp [run_underlying hk]

theorem run_mlookup_ok (hty : IntMapTy P t e z) (h : MapIs w r L) :
    (Instr.lookup t (.map (some r)) (.int .i64 n) true).run P w = .ok (.tuple #[(mget L n).getD z, .bool (mget L n).isSome]) w := by
  obtain ⟨k, ht, hk, hz⟩ := hty
  obtain ⟨es, clock, h1, h2⟩ := h
  obtain ⟨x, h3, h4, -⟩ := findNow_int n es.toList L 0 h2
  have h5 := run_findKey (P := P) (w := w) k hk es.toList x h3
  have h6 := run_checkKey (P := P) (w := w) (n := n) k hk es.isEmpty
  rw [← h4]
  cases x with
  | none => simp [Instr.lookup, run_underlying ht, getObj, Sem.run, h1, h5, h6, hz]
  | some p => simp [Instr.lookup, run_underlying ht, getObj, Sem.run, h1, h5, h6]

theorem run_mlookup (hty : IntMapTy P t e z) (h : MapIs w r L) :
    (Instr.lookup t (.map (some r)) (.int .i64 n) false).run P w = .ok ((mget L n).getD z) w := by
  obtain ⟨k, ht, hk, hz⟩ := hty
  obtain ⟨es, clock, h1, h2⟩ := h
  obtain ⟨x, h3, h4, -⟩ := findNow_int n es.toList L 0 h2
  have h5 := run_findKey (P := P) (w := w) k hk es.toList x h3
  have h6 := run_checkKey (P := P) (w := w) (n := n) k hk es.isEmpty
  rw [← h4]
  cases x with
  | none => simp [Instr.lookup, run_underlying ht, getObj, Sem.run, h1, h5, h6, hz]
  | some p => simp [Instr.lookup, run_underlying ht, getObj, Sem.run, h1, h5, h6]

theorem run_mlen (hty : IntMapTy P t e z) (h : MapIs w r L) (ty : TypeId) :
    (Builtin.len_ #[t] ty #[.map (some r)]).run P w = .ok (.int .i64 L.length) w := by
  obtain ⟨k, ht, hk, hz⟩ := hty
  obtain ⟨es, clock, h1, h2⟩ := h
  have h3 : es.size = L.length := by have := congrArg List.length h2; simpa using this
  simp [Builtin.len_, run_underlying ht, getObj, Sem.run, h1, goInt, h3]

/-- a new key -/
theorem run_mput_new (hty : IntMapTy P t e z) (h : MapIs w r L) (hn : mget L n = none) (v : Value) :
    ∃ w', (Instr.mapUpdate t (.map (some r)) (.int .i64 n) v).run P w = .ok () w' ∧ MapIs w' r (L ++ [(n, v)]) ∧ Ch (fun b => b = r) w w' ∧ w'.heap.size = w.heap.size := by
  obtain ⟨k, ht, hk, hz⟩ := hty
  obtain ⟨es, clock, h1, h2⟩ := h
  obtain ⟨x, h3, h4, -⟩ := findNow_int n es.toList L 0 h2
  rw [hn] at h4
  have hx : x = none := by cases x <;> simp_all
  subst hx
  have h5 := run_findKey (P := P) (w := w) k hk es.toList none h3
  have h6 := run_checkKey (P := P) (w := w) (n := n) k hk false
  have hlt := blk_lt h1
  refine ⟨{ w with heap := w.heap.setIfInBounds r (.map (es.push { key := .int .i64 n, val := v, born := clock }) (clock + 1)) }, ?_, ⟨es.push { key := .int .i64 n, val := v, born := clock }, clock + 1, ?_, ?_⟩, ⟨rfl, rfl, rfl, by simp, fun b hb hne => ?_⟩, by simp⟩
  · simp [Instr.mapUpdate, run_underlying ht, getObj, setObj, Sem.run, h1, h5, h6]
  · simp [hlt]
  · simp [h2]
  · rw [Array.getElem?_setIfInBounds_ne (Ne.symm hne)]
end
end Go.Proofs.YtlpmfkpefoegeabDoor
