/-
  queristref.Tidied: a map keeps which numbers were met.
-/
import Derived.Test.YtlpmfkpefoegeabQRen
import Derived.Test.YtlpmfkpefoegeabQMap
namespace Go.Proofs.Ytlpmfkpefoegeab
set_option linter.unusedVariables false
set_option linter.unusedSimpArgs false
open Go.RowKit

/-- a variable's new number, and which were met -/
def seenF (st : List Int) (n : Int) : Int × List Int := if n ∈ st then ((st.idxOf n : Nat), st) else ((st.length : Nat), st ++ [n])

theorem seenF_sz (st : List Int) (n : Int) : (seenF st n).2.length ≤ st.length + 1 := by
  unfold seenF; split <;> simp

/-- what the map holds -/
def seenL (st : List Int) : List (Int × Value) := st.zipIdx.map fun p => (p.1, .int .i64 (p.2 : Nat))

theorem seenL_snoc (st : List Int) (n : Int) : seenL (st ++ [n]) = seenL st ++ [(n, .int .i64 (st.length : Nat))] := by
  simp [seenL, List.zipIdx_append]

theorem seenL_get (n : Int) : ∀ (st : List Int) (k : Nat), mget (st.zipIdx k |>.map fun p => (p.1, Value.int .i64 (p.2 : Nat))) n = if n ∈ st then some (.int .i64 ((k + st.idxOf n : Nat) : Int)) else none
  | [], k => by simp [mget]
  | x :: st, k => by
    have ih := seenL_get n st (k + 1)
    by_cases h : x = n
    · subst h
      simp [mget]
    · have h' : (x == n) = false := by simpa using h
      have hn : ¬ n = x := fun e => h e.symm
      have h1 : mget (((x :: st).zipIdx k).map fun p => (p.1, Value.int .i64 (p.2 : Nat))) n = mget ((st.zipIdx (k + 1)).map fun p => (p.1, Value.int .i64 (p.2 : Nat))) n := by
        simp [mget, List.zipIdx_cons, h']
      rw [h1, ih]
      simp only [List.mem_cons, hn, false_or, List.idxOf_cons, h', cond_false]
      split
      · congr 3; omega
      · rfl

theorem seenL_at (st : List Int) (n : Int) : mget (seenL st) n = if n ∈ st then some (.int .i64 ((st.idxOf n : Nat) : Int)) else none := by
  have := seenL_get n st 0
  simpa [seenL] using this

theorem seenL_length (st : List Int) : (seenL st).length = st.length := by simp [seenL]

/-- the closure's state -/
def TiInv (p3 : Addr) (st : List Int) (M : Nat → Prop) (w : World) : Prop :=
  ∃ r, (∀ b, M b ↔ (b = p3.block ∨ b = r)) ∧ r ≠ p3.block ∧ w.cell? p3 = some (.map (some r)) ∧ MapIs w r (seenL st)

theorem tiInv_law (p3 : Addr) : StLaw (TiInv p3) := by
  refine ⟨fun st M w h b hb => ?_, fun st M w w' h hk => ?_⟩
  · obtain ⟨r, h1, h2, h3, h4⟩ := h
    rcases (h1 b).1 hb with rfl | rfl
    · exact World.block_lt_of_cell? w _ h3
    · exact h4.lt
  · obtain ⟨r, h1, h2, h3, h4⟩ := h
    refine ⟨r, h1, h2, ?_, h4.keeps hk ((h1 _).2 (.inr rfl))⟩
    rw [← h3]; exact World.cell?_of_block (hk.block _ (World.block_lt_of_cell? w _ h3) ((h1 _).2 (.inl rfl)))

theorem i64_nat {k : Nat} (h : k ≤ 4194304) : I64 (k : Int) := by unfold I64; omega

end Go.Proofs.Ytlpmfkpefoegeab
