/-
  Plain laws of tidying: what is tidy is tidy; it does not matter which numbers there were.
-/
import Derived.Test.YtlpmfkpefoegeacDoorQTidied
import Derived.Test.YtlpmfkpefoegeacDoorQGood
namespace Go.Proofs.YtlpmfkpefoegeacDoor
set_option linter.unusedVariables false
set_option linter.unusedSimpArgs false
def tidy (l : List Tm) : List Tm := (Tm.renSL seenF [] l).1
def upTo (k : Nat) : List Int := (List.range k).map fun (i : Nat) => (i : Int)
theorem upTo_length (k : Nat) : (upTo k).length = k := by simp [upTo]
theorem upTo_succ (k : Nat) : upTo (k + 1) = upTo k ++ [(k : Int)] := by simp [upTo, List.range_succ]
theorem mem_upTo {k : Nat} {i : Int} : i ∈ upTo k ↔ 0 ≤ i ∧ i < k := by
  simp only [upTo, List.mem_map, List.mem_range]
  constructor
  · rintro ⟨j, hj, rfl⟩; omega
  · rintro ⟨h0, h1⟩; exact ⟨i.toNat, by omega, by omega⟩
theorem idxOf_upTo {k i : Nat} (h : i < k) : (upTo k).idxOf (i : Int) = i := by
  have hl : i < (upTo k).length := by rw [upTo_length]; exact h
  have hnd : (upTo k).Nodup := by
    unfold upTo
    rw [List.nodup_iff_pairwise_ne] at *
    exact List.Pairwise.map _ (fun a b (hab : a ≠ b) => fun e => hab (Int.ofNat_inj.1 e)) List.nodup_range
  have he : (upTo k)[i] = (i : Int) := by simp [upTo]
  have := hnd.idxOf_getElem i hl
  rw [he] at this
  exact this
theorem seenF_again (st : List Int) (n : Int) : seenF (upTo st.length) (seenF st n).1 = ((seenF st n).1, upTo (seenF st n).2.length) := by
  by_cases h : n ∈ st
  · have h1 := List.idxOf_lt_length_of_mem h
    have h2 : ((st.idxOf n : Nat) : Int) ∈ upTo st.length := mem_upTo.2 ⟨by omega, by omega⟩
    simp only [seenF, h, if_true, h2, idxOf_upTo h1]
  · have h2 : ¬ ((st.length : Nat) : Int) ∈ upTo st.length := fun h => by have := mem_upTo.1 h; omega
    simp only [seenF, h, if_false, h2, upTo_length, List.length_append, List.length_singleton, upTo_succ]
theorem renS_again : ∀ (t : Tm) (st : List Int), (t.renS seenF st).1.renS seenF (upTo st.length) = ((t.renS seenF st).1, upTo (t.renS seenF st).2.length) := by
  intro t
  induction t using Tm.induct with
  | h k n s l ih =>
    intro st
    have hL : ∀ (r : List Tm), (∀ t ∈ r, t ∈ l) → ∀ st : List Int, Tm.renSL seenF (upTo st.length) (Tm.renSL seenF st r).1 = ((Tm.renSL seenF st r).1, upTo (Tm.renSL seenF st r).2.length) := by
      intro r
      induction r with
      | nil => intro _ st; rfl
      | cons x r ihr =>
        intro hm st
        have h1 := ih x (hm x (List.mem_cons_self ..)) st
        have h2 := ihr (fun t ht => hm t (List.mem_cons_of_mem _ ht)) (x.renS seenF st).2
        simp only [Tm.renSL, h1, h2]
    have hn : Tm.num seenF (upTo st.length) k (Tm.num seenF st k n).1 = ((Tm.num seenF st k n).1, upTo (Tm.num seenF st k n).2.length) := by
      unfold Tm.num
      by_cases e : k = 0
      · simp only [e, if_true]; exact seenF_again st n
      · simp only [e, if_false]
    simp only [Tm.renS, hn, hL l (fun _ h => h)]
theorem renSL_again (l : List Tm) : ∀ (st : List Int), Tm.renSL seenF (upTo st.length) (Tm.renSL seenF st l).1 = ((Tm.renSL seenF st l).1, upTo (Tm.renSL seenF st l).2.length) := by
  induction l with
  | nil => intro st; rfl
  | cons x r ihr =>
    intro st
    simp only [Tm.renSL, renS_again x st, ihr (x.renS seenF st).2]
theorem tidy_tidy (l : List Tm) : tidy (tidy l) = tidy l := by
  have := renSL_again l []
  simp only [List.length_nil, upTo, List.range_zero, List.map_nil] at this
  unfold tidy
  rw [this]
namespace Tm
inductive Vars (p : Int → Prop) : Tm → Prop where
  | mk (k n : Int) (s : ByteArray) (l : List Tm) (h : k = 0 → p n) (hl : ∀ t ∈ l, Vars p t) : Vars p (mk k n s l)
theorem Good.vars {v : Int} : ∀ {t : Tm}, t.Good v → t.Vars (fun n => 0 ≤ n ∧ n < v) := by
  intro t
  induction t using induct with
  | h k n s l ih =>
    intro h
    cases h with
    | var _ h0 h1 => exact .mk _ _ _ _ (fun _ => ⟨h0, h1⟩) (fun t ht => by cases ht)
    | atom _ _ => exact .mk _ _ _ _ (fun h => by cases h) (fun t ht => by cases ht)
    | int _ _ _ => exact .mk _ _ _ _ (fun h => by cases h) (fun t ht => by cases ht)
    | comp _ _ _ _ _ _ h4 => exact .mk _ _ _ _ (fun h => by cases h) (fun t ht => ih t ht (h4 t ht))
end Tm
section
variable {p : Int → Prop} {g : Int → Int}
end
end Go.Proofs.YtlpmfkpefoegeacDoor
