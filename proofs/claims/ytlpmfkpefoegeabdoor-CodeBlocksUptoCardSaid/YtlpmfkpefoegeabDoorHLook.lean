/-
  What a heap means, in plain data: which are valid, and what a place stands for.
-/
import Derived.Test.YtlpmfkpefoegeabDoorQHeap
import Derived.Test.YtlpmfkpefoegeabDoorQTerm
namespace Go.Proofs.YtlpmfkpefoegeabDoor
set_option linter.unusedVariables false
set_option linter.unusedSimpArgs false

/-- a cell is one among n, at place i -/
def Ce.OkAt (n i : Nat) (c : Ce) : Prop :=
  (c.kind = 0 ∧ 0 ≤ c.n ∧ c.n < n ∧ c.s.toList = []) ∨ (c.kind = 1 ∧ c.n = 0 ∧ c.s.toList ≠ []) ∨ (c.kind = 2 ∧ c.s.toList = []) ∨
  (c.kind = 3 ∧ 1 ≤ c.n ∧ c.n ≤ 4 ∧ (i : Int) + c.n < n ∧ c.s.toList ≠ [])

/-- cells that mean something -/
def GoodC (l : List Ce) : Prop := ∀ (i : Nat) (h : i < l.length), (l[i]).OkAt l.length i
/-- places of references -/
def GoodT (l : List Ce) (t : List Int) : Prop := ∀ (j : Nat) (h : j < t.length), ∃ v : Nat, t[j] = (v : Int) ∧ ∃ hv : v < l.length, (l[v]).kind = 0

/-- a valid heap -/
def Hp.Good (h : Hp) : Prop := GoodC h.cells ∧ GoodT h.cells h.trail ∧ h.cells.length ≤ 65536 ∧ h.trail.length ≤ 65536

/-- the cell at a place -/
def cellAt (l : List Ce) (a : Int) : Ce := (l[a.toNat]?).getD default

theorem cellAt_nat {l : List Ce} {k : Nat} (h : k < l.length) : cellAt l (k : Int) = l[k] := by
  unfold cellAt
  rw [Int.toNat_natCast, List.getElem?_eq_getElem h]
  rfl

/-- a place that stands for itself -/
def Stop (l : List Ce) (a : Int) : Prop := (cellAt l a).kind ≠ 0 ∨ (cellAt l a).n = a
instance (l : List Ce) (a : Int) : Decidable (Stop l a) := by unfold Stop; infer_instance

/-- there is such a place -/
def Inb (l : List Ce) (a : Int) : Prop := 0 ≤ a ∧ a < l.length
instance (l : List Ce) (a : Int) : Decidable (Inb l a) := by unfold Inb; infer_instance

/-- the place that one stands for, in so many steps at most -/
def lookN (l : List Ce) : Nat → Int → Int
  | 0, _ => -1
  | k + 1, a => if ¬ Inb l a then -1 else if Stop l a then a else lookN l k (cellAt l a).n

/-- the place that one stands for; -1: there is none -/
def look (l : List Ce) (a : Int) : Int := lookN l (l.length + 1) a

/-- the same as a relation -/
inductive Looks (l : List Ce) : Int → Int → Prop where
  | stop {a : Int} : Inb l a → Stop l a → Looks l a a
  | next {a x : Int} : Inb l a → ¬ Stop l a → Looks l (cellAt l a).n x → Looks l a x

theorem Looks.end_ {l : List Ce} {a x : Int} (h : Looks l a x) : Inb l x ∧ Stop l x := by
  induction h with
  | stop h1 h2 => exact ⟨h1, h2⟩
  | next _ _ _ ih => exact ih
theorem Looks.nonneg {l : List Ce} {a x : Int} (h : Looks l a x) : 0 ≤ x := h.end_.1.1
theorem Looks.start {l : List Ce} {a x : Int} (h : Looks l a x) : Inb l a := by cases h <;> assumption
theorem Looks.fun_ {l : List Ce} {a x y : Int} (h : Looks l a x) (h' : Looks l a y) : x = y := by
  induction h with
  | stop h1 h2 =>
    cases h' with
    | stop => rfl
    | next _ h => exact absurd h2 h
  | next h1 h2 _ ih =>
    cases h' with
    | stop _ h => exact absurd h h2
    | next _ _ h => exact ih h

theorem lookN_looks {l : List Ce} : ∀ (k : Nat) (a : Int), 0 ≤ lookN l k a → Looks l a (lookN l k a)
  | 0, a, h => by simp [lookN] at h
  | k + 1, a, h => by
    unfold lookN at h ⊢
    by_cases h1 : Inb l a
    · by_cases h2 : Stop l a
      · simp only [h1, h2, not_true, if_false, if_true]
        exact .stop h1 h2
      · simp only [h1, h2, not_true, if_false] at h ⊢
        exact .next h1 h2 (lookN_looks k _ h)
    · simp [h1] at h

theorem nodup_lt : ∀ (n : Nat) (s : List Int), s.Nodup → (∀ x ∈ s, 0 ≤ x ∧ x < n) → s.length ≤ n
  | 0, s, _, h => by
    cases s with
    | nil => simp
    | cons x r => have := h x (by simp); omega
  | n + 1, s, hn, h => by
    have h1 := nodup_lt n (s.erase (n : Int)) (hn.erase _) (fun x hx => by
      have h2 := (List.Nodup.mem_erase_iff hn).1 hx
      have h3 := h x h2.2
      omega)
    have h4 := @List.length_erase Int _ _ (n : Int) s
    split at h4 <;> omega

/-- a way that was gone: places that one after the other stand for the next -/
def Way (l : List Ce) (a : Int) (s : List Int) (b : Int) : Prop :=
  s.Nodup ∧ (∀ x ∈ s, Inb l x ∧ ¬ Stop l x ∧ ((cellAt l x).n ∈ s ∨ (cellAt l x).n = b)) ∧ (∀ x, Looks l b x ↔ Looks l a x) ∧ (a ∈ s ∨ a = b)

theorem Way.start (l : List Ce) (a : Int) : Way l a [] a := ⟨List.nodup_nil, fun x h => by simp at h, fun x => Iff.rfl, .inr rfl⟩

theorem Way.len {l : List Ce} {a b : Int} {s : List Int} (h : Way l a s b) : s.length ≤ l.length :=
  nodup_lt _ s h.1 fun x hx => (h.2.1 x hx).1

theorem Way.step {l : List Ce} {a b : Int} {s : List Int} (h : Way l a s b) (hb : b ∉ s) (h1 : Inb l b) (h2 : ¬ Stop l b) : Way l a (s ++ [b]) (cellAt l b).n := by
  refine ⟨?_, ?_, ?_, ?_⟩
  · rw [List.nodup_append]
    refine ⟨h.1, by simp, ?_⟩
    intro x hx y hy e
    simp at hy; subst hy; subst e
    exact hb hx
  · intro x hx
    rw [List.mem_append] at hx
    rcases hx with hx | hx
    · obtain ⟨k1, k2, k3⟩ := h.2.1 x hx
      refine ⟨k1, k2, ?_⟩
      rcases k3 with k3 | k3
      · exact .inl (by simp [k3])
      · exact .inl (by simp [k3])
    · simp at hx; subst hx
      exact ⟨h1, h2, .inr rfl⟩
  · intro x
    rw [← h.2.2.1 x]
    refine ⟨fun k => .next h1 h2 k, fun k => ?_⟩
    cases k with
    | stop _ k => exact absurd k h2
    | next _ _ k => exact k
  · rcases h.2.2.2 with k | k
    · exact .inl (by simp [k])
    · exact .inl (by simp [k])

theorem closed_none {l : List Ce} {s : List Int} (h : ∀ x ∈ s, Inb l x ∧ ¬ Stop l x ∧ (cellAt l x).n ∈ s) {a x : Int} (hl : Looks l a x) : a ∉ s := by
  induction hl with
  | stop h1 h2 => exact fun hm => (h _ hm).2.1 h2
  | next h1 h2 _ ih => exact fun hm => ih (h _ hm).2.2

/-- who comes to where he was stands for nothing -/
theorem Way.again {l : List Ce} {a b : Int} {s : List Int} (h : Way l a s b) (hb : b ∈ s) (x : Int) : ¬ Looks l a x := by
  rw [← h.2.2.1 x]
  intro hl
  exact closed_none (s := s) (fun y hy => by
    obtain ⟨k1, k2, k3⟩ := h.2.1 y hy
    refine ⟨k1, k2, ?_⟩
    rcases k3 with k3 | k3
    · exact k3
    · rw [k3]; exact hb) hl hb

theorem lookN_way {l : List Ce} : ∀ (k : Nat) (a b : Int) (s : List Int), Way l a s b → b ∉ s → s.length + k = l.length + 1 → ∀ x, Looks l a x → lookN l k b = x
  | 0, a, b, s, hw, hb, hk, x, hl => by have := hw.len; omega
  | k + 1, a, b, s, hw, hb, hk, x, hl => by
    have hl' := (hw.2.2.1 x).2 hl
    unfold lookN
    have h1 := hl'.start
    simp only [h1, not_true, if_false]
    by_cases h2 : Stop l b
    · simp only [h2, if_true]
      exact (Looks.stop h1 h2).fun_ hl'
    · simp only [h2, if_false]
      have hw2 := hw.step hb h1 h2
      have hnot : (cellAt l b).n ∉ s ++ [b] := fun hm => hw2.again hm x hl
      exact lookN_way k a _ _ hw2 hnot (by simp; omega) x hl

theorem look_of {l : List Ce} {a x : Int} (h : Looks l a x) : look l a = x :=
  lookN_way _ a a [] (Way.start l a) (by simp) (by simp) x h

theorem look_iff {l : List Ce} {a x : Int} (h0 : 0 ≤ x) : look l a = x ↔ Looks l a x := by
  refine ⟨fun h => ?_, look_of⟩
  have := lookN_looks (l := l) (l.length + 1) a (by unfold look at h; omega)
  unfold look at h
  rw [h] at this
  exact this

theorem lookN_ge {l : List Ce} : ∀ (k : Nat) (a : Int), -1 ≤ lookN l k a
  | 0, a => by simp [lookN]
  | k + 1, a => by
    unfold lookN
    split
    · omega
    · split
      · rename_i h _; have := h; unfold Inb at this; omega
      · exact lookN_ge k _

theorem look_ge (l : List Ce) (a : Int) : -1 ≤ look l a := lookN_ge _ _

theorem look_none {l : List Ce} {a : Int} (h : ∀ x, ¬ Looks l a x) : look l a = -1 := by
  have h1 := look_ge l a
  by_cases h2 : look l a = -1
  · exact h2
  · exact absurd ((look_iff (x := look l a) (by omega)).1 rfl) (h _)

theorem look_looks {l : List Ce} {a : Int} (h : 0 ≤ look l a) : Looks l a (look l a) := (look_iff h).1 rfl

theorem look_lt (l : List Ce) (a : Int) : look l a < l.length := by
  by_cases h : 0 ≤ look l a
  · exact (look_looks h).end_.1.2
  · omega

theorem look_end {l : List Ce} {a : Int} (h : 0 ≤ look l a) : Inb l (look l a) ∧ Stop l (look l a) := (look_looks h).end_

theorem look_self {l : List Ce} {a : Int} (h1 : Inb l a) (h2 : Stop l a) : look l a = a := look_of (.stop h1 h2)

theorem look_next {l : List Ce} {a : Int} (h1 : Inb l a) (h2 : ¬ Stop l a) : look l a = look l (cellAt l a).n := by
  by_cases h : 0 ≤ look l (cellAt l a).n
  · exact look_of (.next h1 h2 (look_looks h))
  · have := look_ge l (cellAt l a).n
    rw [show look l (cellAt l a).n = -1 by omega]
    refine look_none fun x hx => ?_
    cases hx with
    | stop _ k => exact h2 k
    | next _ _ k => have := look_of k; have := k.nonneg; omega

theorem look_out {l : List Ce} {a : Int} (h : ¬ Inb l a) : look l a = -1 := look_none fun x hx => h hx.start

end Go.Proofs.YtlpmfkpefoegeabDoor
