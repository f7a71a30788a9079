/-
  Slices of one's own: what is appended to them, stored into them, cut off them.
-/
import Derived.Test.YtlpmfkpefoegeacGreatDoorQNodes
import Derived.Test.YtlpmfkpefoegeacGreatDoorQCopy
import Derived.Test.YtlpmfkpefoegeacGreatDoorQIsHeap
namespace Go.Proofs.YtlpmfkpefoegeacGreatDoor
set_option linter.unusedVariables false
set_option linter.unusedSimpArgs false
open Go.RowKit
section
variable {P : Program} {ops : Array Oper} {Q : Exit → Act → World → Prop}
def dstOf (ops : Array Oper) (k : Nat) : Option Nat := (ops[k]?).bind (·.dst)
structure Come (ops : Array Oper) (Po : Nat → Value → World → Prop) (a0 : Act) (f : Nat → Value) (listed : Array Bool) (a : Act) (w : World) : Prop where
  defers : a.defers = a0.defers
  size : a.tmps.size = a0.tmps.size
  old : ∀ s, (∀ k, listed.getD k false = true → dstOf ops k ≠ some s) → a.tmps[s]? = a0.tmps[s]?
  new : ∀ k, k < ops.size → listed.getD k false = true → Po k (f k) w ∧ ∀ s, dstOf ops k = some s → a.tmps[s]? = some (f k)
  closed : ∀ k j, listed.getD k false = true → waits ops k j = true → listed.getD j false = true
end
section
variable {P : Program} {ops : Array Oper} {Q : Exit → Act → World → Prop}
structure ComeL (ops : Array Oper) (L : Nat) (Po : Nat → Value → World → Prop) (a0 : Act) (f : Nat → Value) (listed : Array Bool) (a : Act) (w : World) : Prop where
  defers : a.defers = a0.defers
  size : a.tmps.size = a0.tmps.size
  old : ∀ s, (∀ k, listed.getD k false = true → dstOf ops k ≠ some s) → a.tmps[s]? = a0.tmps[s]?
  new : ∀ k, k < L → listed.getD k false = true → Po k (f k) w ∧ ∀ s, dstOf ops k = some s → a.tmps[s]? = some (f k)
  front : ∀ k, listed.getD k false = true → k < L
end
section
variable {α : Type}
end
/-! ### slices of one's own, of elements that lead nowhere -/
section
variable {α : Type}
theorem flatMap_len {f : α → List Value} {size : Nat} (hf : ∀ x, (f x).length = size) (l : List α) : (l.flatMap f).length = l.length * size := by
  induction l with
  | nil => simp
  | cons x r ih => rw [List.flatMap_cons, List.length_append, hf, ih, List.length_cons, Nat.add_mul]; omega
theorem flatMap_get {f : α → List Value} {size : Nat} (hf : ∀ x, (f x).length = size) : ∀ (l : List α) (i j : Nat) (hi : i < l.length), j < size → (l.flatMap f)[i * size + j]? = (f l[i])[j]?
  | x :: l, 0, j, hi, hj => by rw [List.flatMap_cons, Nat.zero_mul, Nat.zero_add, List.getElem?_append_left (by rw [hf]; exact hj)]; rfl
  | x :: l, i + 1, j, hi, hj => by
    rw [List.flatMap_cons, List.getElem?_append_right (by rw [hf, Nat.add_mul]; omega), hf, show (i + 1) * size + j - size = i * size + j by rw [Nat.add_mul]; omega]
    exact flatMap_get hf l i j (by simpa using hi) hj
theorem flatMap_take {f : α → List Value} {size : Nat} (hf : ∀ x, (f x).length = size) : ∀ (l : List α) (k : Nat), k ≤ l.length → (l.flatMap f).take (k * size) = (l.take k).flatMap f
  | l, 0, _ => by simp
  | x :: l, k + 1, h => by
    rw [List.flatMap_cons, List.take_succ_cons, List.flatMap_cons, List.take_append, hf, List.take_of_length_le (by rw [hf, Nat.add_mul]; omega), show (k + 1) * size - size = k * size by rw [Nat.add_mul]; omega]
    rw [flatMap_take hf l k (by simpa using h)]
def OwnF (f : α → List Value) (ok : α → Prop) (E : TypeId) (size : Nat) (w : World) (base : Nat) (l : List α) (v : Value) : Prop :=
  Own w base E size v l.length (l.flatMap f) ∧ ∀ x ∈ l, ok x
variable {f : α → List Value} {ok : α → Prop} {E : TypeId} {size : Nat} {w : World} {base : Nat} {l : List α} {v : Value}
theorem OwnF.nil : OwnF f ok E size w base [] (.slice none 0 0) := ⟨Own.nil w base E size, fun x h => by simp at h⟩
theorem OwnF.lt (h : OwnF f ok E size w base l v) : ∀ k, ownB v = some k → base ≤ k ∧ k < w.heap.size := h.1.lt
theorem OwnF.kept (h : OwnF f ok E size w base l v) {w' : World} (hk : ∀ k, ownB v = some k → w'.heap[k]? = w.heap[k]?) : OwnF f ok E size w' base l v := ⟨h.1.kept hk, h.2⟩
theorem OwnF.below (h : OwnF f ok E size w base l v) {w' : World} (hk : Below w.heap.size w w') : OwnF f ok E size w' base l v := ⟨h.1.below hk, h.2⟩
theorem OwnF.ownR (hf : ∀ x, (f x).length = size) (h : OwnF f ok E size w base l v) (A : Nat → Prop) : OwnR w base E size (flatR f ok) A l v := by
  refine ⟨l.map f, by simp, by rw [← List.flatMap_def]; exact h.1, fun i x vs hx hv => ?_⟩
  rw [List.getElem?_map, hx] at hv
  simp only [Option.map_some, Option.some.injEq] at hv
  subst hv
  exact ⟨hf x, h.2 x (List.mem_of_getElem? hx), rfl⟩
theorem OwnF.of_ownR {A : Nat → Prop} (h : OwnR w base E size (flatR f ok) A l v) : OwnF f ok E size w base l v := by
  obtain ⟨vals, hl, ho, he⟩ := h
  have e : vals = l.map f := by
    apply List.ext_getElem (by simp [hl])
    intro i h1 h2
    obtain ⟨_, _, h3⟩ := he i _ _ (List.getElem?_eq_getElem (by omega)) (List.getElem?_eq_getElem h1)
    rw [h3, List.getElem_map]
  subst e
  refine ⟨by rw [List.flatMap_def]; exact ho, fun x hx => ?_⟩
  obtain ⟨i, hi, rfl⟩ := List.mem_iff_getElem.1 hx
  exact (he i _ _ (List.getElem?_eq_getElem hi) (List.getElem?_eq_getElem (by simpa using hi))).2.1
theorem OwnF.val (h : OwnF f ok E size w base l v) : ∃ a cap, v = .slice a l.length cap ∧ l.length ≤ cap ∧ cap ≤ maxLen := by
  rcases h.1.2 with ⟨h0, a, rfl⟩ | ⟨g, cap, cur, rfl, hc, hb, hg, hnc, hcm, _⟩
  · exact ⟨a, 0, by rw [h0], by omega, by simp [maxLen]⟩
  · exact ⟨_, cap, rfl, hnc, hcm⟩
theorem OwnF.at (hf : ∀ x, (f x).length = size) (h : OwnF f ok E size w base l v) (h0 : 0 < l.length) :
    ∃ g cap, v = .slice (some ⟨g, 0, none⟩) l.length cap ∧ 0 < cap ∧ l.length ≤ cap ∧ cap ≤ maxLen ∧ ownB v = some g ∧ (∀ o, w.frozen? ⟨g, o, none⟩ = false) ∧ g < w.heap.size ∧ base ≤ g ∧
      ∀ i (hi : i < l.length) j u, (f l[i])[j]? = some u → w.cell? ⟨g, i * size + j, none⟩ = some u := by
  have hcl := @Own.cells w base E size v l.length (l.flatMap f) h.1
  rcases h.1.2 with ⟨h1, a, rfl⟩ | ⟨g, cap, cur, rfl, hc, hb, hg, hnc, hcm, hcs, htake⟩
  · omega
  · refine ⟨g, cap, rfl, hc, hnc, hcm, by simp [ownB, Nat.pos_iff_ne_zero.1 hc], fun o => by simp [World.frozen?, hg], blk_lt hg, hb, fun i hi j u hu => ?_⟩
    have hj : j < size := by have := (List.getElem?_eq_some_iff.1 hu).1; rw [hf] at this; exact this
    exact hcl rfl hc _ u (by rw [flatMap_get hf l i j hi hj]; exact hu)
theorem OwnF.take (hf : ∀ x, (f x).length = size) {a : Option Addr} {cap : Nat} (h : OwnF f ok E size w base l (.slice a l.length cap)) {k : Nat} (hk : k ≤ l.length) : OwnF f ok E size w base (l.take k) (.slice a k cap) := by
  have hl : (l.take k).length = k := by rw [List.length_take]; omega
  refine ⟨⟨by rw [flatMap_len hf], ?_⟩, fun x hx => h.2 x (List.mem_of_mem_take hx)⟩
  rw [hl]
  rcases h.1.2 with ⟨h1, a', h2⟩ | ⟨g, c, cur, h2, hc, hb, hgg, hnc, hcm, hcs, htake⟩
  · simp only [Value.slice.injEq] at h2
    obtain ⟨rfl, -, rfl⟩ := h2
    exact .inl ⟨by omega, a, by rw [show k = 0 by omega]⟩
  · simp only [Value.slice.injEq, true_and] at h2
    obtain ⟨rfl, rfl⟩ := h2
    refine .inr ⟨g, cap, cur, rfl, hc, hb, hgg, by omega, hcm, hcs, ?_⟩
    rw [← flatMap_take hf l k hk, ← htake, List.take_take, Nat.min_eq_left (Nat.mul_le_mul_right _ hk)]
theorem OwnF.sl (hf : ∀ x, (f x).length = size) (h1 : ∀ x, ∀ u ∈ f x, u.oneCell' = true) (h : OwnF f ok E size w base l v) (hl : l.length ≤ 1048576) {A : Nat → Prop} (hA : ∀ b, ownB v = some b → A b) : SlR size (flatR f ok) A w l v :=
  OwnR.sl' (flatR_lasts h1) (h.ownR hf A) hl hA
end
theorem Ce.vals_len (c : Ce) : c.vals.length = 3 := rfl
theorem Ce.vals_one (c : Ce) : ∀ u ∈ c.vals, u.oneCell' = true := by simp [Ce.vals, Value.oneCell']
theorem numV_len (c : Int) : (numV c).length = 1 := rfl
theorem numV_one (c : Int) : ∀ u ∈ numV c, u.oneCell' = true := by simp [numV, Value.oneCell']
theorem boolV_len (c : Bool) : (boolV c).length = 1 := rfl
theorem boolV_one (c : Bool) : ∀ u ∈ boolV c, u.oneCell' = true := by simp [boolV, Value.oneCell']
abbrev OwnC (w : World) (base : Nat) (l : List Ce) (v : Value) : Prop := OwnF Ce.vals Ce.Ok 112 3 w base l v
abbrev OwnN (w : World) (base : Nat) (l : List Int) (v : Value) : Prop := OwnF numV I64 3 1 w base l v
abbrev OwnB (w : World) (base : Nat) (l : List Bool) (v : Value) : Prop := OwnF boolV (fun _ => True) 4 1 w base l v
theorem OwnC.sl {w : World} {base : Nat} {l : List Ce} {v : Value} (h : OwnC w base l v) (hl : l.length ≤ 1048576) {A : Nat → Prop} (hA : ∀ b, ownB v = some b → A b) : CesR A w l v := OwnF.sl Ce.vals_len Ce.vals_one h hl hA
theorem OwnN.sl {w : World} {base : Nat} {l : List Int} {v : Value} (h : OwnN w base l v) (hl : l.length ≤ 1048576) {A : Nat → Prop} (hA : ∀ b, ownB v = some b → A b) : NumsR A w l v := OwnF.sl numV_len numV_one h hl hA
theorem OwnB.sl {w : World} {base : Nat} {l : List Bool} {v : Value} (h : OwnB w base l v) (hl : l.length ≤ 1048576) {A : Nat → Prop} (hA : ∀ b, ownB v = some b → A b) : BoolsR A w l v := OwnF.sl boolV_len boolV_one h hl hA
end Go.Proofs.YtlpmfkpefoegeacGreatDoor
