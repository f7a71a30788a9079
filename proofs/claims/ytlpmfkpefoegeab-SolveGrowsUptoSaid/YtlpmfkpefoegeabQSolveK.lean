/-
  The solver: choices cut off.
-/
import Derived.Test.YtlpmfkpefoegeabQPlace
namespace Go.Proofs.Ytlpmfkpefoegeab
set_option linter.unusedVariables false
set_option linter.unusedSimpArgs false
open Go.RowKit

theorem flatten_take {size : Nat} : ∀ (vals : List (List Value)) (k : Nat), (∀ (i : Nat) (vs : List Value), vals[i]? = some vs → vs.length = size) → (vals.flatten).take (k * size) = (vals.take k).flatten
  | [], k, _ => by simp
  | v :: r, 0, _ => by simp
  | v :: r, k + 1, h => by
    have h0 := h 0 v rfl
    rw [List.flatten_cons, List.take_succ_cons, List.flatten_cons, List.take_append, h0, List.take_of_length_le (by rw [h0, Nat.add_mul]; omega), show (k + 1) * size - size = k * size by rw [Nat.add_mul]; omega,
      flatten_take r k (fun i vs hi => h (i + 1) vs (by simpa using hi))]

/-- its first k elements -/
theorem OwnR.take {α : Type} {w : World} {base : Nat} {E : TypeId} {size : Nat} {R : (Nat → Prop) → World → α → List Value → Prop} {A : Nat → Prop} {xs : List α} {a : Option Addr} {cap : Nat} (h : OwnR w base E size R A xs (.slice a xs.length cap)) {k : Nat} (hk : k ≤ xs.length) :
    OwnR w base E size R A (xs.take k) (.slice a k cap) := by
  obtain ⟨vals, hl, ho, he⟩ := h
  have hob : ownB (.slice a k cap) = ownB (.slice a xs.length cap) := by cases a <;> rfl
  have hlk : (xs.take k).length = k := by rw [List.length_take]; omega
  have hsz : ∀ (i : Nat) (vs : List Value), vals[i]? = some vs → vs.length = size := fun i vs hv => by
    have hi : i < xs.length := by have := (List.getElem?_eq_some_iff.1 hv).1; omega
    exact (he i _ vs (List.getElem?_eq_getElem hi) hv).1
  refine ⟨vals.take k, by rw [List.length_take, List.length_take]; omega, ?_, fun i x vs hx hv => ?_⟩
  · rw [hlk, ← flatten_take vals k hsz]
    refine ⟨by rw [List.length_take, flatten_len vals hsz]; exact Nat.min_eq_left (Nat.mul_le_mul_right _ (by omega)), ?_⟩
    rcases ho.2 with ⟨h1, a', h2⟩ | ⟨g, c, cur, h2, hc, hb, hgg, hnc, hcm, hcs, htake⟩
    · simp only [Value.slice.injEq] at h2
      obtain ⟨rfl, -, rfl⟩ := h2
      exact .inl ⟨by omega, a, by rw [show k = 0 by omega]⟩
    · simp only [Value.slice.injEq, true_and] at h2
      obtain ⟨rfl, rfl⟩ := h2
      refine .inr ⟨g, cap, cur, rfl, hc, hb, hgg, by omega, hcm, hcs, ?_⟩
      rw [← htake, List.take_take, Nat.min_eq_left (Nat.mul_le_mul_right _ hk)]
  · have hi : i < k := by have := (List.getElem?_eq_some_iff.1 hx).1; omega
    rw [List.getElem?_take_of_lt hi] at hx hv
    rw [hob]
    exact he i x vs hx hv

section
variable {base : Nat} {P : List Cl} {q g mb xb : Nat} {pv tv cv ov : Value} {s : Sv} {w : World}
/-- choices are cut off: k are left -/
theorem SvI.cutChc {ca : Option Addr} {cc k : Nat} (h : SvI base P q g mb g pv tv (.slice ca s.choices.length cc) ov s w) (hk : k ≤ s.choices.length) :
    SStep base P q g mb pv tv (.slice ca s.choices.length cc) ov { s with choices := s.choices.drop (s.choices.length - k) } w (w.setCell ⟨g, 3, none⟩ (.slice ca k cc)) := by
  have ho : ownB (.slice ca k cc) = ownB (.slice ca s.choices.length cc) := by cases ca <;> rfl
  refine h.turned (s' := { s with choices := s.choices.drop (s.choices.length - k) }) ((blk_set h.box 3 _).trans rfl) rfl rfl h.v0 h.v1 h.fu (by simp only [List.length_drop]; have := h.few; omega) ((Ch.refl _ _).setCell (p := ⟨g, 3, none⟩) (.inl (.inl rfl)) _) (fun b hb => .inl (ho ▸ hb)) ?_
  have h5 : OwnR w base 120 3 chcR (SA g mb g tv (.slice ca s.choices.length cc) ov) s.choices.reverse (.slice ca s.choices.reverse.length cc) := by simpa using h.chc
  have h6 := h5.take (k := k) (by simpa using hk)
  rw [List.take_reverse] at h6
  exact h6.keeps (B := fun b => b ≠ g) chcR_lasts (Keeps.setCell _ _ _ _ (fun h => h rfl)) (fun b hb => hb.2) (fun b hb e => h.apart.cg (by rw [← ho, ← e]; exact hb))
end
end Go.Proofs.Ytlpmfkpefoegeab
