/-
  What the operations of a statement leave, told each by itself.
  Copies of heaps.
-/
import Derived.Test.YtlpmfkpefoegeabDoorQOwn
import Derived.Test.YtlpmfkpefoegeabDoorQClone
namespace Go.Proofs.YtlpmfkpefoegeabDoor
set_option linter.unusedVariables false
set_option linter.unusedSimpArgs false
open Go.RowKit

/-- what a value is, in whatever world -/
def IsV (u : Value) : Value → World → Prop := fun v _ => v = u
/-- whatever it is -/
def IsAny : Value → World → Prop := fun _ _ => True
/-- a term -/
def IsTm (t : Tm) : Value → World → Prop := fun v w => ∃ us, v = .agg us.toArray ∧ Tm.rep (fun _ => True) w t us
/-- a slice of terms -/
def IsTms (l : List Tm) : Value → World → Prop := fun v w => TmsR (fun _ => True) w l v
/-- the answer to a question -/
def IsB (p : Prop) : Value → World → Prop := fun v _ => ∃ t, v = .bool t ∧ (t = true ↔ p)
/-- a slice of cells, of numbers, of truth values -/
def IsCs (l : List Ce) : Value → World → Prop := fun v w => CesR (fun _ => True) w l v
def IsNs (l : List Int) : Value → World → Prop := fun v w => NumsR (fun _ => True) w l v
def IsBs (l : List Bool) : Value → World → Prop := fun v w => BoolsR (fun _ => True) w l v
/-- a heap -/
def IsHp (h : Hp) : Value → World → Prop := fun v w => ∃ us, v = .agg us.toArray ∧ Hp.rep (fun _ => True) w h us
/-- cells of one's own, numbers of one's own -/
def IsOC (base : Nat) (l : List Ce) : Value → World → Prop := fun v w => OwnC w base l v
def IsON (base : Nat) (l : List Int) : Value → World → Prop := fun v w => OwnN w base l v

/-- it lasts as long as nothing old turns -/
def Stays (R : Value → World → Prop) : Prop := ∀ v w w', R v w → Below w.heap.size w w' → R v w'
theorem stays_V (u : Value) : Stays (IsV u) := fun _ _ _ h _ => h
theorem stays_any : Stays IsAny := fun _ _ _ h _ => h
theorem stays_B (p : Prop) : Stays (IsB p) := fun _ _ _ h _ => h
theorem stays_Tm (t : Tm) : Stays (IsTm t) := fun v w w' ⟨us, h1, h2⟩ hb => ⟨us, h1, Tm.rep_lasts.1 _ _ _ _ _ h2 (Keeps.of_below hb)⟩
theorem stays_Tms (l : List Tm) : Stays (IsTms l) := fun v w w' h hb => h.below hb
theorem stays_Cs (l : List Ce) : Stays (IsCs l) := fun v w w' h hb => SlR.keeps Ce.rep_lasts h (Keeps.of_below hb)
theorem stays_Ns (l : List Int) : Stays (IsNs l) := fun v w w' h hb => SlR.keeps numR_lasts h (Keeps.of_below hb)
theorem stays_Bs (l : List Bool) : Stays (IsBs l) := fun v w w' h hb => SlR.keeps boolR_lasts h (Keeps.of_below hb)
theorem stays_Hp (t : Hp) : Stays (IsHp t) := fun v w w' ⟨us, h1, h2⟩ hb => ⟨us, h1, Hp.rep_lasts.1 _ _ _ _ _ h2 (Keeps.of_below hb)⟩
theorem stays_OC (base : Nat) (l : List Ce) : Stays (IsOC base l) := fun v w w' h hb => OwnF.below h hb
theorem stays_ON (base : Nat) (l : List Int) : Stays (IsON base l) := fun v w w' h hb => OwnF.below h hb
def posts (ps : List (Value → World → Prop)) (i : Nat) : Value → World → Prop := ps.getD i fun _ _ => True
theorem posts_stay {ps : List (Value → World → Prop)} (h : ∀ R ∈ ps, Stays R) (i : Nat) (v : Value) (w w' : World) (hp : posts ps i v w) (hb : Below w.heap.size w w') : posts ps i v w' := by
  unfold posts at *
  by_cases hi : i < ps.length
  · have e : ps.getD i (fun _ _ => True) = ps[i] := by simp [List.getD, hi]
    rw [e] at hp ⊢
    exact h _ (List.getElem_mem hi) v w w' hp hb
  · simp [List.getD, hi]

/-- cells and numbers of one's own lie apart -/
theorem ownF_apart {α β : Type} {f : α → List Value} {ok : α → Prop} {f' : β → List Value} {ok' : β → Prop} {E E' : TypeId} {size size' base base' : Nat} {w : World} {l : List α} {l' : List β} {v v' : Value}
    (hE : E ≠ E') (h : OwnF f ok E size w base l v) (h' : OwnF f' ok' E' size' w base' l' v') : ∀ k, ownB v = some k → ownB v' ≠ some k := by
  intro k hk hk'
  have key : ∀ {α : Type} {f : α → List Value} {ok : α → Prop} {E : TypeId} {size base : Nat} {l : List α} {v : Value}, OwnF f ok E size w base l v → ownB v = some k → ∃ c, w.heap[k]? = some (.cells c E (0, 0)) := by
    intro α f ok E size base l v h hk
    rcases h.1.2 with ⟨_, a, rfl⟩ | ⟨g, cap, cur, rfl, hc, hb, hg, _⟩
    · cases a <;> simp [ownB] at hk
    · simp only [ownB, Nat.pos_iff_ne_zero.1 hc, if_false, Option.some.injEq] at hk
      subst hk
      exact ⟨cur, hg⟩
  obtain ⟨c, h1⟩ := key h hk
  obtain ⟨c', h2⟩ := key h' hk'
  rw [h1] at h2
  simp only [Option.some.injEq, Obj.cells.injEq] at h2
  exact hE h2.2.1

/-- a heap of one's own -/
def HpOwn (w : World) (base : Nat) (h : Hp) (vs : List Value) : Prop := ∃ c t, vs = [c, t] ∧ OwnC w base h.cells c ∧ OwnN w base h.trail t
theorem HpOwn.rep {w : World} {base : Nat} {h : Hp} {vs : List Value} (hh : HpOwn w base h vs) (h1 : h.cells.length ≤ 1048576) (h2 : h.trail.length ≤ 1048576) {A : Nat → Prop} (hA : ∀ b, base ≤ b → A b) : Hp.rep A w h vs := by
  obtain ⟨c, t, rfl, hc, ht⟩ := hh
  exact ⟨c, t, rfl, hc.sl h1 (fun b hb => hA b (hc.lt b hb).1), ht.sl h2 (fun b hb => hA b (ht.lt b hb).1)⟩

/-- where both arguments of '+' .. are told -/
theorem is_ceq {w : World} {v : Value} {l : List Ce} (h : IsCs l v w) : ∃ a cap, v = .slice a l.length cap ∧ l.length ≤ cap ∧ cap ≤ maxLen ∧ l.length ≤ 1048576 := by
  obtain ⟨a, cap, b, off, rfl, h1, h2, h3, _⟩ := SlR.at h
  exact ⟨a, cap, rfl, h1, h2, h3⟩
end Go.Proofs.YtlpmfkpefoegeabDoor

namespace Go.Proofs.YtlpmfkpefoegeabDoor
set_option linter.unusedVariables false
set_option linter.unusedSimpArgs false
open Go.RowKit

/-- a heap of one's own -/
def IsHpO (base : Nat) (h : Hp) : Value → World → Prop := fun v w => ∃ us, v = .agg us.toArray ∧ HpOwn w base h us
theorem stays_HpO (base : Nat) (h : Hp) : Stays (IsHpO base h) := fun v w w' ⟨us, e, c, t, e2, h1, h2⟩ hb => ⟨us, e, c, t, e2, OwnF.below h1 hb, OwnF.below h2 hb⟩

end Go.Proofs.YtlpmfkpefoegeabDoor
