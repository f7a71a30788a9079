/-
  Slices of one's own: what is appended to them, stored into them, cut off them.
  Copies of slices and of heaps.
  heap.Load.
  What the operations of a statement leave, told each by itself.
  The unifier: free, in.
  The unifier: bind.
-/
import Derived.Test.YtlpmfkpefoegeabDoorQFront
import Derived.Test.YtlpmfkpefoegeabDoorQReg
import Derived.Test.YtlpmfkpefoegeabDoorQNamed
import Derived.Test.YtlpmfkpefoegeabDoorQIsHeap
namespace Go.Proofs.YtlpmfkpefoegeabDoor
set_option linter.unusedVariables false
set_option linter.unusedSimpArgs false
open Go.RowKit
theorem tyNums : ElemTy Tryd.prog 48 3 1 8 := .mk' (z := .int .i64 0) Tryd.underlying48 (by kernel_rfl) rfl (by omega) (by omega)
section
variable {α : Type}
end
/-! ### slices of one's own, of elements that lead nowhere -/
section
variable {α : Type}
theorem flatMap_len {f : α → List Value} {size : Nat} (hf : ∀ x, (f x).length = size) (l : List α) : (l.flatMap f).length = l.length * size := by
  induction l with
  | nil => simp
  | cons x r ih => rw [List.flatMap_cons, List.length_append, hf, ih, List.length_cons, Nat.add_mul]; omega
theorem flatMap_get {f : α → List Value} {size : Nat} (hf : ∀ x, (f x).length = size) : ∀ (l : List α) (i j : Nat) (hi : i < l.length), j < size → (l.flatMap f)[i * size + j]? = (f l[i])[j]?
  | x :: l, 0, j, hi, hj => by rw [List.flatMap_cons, Nat.zero_mul, Nat.zero_add, List.getElem?_append_left (by rw [hf]; exact hj)]; rfl
  | x :: l, i + 1, j, hi, hj => by
    rw [List.flatMap_cons, List.getElem?_append_right (by rw [hf, Nat.add_mul]; omega), hf, show (i + 1) * size + j - size = i * size + j by rw [Nat.add_mul]; omega]
    exact flatMap_get hf l i j (by simpa using hi) hj
theorem flatMap_set {f : α → List Value} {size : Nat} (hf : ∀ x, (f x).length = size) (y : α) (u : Value) : ∀ (l : List α) (i j : Nat) (hi : i < l.length), j < size → f y = (f l[i]).set j u → (l.flatMap f).set (i * size + j) u = (l.set i y).flatMap f
  | x :: l, 0, j, hi, hj, hy => by
    rw [List.flatMap_cons, Nat.zero_mul, Nat.zero_add, List.set_append_left _ _ (by rw [hf]; exact hj)]
    simp only [List.getElem_cons_zero] at hy
    rw [List.set_cons_zero, List.flatMap_cons, hy]
  | x :: l, i + 1, j, hi, hj, hy => by
    rw [List.flatMap_cons, List.set_append_right _ _ (by rw [hf, Nat.add_mul]; omega), hf, show (i + 1) * size + j - size = i * size + j by rw [Nat.add_mul]; omega, List.set_cons_succ, List.flatMap_cons]
    rw [flatMap_set hf y u l i j (by simpa using hi) hj (by simpa using hy)]
theorem flatMap_take {f : α → List Value} {size : Nat} (hf : ∀ x, (f x).length = size) : ∀ (l : List α) (k : Nat), k ≤ l.length → (l.flatMap f).take (k * size) = (l.take k).flatMap f
  | l, 0, _ => by simp
  | x :: l, k + 1, h => by
    rw [List.flatMap_cons, List.take_succ_cons, List.flatMap_cons, List.take_append, hf, List.take_of_length_le (by rw [hf, Nat.add_mul]; omega), show (k + 1) * size - size = k * size by rw [Nat.add_mul]; omega]
    rw [flatMap_take hf l k (by simpa using h)]
def OwnF (f : α → List Value) (ok : α → Prop) (E : TypeId) (size : Nat) (w : World) (base : Nat) (l : List α) (v : Value) : Prop :=
  Own w base E size v l.length (l.flatMap f) ∧ ∀ x ∈ l, ok x
variable {f : α → List Value} {ok : α → Prop} {E : TypeId} {size : Nat} {w : World} {base : Nat} {l : List α} {v : Value}
theorem OwnF.nil : OwnF f ok E size w base [] (.slice none 0 0) := ⟨Own.nil w base E size, fun x h => by simp at h⟩
theorem OwnF.lt (h : OwnF f ok E size w base l v) : ∀ k, ownB v = some k → base ≤ k ∧ k < w.heap.size := h.1.lt
theorem OwnF.kept (h : OwnF f ok E size w base l v) {w' : World} (hk : ∀ k, ownB v = some k → w'.heap[k]? = w.heap[k]?) : OwnF f ok E size w' base l v := ⟨h.1.kept hk, h.2⟩
theorem OwnF.below (h : OwnF f ok E size w base l v) {w' : World} (hk : Below w.heap.size w w') : OwnF f ok E size w' base l v := ⟨h.1.below hk, h.2⟩
theorem OwnF.ownR (hf : ∀ x, (f x).length = size) (h : OwnF f ok E size w base l v) (A : Nat → Prop) : OwnR w base E size (flatR f ok) A l v := by
  refine ⟨l.map f, by simp, by rw [← List.flatMap_def]; exact h.1, fun i x vs hx hv => ?_⟩
  rw [List.getElem?_map, hx] at hv
  simp only [Option.map_some, Option.some.injEq] at hv
  subst hv
  exact ⟨hf x, h.2 x (List.mem_of_getElem? hx), rfl⟩
theorem OwnF.of_ownR {A : Nat → Prop} (h : OwnR w base E size (flatR f ok) A l v) : OwnF f ok E size w base l v := by
  obtain ⟨vals, hl, ho, he⟩ := h
  have e : vals = l.map f := by
    apply List.ext_getElem (by simp [hl])
    intro i h1 h2
    obtain ⟨_, _, h3⟩ := he i _ _ (List.getElem?_eq_getElem (by omega)) (List.getElem?_eq_getElem h1)
    rw [h3, List.getElem_map]
  subst e
  refine ⟨by rw [List.flatMap_def]; exact ho, fun x hx => ?_⟩
  obtain ⟨i, hi, rfl⟩ := List.mem_iff_getElem.1 hx
  exact (he i _ _ (List.getElem?_eq_getElem hi) (List.getElem?_eq_getElem (by simpa using hi))).2.1
theorem OwnF.val (h : OwnF f ok E size w base l v) : ∃ a cap, v = .slice a l.length cap ∧ l.length ≤ cap ∧ cap ≤ maxLen := by
  rcases h.1.2 with ⟨h0, a, rfl⟩ | ⟨g, cap, cur, rfl, hc, hb, hg, hnc, hcm, _⟩
  · exact ⟨a, 0, by rw [h0], by omega, by simp [maxLen]⟩
  · exact ⟨_, cap, rfl, hnc, hcm⟩
theorem OwnF.at (hf : ∀ x, (f x).length = size) (h : OwnF f ok E size w base l v) (h0 : 0 < l.length) :
    ∃ g cap, v = .slice (some ⟨g, 0, none⟩) l.length cap ∧ 0 < cap ∧ l.length ≤ cap ∧ cap ≤ maxLen ∧ ownB v = some g ∧ (∀ o, w.frozen? ⟨g, o, none⟩ = false) ∧ g < w.heap.size ∧ base ≤ g ∧
      ∀ i (hi : i < l.length) j u, (f l[i])[j]? = some u → w.cell? ⟨g, i * size + j, none⟩ = some u := by
  have hcl := @Own.cells w base E size v l.length (l.flatMap f) h.1
  rcases h.1.2 with ⟨h1, a, rfl⟩ | ⟨g, cap, cur, rfl, hc, hb, hg, hnc, hcm, hcs, htake⟩
  · omega
  · refine ⟨g, cap, rfl, hc, hnc, hcm, by simp [ownB, Nat.pos_iff_ne_zero.1 hc], fun o => by simp [World.frozen?, hg], blk_lt hg, hb, fun i hi j u hu => ?_⟩
    have hj : j < size := by have := (List.getElem?_eq_some_iff.1 hu).1; rw [hf] at this; exact this
    exact hcl rfl hc _ u (by rw [flatMap_get hf l i j hi hj]; exact hu)
theorem OwnF.set (hf : ∀ x, (f x).length = size) (h : OwnF f ok E size w base l v) {g : Nat} (hg : ownB v = some g) {i j : Nat} (hi : i < l.length) (hj : j < size) {y : α} {u : Value} (hy : f y = (f l[i]).set j u) (hok : ok y) :
    OwnF f ok E size (w.setCell ⟨g, i * size + j, none⟩ u) base (l.set i y) v := by
  refine ⟨⟨flatMap_len hf _, ?_⟩, fun x hx => ?_⟩
  · rw [List.length_set]
    rcases h.1.2 with ⟨h1, a, rfl⟩ | ⟨g', cap, cur, rfl, hc, hb, hgg, hnc, hcm, hcs, htake⟩
    · omega
    · simp only [ownB, Nat.pos_iff_ne_zero.1 hc, if_false, Option.some.injEq] at hg
      subst hg
      refine .inr ⟨g', cap, _, rfl, hc, hb, blk_set hgg _ u, hnc, hcm, by simpa using hcs, ?_⟩
      rw [← flatMap_set hf y u l i j hi hj hy, ← htake, Array.toList_setIfInBounds, List.take_set]
  · rcases List.mem_or_eq_of_mem_set hx with h1 | rfl
    · exact h.2 x h1
    · exact hok
theorem OwnF.take (hf : ∀ x, (f x).length = size) {a : Option Addr} {cap : Nat} (h : OwnF f ok E size w base l (.slice a l.length cap)) {k : Nat} (hk : k ≤ l.length) : OwnF f ok E size w base (l.take k) (.slice a k cap) := by
  have hl : (l.take k).length = k := by rw [List.length_take]; omega
  refine ⟨⟨by rw [flatMap_len hf], ?_⟩, fun x hx => h.2 x (List.mem_of_mem_take hx)⟩
  rw [hl]
  rcases h.1.2 with ⟨h1, a', h2⟩ | ⟨g, c, cur, h2, hc, hb, hgg, hnc, hcm, hcs, htake⟩
  · simp only [Value.slice.injEq] at h2
    obtain ⟨rfl, -, rfl⟩ := h2
    exact .inl ⟨by omega, a, by rw [show k = 0 by omega]⟩
  · simp only [Value.slice.injEq, true_and] at h2
    obtain ⟨rfl, rfl⟩ := h2
    refine .inr ⟨g, cap, cur, rfl, hc, hb, hgg, by omega, hcm, hcs, ?_⟩
    rw [← flatMap_take hf l k hk, ← htake, List.take_take, Nat.min_eq_left (Nat.mul_le_mul_right _ hk)]
theorem OwnF.sl (hf : ∀ x, (f x).length = size) (h1 : ∀ x, ∀ u ∈ f x, u.oneCell' = true) (h : OwnF f ok E size w base l v) (hl : l.length ≤ 1048576) {A : Nat → Prop} (hA : ∀ b, ownB v = some b → A b) : SlR size (flatR f ok) A w l v :=
  OwnR.sl' (flatR_lasts h1) (h.ownR hf A) hl hA
end
theorem Ce.vals_len (c : Ce) : c.vals.length = 3 := rfl
theorem Ce.vals_one (c : Ce) : ∀ u ∈ c.vals, u.oneCell' = true := by simp [Ce.vals, Value.oneCell']
theorem numV_len (c : Int) : (numV c).length = 1 := rfl
theorem numV_one (c : Int) : ∀ u ∈ numV c, u.oneCell' = true := by simp [numV, Value.oneCell']
theorem boolV_len (c : Bool) : (boolV c).length = 1 := rfl
theorem boolV_one (c : Bool) : ∀ u ∈ boolV c, u.oneCell' = true := by simp [boolV, Value.oneCell']
abbrev OwnC (w : World) (base : Nat) (l : List Ce) (v : Value) : Prop := OwnF Ce.vals Ce.Ok 80 3 w base l v
abbrev OwnN (w : World) (base : Nat) (l : List Int) (v : Value) : Prop := OwnF numV I64 3 1 w base l v
abbrev OwnB (w : World) (base : Nat) (l : List Bool) (v : Value) : Prop := OwnF boolV (fun _ => True) 4 1 w base l v
theorem OwnC.sl {w : World} {base : Nat} {l : List Ce} {v : Value} (h : OwnC w base l v) (hl : l.length ≤ 1048576) {A : Nat → Prop} (hA : ∀ b, ownB v = some b → A b) : CesR A w l v := OwnF.sl Ce.vals_len Ce.vals_one h hl hA
theorem OwnN.sl {w : World} {base : Nat} {l : List Int} {v : Value} (h : OwnN w base l v) (hl : l.length ≤ 1048576) {A : Nat → Prop} (hA : ∀ b, ownB v = some b → A b) : NumsR A w l v := OwnF.sl numV_len numV_one h hl hA
theorem OwnB.sl {w : World} {base : Nat} {l : List Bool} {v : Value} (h : OwnB w base l v) (hl : l.length ≤ 1048576) {A : Nat → Prop} (hA : ∀ b, ownB v = some b → A b) : BoolsR A w l v := OwnF.sl boolV_len boolV_one h hl hA
end Go.Proofs.YtlpmfkpefoegeabDoor

namespace Go.Proofs.YtlpmfkpefoegeabDoor
set_option linter.unusedVariables false
set_option linter.unusedSimpArgs false
open Go.RowKit
theorem SlR.vals {α : Type} {size : Nat} {f : α → List Value} {ok : α → Prop} {A : Nat → Prop} {w : World} {l : List α} {v : Value} (h : SlR size (flatR f ok) A w l v) : ∀ x ∈ l, ok x := by
  obtain ⟨a, cap, b, off, rfl, h1, h2, h3, ha, he⟩ := h.at
  intro x hx
  obtain ⟨i, hi, rfl⟩ := List.mem_iff_getElem.1 hx
  obtain ⟨vs, _, h4, _⟩ := he i _ (List.getElem?_eq_getElem hi)
  exact h4.1
end Go.Proofs.YtlpmfkpefoegeabDoor

namespace Go.Proofs.YtlpmfkpefoegeabDoor
set_option linter.unusedVariables false
set_option linter.unusedSimpArgs false
open Go.RowKit
def HpNE (A : Nat → Prop) (x : Hp × Int × Int) (r : Value) (w' : World) : Prop := ∃ us, r = .tuple #[.agg us.toArray, .int .i64 x.2.1, .int .i64 x.2.2] ∧ Hp.rep A w' x.1 us
theorem Pure.mk {w w' : World} {R : Value → World → Prop} {v : Value} (hb : Below w.heap.size w w') (hr : R v w') : Pure w R (.returned v) w' := ⟨v, rfl, hb, hr⟩
theorem HpNE.old {A : Nat → Prop} {w w' : World} {h : Hp} {vs : List Value} {n e : Int} (hh : Hp.rep A w h vs) (hb : Below w.heap.size w w') : HpNE (fun b => A b ∨ New w b) (h, n, e) (.tuple #[.agg vs.toArray, .int .i64 n, .int .i64 e]) w' :=
  ⟨vs, rfl, Hp.rep.mono (Hp.rep.keeps hh (Keeps.of_below hb)) (fun _ _ h => .inl h)⟩
theorem OwnR.val' {α : Type} {w : World} {base : Nat} {E : TypeId} {size : Nat} {R : (Nat → Prop) → World → α → List Value → Prop} {A : Nat → Prop} {xs : List α} {v : Value}
    (h : OwnR w base E size R A xs v) : ∃ a cap, v = .slice a xs.length cap ∧ xs.length ≤ cap ∧ cap ≤ maxLen := by
  obtain ⟨vals, hl, ho, he⟩ := h
  rcases ho.2 with ⟨h0, a, rfl⟩ | ⟨g, cap, cur, rfl, hc, hb, hg, hnc, hcm, _⟩
  · exact ⟨a, 0, by rw [h0], by omega, by simp [maxLen]⟩
  · exact ⟨_, cap, rfl, hnc, hcm⟩
theorem OwnC.val' {w : World} {base : Nat} {l : List Ce} {v : Value} (h : OwnC w base l v) : ∃ a cap, v = .slice a l.length cap ∧ l.length ≤ cap ∧ cap ≤ maxLen := OwnF.val h
end Go.Proofs.YtlpmfkpefoegeabDoor

namespace Go.Proofs.YtlpmfkpefoegeabDoor
set_option linter.unusedVariables false
set_option linter.unusedSimpArgs false
open Go.RowKit
def IsV (u : Value) : Value → World → Prop := fun v _ => v = u
def IsAny : Value → World → Prop := fun _ _ => True
def IsTm (t : Tm) : Value → World → Prop := fun v w => ∃ us, v = .agg us.toArray ∧ Tm.rep (fun _ => True) w t us
def IsTms (l : List Tm) : Value → World → Prop := fun v w => TmsR (fun _ => True) w l v
def IsB (p : Prop) : Value → World → Prop := fun v _ => ∃ t, v = .bool t ∧ (t = true ↔ p)
def IsCs (l : List Ce) : Value → World → Prop := fun v w => CesR (fun _ => True) w l v
def IsNs (l : List Int) : Value → World → Prop := fun v w => NumsR (fun _ => True) w l v
def IsBs (l : List Bool) : Value → World → Prop := fun v w => BoolsR (fun _ => True) w l v
def IsHp (h : Hp) : Value → World → Prop := fun v w => ∃ us, v = .agg us.toArray ∧ Hp.rep (fun _ => True) w h us
def IsOC (base : Nat) (l : List Ce) : Value → World → Prop := fun v w => OwnC w base l v
def IsON (base : Nat) (l : List Int) : Value → World → Prop := fun v w => OwnN w base l v
def Stays (R : Value → World → Prop) : Prop := ∀ v w w', R v w → Below w.heap.size w w' → R v w'
theorem stays_V (u : Value) : Stays (IsV u) := fun _ _ _ h _ => h
theorem stays_any : Stays IsAny := fun _ _ _ h _ => h
theorem stays_B (p : Prop) : Stays (IsB p) := fun _ _ _ h _ => h
theorem stays_Tm (t : Tm) : Stays (IsTm t) := fun v w w' ⟨us, h1, h2⟩ hb => ⟨us, h1, Tm.rep_lasts.1 _ _ _ _ _ h2 (Keeps.of_below hb)⟩
theorem stays_Tms (l : List Tm) : Stays (IsTms l) := fun v w w' h hb => h.below hb
theorem stays_Cs (l : List Ce) : Stays (IsCs l) := fun v w w' h hb => SlR.keeps Ce.rep_lasts h (Keeps.of_below hb)
theorem stays_Ns (l : List Int) : Stays (IsNs l) := fun v w w' h hb => SlR.keeps numR_lasts h (Keeps.of_below hb)
theorem stays_Bs (l : List Bool) : Stays (IsBs l) := fun v w w' h hb => SlR.keeps boolR_lasts h (Keeps.of_below hb)
theorem stays_Hp (t : Hp) : Stays (IsHp t) := fun v w w' ⟨us, h1, h2⟩ hb => ⟨us, h1, Hp.rep_lasts.1 _ _ _ _ _ h2 (Keeps.of_below hb)⟩
theorem stays_OC (base : Nat) (l : List Ce) : Stays (IsOC base l) := fun v w w' h hb => OwnF.below h hb
theorem stays_ON (base : Nat) (l : List Int) : Stays (IsON base l) := fun v w w' h hb => OwnF.below h hb
def posts (ps : List (Value → World → Prop)) (i : Nat) : Value → World → Prop := ps.getD i fun _ _ => True
theorem posts_stay {ps : List (Value → World → Prop)} (h : ∀ R ∈ ps, Stays R) (i : Nat) (v : Value) (w w' : World) (hp : posts ps i v w) (hb : Below w.heap.size w w') : posts ps i v w' := by
  unfold posts at *
  by_cases hi : i < ps.length
  · have e : ps.getD i (fun _ _ => True) = ps[i] := by simp [List.getD, hi]
    rw [e] at hp ⊢
    exact h _ (List.getElem_mem hi) v w w' hp hb
  · simp [List.getD, hi]
def HpOwn (w : World) (base : Nat) (h : Hp) (vs : List Value) : Prop := ∃ c t, vs = [c, t] ∧ OwnC w base h.cells c ∧ OwnN w base h.trail t
theorem HpOwn.rep {w : World} {base : Nat} {h : Hp} {vs : List Value} (hh : HpOwn w base h vs) (h1 : h.cells.length ≤ 1048576) (h2 : h.trail.length ≤ 1048576) {A : Nat → Prop} (hA : ∀ b, base ≤ b → A b) : Hp.rep A w h vs := by
  obtain ⟨c, t, rfl, hc, ht⟩ := hh
  exact ⟨c, t, rfl, hc.sl h1 (fun b hb => hA b (hc.lt b hb).1), ht.sl h2 (fun b hb => hA b (ht.lt b hb).1)⟩
end Go.Proofs.YtlpmfkpefoegeabDoor

namespace Go.Proofs.YtlpmfkpefoegeabDoor
set_option linter.unusedVariables false
set_option linter.unusedSimpArgs false
open Go.RowKit
theorem OwnF.ne_box {α : Type} {f : α → List Value} {ok : α → Prop} {E E' : TypeId} {size base : Nat} {w : World} {l : List α} {v : Value} {g : Nat} {c : Array Value} {fr : Nat × Nat}
    (h : OwnF f ok E size w base l v) (hb : w.heap[g]? = some (.cells c E' fr)) (hE : E ≠ E') : ownB v ≠ some g := by
  intro hk
  rcases h.1.2 with ⟨_, a, rfl⟩ | ⟨g', cap, cur, rfl, hc, hb', hg, _⟩
  · cases a <;> simp [ownB] at hk
  · simp only [ownB, Nat.pos_iff_ne_zero.1 hc, if_false, Option.some.injEq] at hk
    subst hk
    rw [hg] at hb
    simp only [Option.some.injEq, Obj.cells.injEq] at hb
    exact hE hb.2.1
theorem box3 {w : World} {g : Nat} {E : TypeId} {v0 v1 v2 : Value} (h : w.heap[g]? = some (.cells #[v0, v1, v2] E (0, 0))) :
    w.cell? ⟨g, 0, none⟩ = some v0 ∧ w.cell? ⟨g, 1, none⟩ = some v1 ∧ w.cell? ⟨g, 2, none⟩ = some v2 ∧ ∀ o, w.frozen? ⟨g, o, none⟩ = false :=
  ⟨(blk_cell h 0).trans rfl, (blk_cell h 1).trans rfl, (blk_cell h 2).trans rfl, fun o => by simp [World.frozen?, h]⟩
def UInv (g base : Nat) (cv tv : Value) (l : List Ce) (t : List Int) (k : Int) (w : World) : Prop :=
  w.heap[g]? = some (.cells #[cv, tv, .int .i64 k] 209 (0, 0)) ∧ OwnC w base l cv ∧ OwnN w base t tv ∧ base ≤ g ∧ l.length ≤ 65536 ∧ (t.length : Int) + k ≤ 70000 ∧ -1 ≤ k ∧ k ≤ 400
section
variable {g base : Nat} {cv tv : Value} {l : List Ce} {t : List Int} {k : Int} {w : World}
theorem UInv.lt (h : UInv g base cv tv l t k w) : g < w.heap.size ∧ base ≤ g ∧ base ≤ w.heap.size := by
  obtain ⟨h1, _, _, h2, _⟩ := h
  have := blk_lt h1
  omega
theorem UInv.keeps {w' : World} (h : UInv g base cv tv l t k w) (hg : w'.heap[g]? = w.heap[g]?) (hc : ∀ b, ownB cv = some b → w'.heap[b]? = w.heap[b]?) (ht : ∀ b, ownB tv = some b → w'.heap[b]? = w.heap[b]?) : UInv g base cv tv l t k w' := by
  obtain ⟨h1, h2, h3, h4⟩ := h
  exact ⟨hg.trans h1, h2.kept hc, h3.kept ht, h4⟩
theorem UInv.below {w' : World} (h : UInv g base cv tv l t k w) (hb : Below w.heap.size w w') : UInv g base cv tv l t k w' :=
  h.keeps (hb.block _ h.lt.1) (fun b e => hb.block _ (h.2.1.lt b e).2) (fun b e => hb.block _ (h.2.2.1.lt b e).2)
theorem UInv.vals (h : UInv g base cv tv l t k w) : ∃ ca cc ta tc, cv = .slice ca l.length cc ∧ tv = .slice ta t.length tc ∧ l.length ≤ cc ∧ cc ≤ maxLen ∧ t.length ≤ tc ∧ tc ≤ maxLen := by
  obtain ⟨h1, h2, h3, h4⟩ := h
  obtain ⟨ca, cc, rfl, e1, e2⟩ := OwnF.val h2
  obtain ⟨ta, tc, rfl, e3, e4⟩ := OwnF.val h3
  exact ⟨ca, cc, ta, tc, rfl, rfl, e1, e2, e3, e4⟩
theorem UInv.rep (h : UInv g base cv tv l t k w) : Hp.rep (fun _ => True) w ⟨l, t⟩ [cv, tv] := by
  obtain ⟨h1, h2, h3, h4, h5, h6, h7, h8⟩ := h
  exact ⟨cv, tv, rfl, OwnF.sl Ce.vals_len Ce.vals_one h2 (by omega) (fun _ _ => trivial), OwnF.sl numV_len numV_one h3 (by omega) (fun _ _ => trivial)⟩
theorem UInv.turn {k' : Int} (h : UInv g base cv tv l t k w) (h1 : -1 ≤ k') (h2 : k' ≤ k) : UInv g base cv tv l t k' (w.setCell ⟨g, 2, none⟩ (.int .i64 k')) := by
  obtain ⟨e1, e2, e3, e4, e5, e6, e7, e8⟩ := h
  refine ⟨(blk_set e1 2 _).trans rfl, e2.kept fun b hb => ?_, e3.kept fun b hb => ?_, e4, e5, by omega, by omega, by omega⟩
  · exact Below.heap_setCell _ _ _ _ (fun e => OwnF.ne_box e2 e1 (by decide) (hb.trans (congrArg some e)))
  · exact Below.heap_setCell _ _ _ _ (fun e => OwnF.ne_box e3 e1 (by decide) (hb.trans (congrArg some e)))
theorem UInv.box {w' : World} (h : UInv g base cv tv l t k w) (h' : Ch (fun b => b = g) w w') : ∀ b, ownB cv = some b ∨ ownB tv = some b → w'.heap[b]? = w.heap[b]? := by
  intro b hb
  obtain ⟨e1, e2, e3, -⟩ := h
  rcases hb with hb | hb
  · exact h'.block b (e2.lt b hb).2 (fun e => OwnF.ne_box e2 e1 (by decide) (hb.trans (congrArg some e)))
  · exact h'.block b (e3.lt b hb).2 (fun e => OwnF.ne_box e3 e1 (by decide) (hb.trans (congrArg some e)))
end
theorem ch_box (g o : Nat) (w : World) (u : Value) : Ch (fun b => b = g) w (w.setCell ⟨g, o, none⟩ u) := (Ch.refl (fun b => b = g) w).setCell (p := ⟨g, o, none⟩) (Or.inl (show g = g from rfl)) u
theorem OwnC.cell {w : World} {base : Nat} {l : List Ce} {ca : Option Addr} {cc : Nat} (h : OwnC w base l (.slice ca l.length cc)) {i : Nat} (hi : i < l.length) :
    ∃ b, ca = some ⟨b, 0, none⟩ ∧ ownB (.slice ca l.length cc) = some b ∧ w.cell? ⟨b, i * 3, none⟩ = some (.int .i64 l[i].kind) ∧ w.cell? ⟨b, i * 3 + 1, none⟩ = some (.int .i64 l[i].n) ∧ w.cell? ⟨b, i * 3 + 2, none⟩ = some (.string l[i].s) ∧
      l[i].Ok ∧ (∀ o, w.frozen? ⟨b, o, none⟩ = false) ∧ b < w.heap.size ∧ base ≤ b := by
  obtain ⟨b, cap, e, h0, h1, h2, h3, h4, h5, h6, h7⟩ := OwnF.at Ce.vals_len h (by omega)
  simp only [Value.slice.injEq, true_and] at e
  obtain ⟨rfl, rfl⟩ := e
  exact ⟨b, rfl, h3, h7 i hi 0 _ rfl, h7 i hi 1 _ rfl, h7 i hi 2 _ rfl, h.2 _ (List.getElem_mem hi), h4, h5, h6⟩
end Go.Proofs.YtlpmfkpefoegeabDoor

namespace Go.Proofs.YtlpmfkpefoegeabDoor
set_option linter.unusedVariables false
set_option linter.unusedSimpArgs false
open Go.RowKit
def UM (g : Nat) (cv tv : Value) (b : Nat) : Prop := b = g ∨ ownB cv = some b ∨ ownB tv = some b
def UStep (g base : Nat) (cv tv : Value) (w : World) (l : List Ce) (t : List Int) (k : Int) (w' : World) : Prop :=
  ∃ tv', UInv g base cv tv' l t k w' ∧ Ch (UM g cv tv) w w' ∧ (∀ b, ownB tv' = some b → ownB tv = some b ∨ w.heap.size ≤ b)
theorem UStep.refl {g base : Nat} {cv tv : Value} {w : World} {l : List Ce} {t : List Int} {k : Int} (h : UInv g base cv tv l t k w) : UStep g base cv tv w l t k w := ⟨tv, h, Ch.refl _ _, fun b h => .inl h⟩
theorem UStep.trans {g base : Nat} {cv tv tv' : Value} {w w' w'' : World} {l : List Ce} {t : List Int} {k : Int} (hc : Ch (UM g cv tv) w w') (ht : ∀ b, ownB tv' = some b → ownB tv = some b ∨ w.heap.size ≤ b)
    (h : UStep g base cv tv' w' l t k w'') : UStep g base cv tv w l t k w'' := by
  obtain ⟨tv2, h1, h2, h3⟩ := h
  refine ⟨tv2, h1, hc.trans h2 fun x hx => ?_, fun b hb => ?_⟩
  · rcases hx with hx | hx | hx
    · exact .inl (.inl hx)
    · exact .inl (.inr (.inl hx))
    · rcases ht x hx with hx | hx
      · exact .inl (.inr (.inr hx))
      · exact .inr hx
  · rcases h3 b hb with h4 | h4
    · exact ht b h4
    · exact .inr (Nat.le_trans hc.size h4)
end Go.Proofs.YtlpmfkpefoegeabDoor
