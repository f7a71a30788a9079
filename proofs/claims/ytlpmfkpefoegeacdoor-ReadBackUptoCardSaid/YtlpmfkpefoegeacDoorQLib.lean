/-
  What lies in memory, said of plain data: cells, slices, terms; what a call may change of memory.
-/
import Derived.WalkKit
import Derived.WalkSpells
import Derived.WalkLawsBesides
import Derived.Deep.RegionHeld3
import Derived.Deep.LoopGhost
import Derived.BigQuiet
import Derived.Laws.EntriesVeiled
import Derived.Deep.DeepMust
import Derived.Deep.QuietTactic
namespace Go.Proofs.YtlpmfkpefoegeacDoor
set_option linter.unusedVariables false
set_option linter.unusedSimpArgs false
open Go.RowKit
theorem hid {p : Prop} (h : p) : Hid p := h
def I64 (n : Int) : Prop := -9223372036854775808 ≤ n ∧ n ≤ 9223372036854775807
theorem I64.of_wf {n : Int} (h : (Lit.int .i64 n).wf = true) : I64 n := by
  simpa [Lit.wf, IntKind.min, IntKind.max, IntKind.signed, IntKind.bits, I64] using h
theorem cell_set (w : World) (b o b' o' : Nat) (v : Value) : (w.setCell ⟨b, o, none⟩ v).cell? ⟨b', o', none⟩ = if b = b' ∧ o = o' ∧ (w.cell? ⟨b, o, none⟩).isSome = true then some v else w.cell? ⟨b', o', none⟩ := by
  by_cases h : b = b' ∧ o = o'
  · obtain ⟨rfl, rfl⟩ := h
    cases hc : w.cell? ⟨b, o, none⟩ with
    | none =>
      simp only [Option.isSome_none, Bool.false_eq_true, and_false, if_false]
      simp only [World.cell?, World.setCell, Array.getElem?_modify] at hc ⊢
      cases hh : w.heap[b]? with
      | none => simp
      | some x => cases x <;> simp_all
    | some u => simp only [Option.isSome_some, and_self, if_true]; exact World.cell?_setCell_same _ _ _ hc
  · rw [if_neg (fun ⟨h1, h2, _⟩ => h ⟨h1, h2⟩)]
    exact World.cell?_setCell_other _ _ _ _ (by intro e; simp only [Addr.mk.injEq] at e; exact h ⟨e.1, e.2.1⟩)
theorem bc {w w1 : World} (hb : Below w.heap.size w w1) {b o : Nat} {v : Value} (h : w.cell? ⟨b, o, none⟩ = some v) : w1.cell? ⟨b, o, none⟩ = some v := by
  rw [hb.cell (p := ⟨b, o, none⟩) (World.block_lt_of_cell? w ⟨b, o, none⟩ h)]; exact h
structure Keeps (A : Nat → Prop) (w w' : World) : Prop where
  size : w.heap.size ≤ w'.heap.size
  block : ∀ b, b < w.heap.size → A b → w'.heap[b]? = w.heap[b]?
theorem Keeps.refl (A : Nat → Prop) (w : World) : Keeps A w w := ⟨Nat.le_refl _, fun _ _ _ => rfl⟩
theorem Keeps.trans {A : Nat → Prop} {a b c : World} (h : Keeps A a b) (k : Keeps A b c) : Keeps A a c :=
  ⟨Nat.le_trans h.size k.size, fun i hi ha => (k.block i (Nat.lt_of_lt_of_le hi h.size) ha).trans (h.block i hi ha)⟩
theorem Keeps.mono {A A' : Nat → Prop} {w w' : World} (h : Keeps A w w') (hA : ∀ b, b < w.heap.size → A' b → A b) : Keeps A' w w' :=
  ⟨h.size, fun b hb ha => h.block b hb (hA b hb ha)⟩
theorem Keeps.of_below {A : Nat → Prop} {w w' : World} (h : Below w.heap.size w w') : Keeps A w w' := ⟨h.size, fun b hb _ => h.block b hb⟩
theorem Keeps.alloc (A : Nat → Prop) (w : World) (o : Obj) : Keeps A w (w.alloc o) := ⟨by simp, fun b hb _ => Below.heap_alloc w o b hb⟩
theorem Keeps.drew (A : Nat → Prop) (w : World) : Keeps A w w.drew := ⟨Nat.le_refl _, fun _ _ _ => rfl⟩
theorem Keeps.setCell (A : Nat → Prop) (w : World) (p : Addr) (u : Value) (hp : ¬ A p.block) : Keeps A w (w.setCell p u) :=
  ⟨by simp, fun b _ ha => Below.heap_setCell w p u b (by rintro rfl; exact hp ha)⟩
theorem Keeps.grown {A : Nat → Prop} {w w' : World} {row : Option Nat} (h : w.grownBy w' row) (hr : ∀ b, A b → row ≠ some b) : Keeps A w w' :=
  ⟨h.size, fun b hb ha => h.block b hb (fun e => hr b ha e.symm)⟩
theorem Keeps.cell {A : Nat → Prop} {w w' : World} (h : Keeps A w w') {b o : Nat} {v : Value} (ha : A b) (hc : w.cell? ⟨b, o, none⟩ = some v) : w'.cell? ⟨b, o, none⟩ = some v := by
  have hb : b < w.heap.size := World.block_lt_of_cell? w ⟨b, o, none⟩ hc
  rw [← hc]; exact World.cell?_of_block (h.block b hb ha)
theorem blk4 {w : World} {g : Nat} {E : TypeId} {v0 v1 v2 v3 : Value} (h : w.heap[g]? = some (.cells #[v0, v1, v2, v3] E (0, 0))) :
    w.cell? ⟨g, 0, none⟩ = some v0 ∧ w.cell? ⟨g, 1, none⟩ = some v1 ∧ w.cell? ⟨g, 2, none⟩ = some v2 ∧ w.cell? ⟨g, 3, none⟩ = some v3 ∧ (∀ o, w.frozen? ⟨g, o, none⟩ = false) := by
  refine ⟨?_, ?_, ?_, ?_, fun o => ?_⟩ <;> simp [World.cell?, World.frozen?, h]
theorem blk_set {w : World} {g : Nat} {E : TypeId} {c : Array Value} (h : w.heap[g]? = some (.cells c E (0, 0))) (o : Nat) (u : Value) :
    (w.setCell ⟨g, o, none⟩ u).heap[g]? = some (.cells (c.setIfInBounds o u) E (0, 0)) := by
  simp [World.setCell, Array.getElem?_modify, h]
theorem blk_lt {w : World} {g : Nat} {o : Obj} (h : w.heap[g]? = some o) : g < w.heap.size := (Array.getElem?_eq_some_iff.1 h).1
theorem blk_alloc {w : World} {g : Nat} {o : Obj} (h : w.heap[g]? = some o) (o' : Obj) : (w.alloc o').heap[g]? = some o := (Below.heap_alloc w o' g (blk_lt h)).trans h
theorem blk_below {w w' : World} {g : Nat} {o : Obj} (h : w.heap[g]? = some o) (hb : Below w.heap.size w w') : w'.heap[g]? = some o := (hb.block g (blk_lt h)).trans h
theorem blk_keeps {A : Nat → Prop} {w w' : World} {g : Nat} {o : Obj} (h : w.heap[g]? = some o) (hk : Keeps A w w') (hA : A g) : w'.heap[g]? = some o := (hk.block g (blk_lt h) hA).trans h
theorem blk_new (w : World) (o : Obj) : (w.alloc o).heap[w.heap.size]? = some o := heap_alloc_new w o
theorem heap2 (w : World) (A B : Obj) : ((w.alloc A).alloc B).heap[w.heap.size]? = some A ∧ ((w.alloc A).alloc B).heap[w.heap.size + 1]? = some B := by
  refine ⟨blk_alloc (blk_new _ _) _, ?_⟩
  have := blk_new (w.alloc A) B
  simpa using this
theorem heap3 (w : World) (A B C : Obj) : (((w.alloc A).alloc B).alloc C).heap[w.heap.size]? = some A ∧ (((w.alloc A).alloc B).alloc C).heap[w.heap.size + 1]? = some B ∧ (((w.alloc A).alloc B).alloc C).heap[w.heap.size + 1 + 1]? = some C := by
  refine ⟨blk_alloc (heap2 w A B).1 _, blk_alloc (heap2 w A B).2 _, ?_⟩
  have := blk_new ((w.alloc A).alloc B) C
  simpa using this
theorem blk_cell {w : World} {g : Nat} {E : TypeId} {c : Array Value} {fr : Nat × Nat} (h : w.heap[g]? = some (.cells c E fr)) (o : Nat) : w.cell? ⟨g, o, none⟩ = c[o]? := cell_of_row w g o c E fr h
def RowAt (w : World) (b off : Nat) (vs : List Value) : Prop := ∀ j v, vs[j]? = some v → w.cell? ⟨b, off + j, none⟩ = some v
theorem RowAt.keeps {A : Nat → Prop} {w w' : World} {b off : Nat} {vs : List Value} (hA : A b) (h : RowAt w b off vs) (hk : Keeps A w w') : RowAt w' b off vs :=
  fun j v hj => hk.cell hA (h j v hj)
def SlIs (A : Nat → Prop) (len : Nat) (v : Value) (b off : Nat) : Prop :=
  len ≤ 1048576 ∧ ((len = 0 ∧ ∃ a cap, v = .slice a 0 cap ∧ cap ≤ maxLen) ∨ (0 < len ∧ A b ∧ ∃ cap, v = .slice (some ⟨b, off, none⟩) len cap ∧ len ≤ cap ∧ cap ≤ maxLen))
theorem SlIs.mono {A A' : Nat → Prop} {len : Nat} {v : Value} {b off : Nat} (h : SlIs A len v b off) (hA : A b → A' b) : SlIs A' len v b off := by
  obtain ⟨h1, h | ⟨h2, h3, h4⟩⟩ := h
  · exact ⟨h1, .inl h⟩
  · exact ⟨h1, .inr ⟨h2, hA h3, h4⟩⟩
theorem SlIs.val {A : Nat → Prop} {len : Nat} {v : Value} {b off : Nat} (h : SlIs A len v b off) : ∃ a cap, v = .slice a len cap ∧ len ≤ cap ∧ cap ≤ maxLen ∧ (0 < len → a = some ⟨b, off, none⟩) := by
  obtain ⟨_, ⟨rfl, a, cap, rfl, hc⟩ | ⟨_, _, cap, rfl, hc, hm⟩⟩ := h
  · exact ⟨a, cap, rfl, Nat.zero_le _, hc, fun h => absurd h (Nat.lt_irrefl _)⟩
  · exact ⟨_, cap, rfl, hc, hm, fun _ => rfl⟩
section
variable {α : Type}
def Elems (A : Nat → Prop) (w : World) (size : Nat) (R : (Nat → Prop) → World → α → List Value → Prop) (xs : List α) (b off : Nat) : Prop :=
  ∀ i x, xs[i]? = some x → ∃ vs, vs.length = size ∧ R A w x vs ∧ RowAt w b (off + i * size) vs
def SlR (size : Nat) (R : (Nat → Prop) → World → α → List Value → Prop) (A : Nat → Prop) (w : World) (xs : List α) (v : Value) : Prop :=
  ∃ b off, SlIs A xs.length v b off ∧ Elems A w size R xs b off
def Lasts (R : (Nat → Prop) → World → α → List Value → Prop) : Prop :=
  (∀ A w w' x vs, R A w x vs → Keeps A w w' → R A w' x vs) ∧ (∀ (A A' : Nat → Prop) w x vs, R A w x vs → (∀ b, b < w.heap.size → A b → A' b) → R A' w x vs) ∧
  (∀ A w x vs, R A w x vs → ∀ u ∈ vs, u.oneCell' = true)
theorem Elems.keeps {A : Nat → Prop} {w w' : World} {size : Nat} {R : (Nat → Prop) → World → α → List Value → Prop} {xs : List α} {b off : Nat} (hR : Lasts R) (hA : xs ≠ [] → A b)
    (h : Elems A w size R xs b off) (hk : Keeps A w w') : Elems A w' size R xs b off := by
  intro i x hx
  obtain ⟨vs, hl, hr, hrow⟩ := h i x hx
  exact ⟨vs, hl, hR.1 A w w' x vs hr hk, hrow.keeps (hA (by rintro rfl; simp at hx)) hk⟩
theorem SlR.keeps {A : Nat → Prop} {w w' : World} {size : Nat} {R : (Nat → Prop) → World → α → List Value → Prop} {xs : List α} {v : Value} (hR : Lasts R)
    (h : SlR size R A w xs v) (hk : Keeps A w w') : SlR size R A w' xs v := by
  obtain ⟨b, off, hs, he⟩ := h
  refine ⟨b, off, hs, he.keeps hR (fun hne => ?_) hk⟩
  obtain ⟨_, ⟨h0, _⟩ | ⟨_, hA, _⟩⟩ := hs
  · exact absurd (List.eq_nil_of_length_eq_zero h0) hne
  · exact hA
theorem Elems.block_lt {A : Nat → Prop} {w : World} {size : Nat} {R : (Nat → Prop) → World → α → List Value → Prop} {xs : List α} {b off : Nat} (hs : 0 < size) (h : Elems A w size R xs b off) (hx : xs ≠ []) : b < w.heap.size := by
  match xs, hx with
  | x :: r, _ =>
    obtain ⟨vs, hl, _, hrow⟩ := h 0 x rfl
    have h0 : vs[0]? = some (vs[0]'(by omega)) := List.getElem?_eq_getElem (by omega)
    exact World.block_lt_of_cell? w _ (hrow 0 _ h0)
theorem SlR.mono {A A' : Nat → Prop} {w : World} {size : Nat} {R : (Nat → Prop) → World → α → List Value → Prop} {xs : List α} {v : Value} (hR : Lasts R) (hsz : 0 < size)
    (h : SlR size R A w xs v) (hA : ∀ b, b < w.heap.size → A b → A' b) : SlR size R A' w xs v := by
  obtain ⟨b, off, hs, he⟩ := h
  refine ⟨b, off, ?_, fun i x hx => ?_⟩
  · by_cases hx : xs = []
    · obtain ⟨h1, h2 | ⟨h2, _⟩⟩ := hs
      · exact ⟨h1, .inl h2⟩
      · subst hx; simp at h2
    · exact hs.mono (hA b (he.block_lt hsz hx))
  · obtain ⟨vs, hl, hr, hrow⟩ := he i x hx
    exact ⟨vs, hl, hR.2.1 A A' w x vs hr hA, hrow⟩
theorem SlR.at {A : Nat → Prop} {w : World} {size : Nat} {R : (Nat → Prop) → World → α → List Value → Prop} {xs : List α} {v : Value} (h : SlR size R A w xs v) :
    ∃ a cap b off, v = .slice a xs.length cap ∧ xs.length ≤ cap ∧ cap ≤ maxLen ∧ xs.length ≤ 1048576 ∧ (0 < xs.length → a = some ⟨b, off, none⟩ ∧ A b) ∧ Elems A w size R xs b off := by
  obtain ⟨b, off, hs, he⟩ := h
  obtain ⟨a, cap, hv, h1, h2, h3⟩ := hs.val
  refine ⟨a, cap, b, off, hv, h1, h2, hs.1, fun h0 => ⟨h3 h0, ?_⟩, he⟩
  obtain ⟨_, ⟨h0', _⟩ | ⟨_, hA, _⟩⟩ := hs
  · omega
  · exact hA
theorem SlR.nil (size : Nat) (R : (Nat → Prop) → World → α → List Value → Prop) (A : Nat → Prop) (w : World) : SlR size R A w [] (.slice none 0 0) :=
  ⟨0, 0, ⟨by simp, .inl ⟨rfl, none, 0, rfl, by simp [maxLen]⟩⟩, fun i x hx => by simp at hx⟩
end
def Pure (w : World) (R : Value → World → Prop) (e : Ending) (w' : World) : Prop := ∃ v, e = .returned v ∧ Below w.heap.size w w' ∧ R v w'
def New (w : World) (b : Nat) : Prop := w.heap.size ≤ b
structure Ch (M : Nat → Prop) (w w' : World) : Prop where
  os : w'.os = w.os
  tape : w'.tape = w.tape
  output : w'.output = w.output
  size : w.heap.size ≤ w'.heap.size
  block : ∀ k, k < w.heap.size → ¬ M k → w'.heap[k]? = w.heap[k]?
theorem Ch.refl (M : Nat → Prop) (w : World) : Ch M w w := ⟨rfl, rfl, rfl, Nat.le_refl _, fun _ _ _ => rfl⟩
theorem Ch.of_below {M : Nat → Prop} {w w' : World} (h : Below w.heap.size w w') : Ch M w w' := ⟨h.os, h.tape, h.output, h.size, fun k hk _ => h.block k hk⟩
theorem Ch.below {M : Nat → Prop} {w w' : World} (h : Ch M w w') (hM : ∀ k, k < w.heap.size → ¬ M k) : Below w.heap.size w w' := ⟨h.os, h.tape, h.output, h.size, fun k hk => h.block k hk (hM k hk)⟩
theorem Ch.trans {M M' : Nat → Prop} {a b c : World} (h : Ch M a b) (k : Ch M' b c) (hM : ∀ x, M' x → M x ∨ a.heap.size ≤ x) : Ch M a c :=
  ⟨k.os.trans h.os, k.tape.trans h.tape, k.output.trans h.output, Nat.le_trans h.size k.size, fun i hi hn =>
    (k.block i (Nat.lt_of_lt_of_le hi h.size) (fun hm => by rcases hM i hm with h1 | h1; exact hn h1; omega)).trans (h.block i hi hn)⟩
theorem Ch.mono {M M' : Nat → Prop} {w w' : World} (h : Ch M w w') (hM : ∀ x, x < w.heap.size → M x → M' x) : Ch M' w w' :=
  ⟨h.os, h.tape, h.output, h.size, fun i hi hn => h.block i hi fun hm => hn (hM i hi hm)⟩
theorem Ch.then_below {M : Nat → Prop} {a b c : World} (h : Ch M a b) (k : Below b.heap.size b c) : Ch M a c :=
  h.trans (Ch.of_below (M := fun _ => False) k) (fun _ h => h.elim)
theorem Ch.alloc {M : Nat → Prop} {a b : World} (h : Ch M a b) (o : Obj) : Ch M a (b.alloc o) :=
  h.then_below ((Below.refl _ _).alloc (Nat.le_refl _) o)
theorem Ch.drew {M : Nat → Prop} {a b : World} (h : Ch M a b) : Ch M a b.drew := h.then_below (Below.refl _ _).drew
theorem Ch.setCell {M : Nat → Prop} {a b : World} (h : Ch M a b) {p : Addr} (hp : M p.block ∨ a.heap.size ≤ p.block) (u : Value) : Ch M a (b.setCell p u) :=
  h.trans (M' := fun x => x = p.block) ⟨rfl, rfl, rfl, by simp, fun k _ hk => Below.heap_setCell b p u k hk⟩ (by rintro x rfl; exact hp)
theorem Ch.keeps {M A : Nat → Prop} {w w' : World} (h : Ch M w w') (hA : ∀ b, b < w.heap.size → A b → ¬ M b) : Keeps A w w' := ⟨h.size, fun b hb ha => h.block b hb (hA b hb ha)⟩
theorem Ch.grown {M : Nat → Prop} {a b c : World} {row : Option Nat} (h : Ch M a b) (g : b.grownBy c row) (hr : ∀ k, row = some k → M k ∨ a.heap.size ≤ k) : Ch M a c :=
  h.trans (M' := fun x => row = some x) ⟨g.os, g.tape, g.output, g.size, fun k hk hn => g.block k hk (fun e => hn e.symm)⟩ (fun x hx => hr x hx)
/-! ### slices of one's own, grown by append -/
def ownB : Value → Option Nat
  | .slice (some a) _ cap => if cap = 0 then none else some a.block
  | _ => none
def Own (w : World) (base : Nat) (E : TypeId) (size : Nat) (v : Value) (n : Nat) (xs : List Value) : Prop :=
  xs.length = n * size ∧
  ((n = 0 ∧ ∃ a, v = .slice a 0 0) ∨
   ∃ g cap cur, v = .slice (some ⟨g, 0, none⟩) n cap ∧ 0 < cap ∧ base ≤ g ∧ w.heap[g]? = some (.cells cur E (0, 0)) ∧ n ≤ cap ∧ cap ≤ maxLen ∧ cur.size = cap * size ∧ cur.toList.take (n * size) = xs)
section
variable {w : World} {base : Nat} {E : TypeId} {size : Nat} {v : Value} {n : Nat} {xs : List Value}
theorem Own.nil (w : World) (base : Nat) (E : TypeId) (size : Nat) : Own w base E size (.slice none 0 0) 0 [] := ⟨by simp, .inl ⟨rfl, none, rfl⟩⟩
theorem Own.lt (h : Own w base E size v n xs) : ∀ k, ownB v = some k → base ≤ k ∧ k < w.heap.size := by
  intro k hk
  rcases h.2 with ⟨rfl, a, rfl⟩ | ⟨g, cap, cur, rfl, hc, hb, hg, _⟩
  · cases a <;> simp [ownB] at hk
  · simp [ownB, Nat.pos_iff_ne_zero.1 hc] at hk
    subst hk
    exact ⟨hb, (Array.getElem?_eq_some_iff.1 hg).1⟩
theorem Own.kept {w' : World} (h : Own w base E size v n xs) (hk : ∀ k, ownB v = some k → w'.heap[k]? = w.heap[k]?) : Own w' base E size v n xs := by
  refine ⟨h.1, ?_⟩
  rcases h.2 with hn | ⟨g, cap, cur, rfl, hc, hb, hgg, rest⟩
  · exact .inl hn
  · refine .inr ⟨g, cap, cur, rfl, hc, hb, ?_, rest⟩
    rw [hk g (by simp [ownB, Nat.pos_iff_ne_zero.1 hc])]
    exact hgg
theorem Own.keeps {A : Nat → Prop} {w' : World} (h : Own w base E size v n xs) (hk : Keeps A w w') (hA : ∀ k, ownB v = some k → A k) : Own w' base E size v n xs :=
  h.kept fun k e => hk.block k (h.lt k e).2 (hA k e)
theorem Own.below {w' : World} (h : Own w base E size v n xs) (hk : Below w.heap.size w w') : Own w' base E size v n xs :=
  h.kept fun k e => hk.block k (h.lt k e).2
theorem Own.val (h : Own w base E size v n xs) : ∃ a cap, v = .slice a n cap ∧ cap ≤ maxLen := by
  rcases h.2 with ⟨rfl, a, rfl⟩ | ⟨g', cap', cur, rfl, _, _, hgg, _, hm, _⟩
  · exact ⟨a, 0, rfl, by simp [maxLen]⟩
  · exact ⟨_, cap', rfl, hm⟩
theorem Own.cells (h : Own w base E size v n xs) {g cap : Nat} (hg : v = .slice (some ⟨g, 0, none⟩) n cap) (hc : 0 < cap) : ∀ j u, xs[j]? = some u → w.cell? ⟨g, j, none⟩ = some u := by
  intro j u hu
  rcases h.2 with ⟨rfl, a, rfl⟩ | ⟨g', cap', cur, rfl, _, _, hgg, _, _, _, htake⟩
  · have := h.1; simp at this; subst this; simp at hu
  · simp at hg; obtain ⟨rfl, rfl⟩ := hg
    rw [cell_of_row w g' j cur E (0, 0) hgg]
    rw [← htake, List.getElem?_take] at hu
    split at hu
    · simpa using hu
    · cases hu
end
theorem run_app {P : Program} (w : World) (base : Nat) (t ty e : TypeId) (i : TypeInfo) (z : Value) (size bytes : Nat) (ht : P.underlying t = some (.slice e)) (hi : P.info? e = some i) (hz : i.zero = some z)
    (hsize : i.size = size) (hby : i.bytes = bytes) (hzs : z.cells.size = size)
    (v : Value) (n : Nat) (xs : List Value) (hown : Own w base e size v n xs)
    (a : Addr) (m c : Nat) (news : List Value) (hl : news.length = m * size) (hnews : ∀ j u, news[j]? = some u → w.cell? (a.add j) = some u) (h1 : ∀ u ∈ news, u.oneCell' = true)
    (h63 : n + m ≤ maxLen) (hbytes : (n + m) * bytes ≤ 140737488355328) (hbase : base ≤ w.heap.size) :
    ∃ v' w', (Builtin.append_ #[t, t] ty #[v, .slice (some a) m c]).run P w = .ok v' w' ∧ Own w' base e size v' (n + m) (xs ++ news) ∧ w.grownBy w' (ownB v) ∧
      (ownB v' = ownB v ∨ ∀ k, ownB v' = some k → w.heap.size ≤ k) := by
  subst hsize
  subst hby
  have hsmall : n + m ≤ 9223372036854775807 := by simp only [maxLen] at h63; omega
  have hlen : (xs ++ news).length = (n + m) * i.size := by rw [List.length_append, hown.1, hl, Nat.add_mul]
  have grown : ∀ (old : Nat), old < n + m → ∀ (row : Option Nat),
      Own (w.drew.alloc (.cells (xs.toArray ++ news.toArray ++ Builtin.zeroCells z.cells (grownCap w (n + m) old e - (n + m))) e)) base e i.size
        (.slice (some ⟨w.heap.size, 0, none⟩) (n + m) (grownCap w (n + m) old e)) (n + m) (xs ++ news) ∧
      w.grownBy (w.drew.alloc (.cells (xs.toArray ++ news.toArray ++ Builtin.zeroCells z.cells (grownCap w (n + m) old e - (n + m))) e)) row ∧
      ∀ k, ownB (.slice (some ⟨w.heap.size, 0, none⟩) (n + m) (grownCap w (n + m) old e)) = some k → w.heap.size ≤ k := by
    intro old ho row
    have hge := grownCap_ge w (n + m) old e
    have hcm : grownCap w (n + m) old e ≤ maxLen := grownCap_le_maxLen w (n + m) old e h63
    refine ⟨⟨hlen, .inr ⟨w.heap.size, _, _, rfl, by omega, hbase, heap_alloc_new w.drew _, hge, hcm, ?_, ?_⟩⟩, ⟨rfl, rfl, rfl, by simp, fun k hk _ => Below.heap_alloc w.drew _ k hk⟩, ?_⟩
    · simp only [Array.size_append, List.size_toArray, size_zeroCells, hzs, hown.1, hl, ← Nat.add_mul]
      congr 1
      omega
    · simp only [Array.toList_append, List.append_assoc]
      rw [← List.append_assoc, ← hlen]
      exact List.take_left
    · intro k hk
      simp only [ownB] at hk
      split at hk
      · cases hk
      · simp only [Option.some.injEq] at hk; omega
  rcases hown.2 with ⟨rfl, ba, rfl⟩ | ⟨g, cap, cur, rfl, hcp, hbg, hg, hnc, hcm, hcs, htake⟩
  · have hx : xs = [] := List.eq_nil_of_length_eq_zero (by simpa using hown.1)
    subst hx
    by_cases hm : m = 0
    · subst hm
      have hn : news = [] := List.eq_nil_of_length_eq_zero (by simpa using hl)
      subst hn
      refine ⟨.slice ba 0 0, w, ?_, ⟨by simp, .inl ⟨rfl, ba, rfl⟩⟩, ⟨rfl, rfl, rfl, Nat.le_refl _, fun _ _ _ => rfl⟩, .inl rfl⟩
      cases ba <;> simp [Builtin.append_, run_underlying ht, sizeOf, typeInfo, hi, Builtin.lenOf, Builtin.firstCells, loadCells, loadCellsFrom, storeCells]
    · have hgr := grown 0 (by omega) (ownB (.slice ba 0 0))
      cases ba with
      | none =>
        have hr := run_append_nil (P := P) w t ty e i z ht hi hz a m c news hl hnews (by omega) (by omega) (by have hb := hbytes; simp only [Nat.zero_add] at hb; omega)
        simp only [Nat.zero_add, List.nil_append, Array.empty_append] at hgr ⊢
        exact ⟨_, _, hr, hgr.1, hgr.2.1, .inr hgr.2.2⟩
      | some b0 =>
        have hr := run_append_grow (P := P) w t ty e i z ht hi hz b0 0 0 [] (by simp) (by simp) a m c news hl hnews (by omega) (by omega) (growslice_fits (by omega) hbytes)
        simp only [Nat.zero_add, List.nil_append, Array.empty_append] at hgr hr ⊢
        exact ⟨_, _, hr, hgr.1, hgr.2.1, .inr hgr.2.2⟩
  · have hob : ∀ k, ownB (.slice (some ⟨g, 0, none⟩) k cap) = some g := fun k => by simp [ownB, Nat.pos_iff_ne_zero.1 hcp]
    by_cases hroom : n + m ≤ cap
    · have hfit : n * i.size + news.length ≤ cur.size := by rw [hl, hcs, ← Nat.add_mul]; exact Nat.mul_le_mul_right _ hroom
      have hr := run_append_room (P := P) w t ty e i ht hi g n cap cur hg a m c news hl hnews h1 hroom hfit
      refine ⟨_, _, hr, ⟨hlen, .inr ⟨g, cap, _, rfl, hcp, hbg, setRow_heap w g cur _ e _ hg, hroom, hcm, ?_, ?_⟩⟩, ⟨rfl, rfl, rfl, by simp, fun k _ hk => setRow_other w g k _ (fun e => hk (by rw [hob, e]))⟩, .inl (by rw [hob, hob])⟩
      · simp only [List.size_toArray, List.length_append, List.length_take, List.length_drop, Array.length_toList]
        omega
      · rw [htake, ← hlen]
        exact List.take_left
    · have holds : ∀ j u, xs[j]? = some u → w.cell? ((⟨g, 0, none⟩ : Addr).add j) = some u := by
        intro j u hu
        have hadd : (⟨g, 0, none⟩ : Addr).add j = ⟨g, j, none⟩ := by unfold Addr.add; split <;> simp_all
        rw [hadd]
        exact hown.cells rfl hcp j u hu
      have hr := run_append_grow (P := P) w t ty e i z ht hi hz ⟨g, 0, none⟩ n cap xs hown.1 holds a m c news hl hnews (by omega) (by omega) (growslice_fits (by omega) hbytes)
      have hgr := grown cap (by omega) (ownB (.slice (some ⟨g, 0, none⟩) n cap))
      exact ⟨_, _, hr, hgr.1, hgr.2.1, .inr hgr.2.2⟩
/-! ### the same, its elements told by R -/
section
variable {α : Type}
def OwnR (w : World) (base : Nat) (E : TypeId) (size : Nat) (R : (Nat → Prop) → World → α → List Value → Prop) (A : Nat → Prop) (xs : List α) (v : Value) : Prop :=
  ∃ vals : List (List Value), vals.length = xs.length ∧ Own w base E size v xs.length vals.flatten ∧
    ∀ (i : Nat) x (vs : List Value), xs[i]? = some x → vals[i]? = some vs → vs.length = size ∧ R (fun b => A b ∧ ownB v ≠ some b) w x vs
theorem OwnR.nil (w : World) (base : Nat) (E : TypeId) (size : Nat) (R : (Nat → Prop) → World → α → List Value → Prop) (A : Nat → Prop) : OwnR w base E size R A [] (.slice none 0 0) :=
  ⟨[], rfl, Own.nil w base E size, fun i x vs hx => by simp at hx⟩
theorem OwnR.keeps {w w' : World} {base : Nat} {E : TypeId} {size : Nat} {R : (Nat → Prop) → World → α → List Value → Prop} {A B : Nat → Prop} {xs : List α} {v : Value} (hR : Lasts R)
    (h : OwnR w base E size R A xs v) (hk : Keeps B w w') (hA : ∀ b, A b → B b) (hB : ∀ k, ownB v = some k → B k) : OwnR w' base E size R A xs v := by
  obtain ⟨vals, hl, ho, he⟩ := h
  refine ⟨vals, hl, ho.keeps hk hB, fun i x vs hx hv => ?_⟩
  obtain ⟨h1, h2⟩ := he i x vs hx hv
  exact ⟨h1, hR.1 _ w w' x vs h2 (hk.mono fun b _ hb => hA b hb.1)⟩
theorem OwnR.mono {w : World} {base : Nat} {E : TypeId} {size : Nat} {R : (Nat → Prop) → World → α → List Value → Prop} {A A' : Nat → Prop} {xs : List α} {v : Value} (hR : Lasts R)
    (h : OwnR w base E size R A xs v) (hA : ∀ b, b < w.heap.size → A b → A' b) : OwnR w base E size R A' xs v := by
  obtain ⟨vals, hl, ho, he⟩ := h
  refine ⟨vals, hl, ho, fun i x vs hx hv => ?_⟩
  obtain ⟨h1, h2⟩ := he i x vs hx hv
  exact ⟨h1, hR.2.1 _ _ _ _ _ h2 fun b hb hb' => ⟨hA b hb hb'.1, hb'.2⟩⟩
theorem OwnR.alloc {w : World} {base : Nat} {E : TypeId} {size : Nat} {R : (Nat → Prop) → World → α → List Value → Prop} {A : Nat → Prop} {xs : List α} {v : Value} (hR : Lasts R)
    (h : OwnR w base E size R A xs v) (o : Obj) : OwnR (w.alloc o) base E size R A xs v :=
  h.keeps hR (Keeps.alloc (fun _ => True) w o) (fun _ _ => trivial) (fun _ _ => trivial)
theorem OwnR.lt {w : World} {base : Nat} {E : TypeId} {size : Nat} {R : (Nat → Prop) → World → α → List Value → Prop} {A : Nat → Prop} {xs : List α} {v : Value}
    (h : OwnR w base E size R A xs v) : ∀ k, ownB v = some k → base ≤ k ∧ k < w.heap.size := by
  obtain ⟨vals, hl, ho, he⟩ := h
  exact ho.lt
theorem OwnR.val {w : World} {base : Nat} {E : TypeId} {size : Nat} {R : (Nat → Prop) → World → α → List Value → Prop} {A : Nat → Prop} {xs : List α} {v : Value}
    (h : OwnR w base E size R A xs v) : ∃ a cap, v = .slice a xs.length cap ∧ cap ≤ maxLen := by
  obtain ⟨vals, hl, ho, he⟩ := h
  exact ho.val
theorem flatten_len {size : Nat} : ∀ (vals : List (List Value)), (∀ (i : Nat) (vs : List Value), vals[i]? = some vs → vs.length = size) → vals.flatten.length = vals.length * size
  | [], _ => by simp
  | v :: r, h => by
    rw [List.flatten_cons, List.length_append, flatten_len r (fun i vs hi => h (i + 1) vs (by simpa using hi)), h 0 v rfl, List.length_cons, Nat.add_mul]
    omega
theorem flatten_get {size : Nat} : ∀ (vals : List (List Value)), (∀ (i : Nat) (vs : List Value), vals[i]? = some vs → vs.length = size) → ∀ (i j : Nat) (vs : List Value), vals[i]? = some vs → j < size → vals.flatten[i * size + j]? = vs[j]?
  | [], _, i, j, vs, hi, _ => by simp at hi
  | v :: r, h, 0, j, vs, hi, hj => by
    simp at hi; subst hi
    have := h 0 v rfl
    rw [List.flatten_cons, Nat.zero_mul, Nat.zero_add, List.getElem?_append_left (by omega)]
  | v :: r, h, i + 1, j, vs, hi, hj => by
    have h0 := h 0 v rfl
    rw [List.flatten_cons, List.getElem?_append_right (by rw [h0, Nat.add_mul]; omega), h0, show (i + 1) * size + j - size = i * size + j by rw [Nat.add_mul]; omega]
    exact flatten_get r (fun i vs hi => h (i + 1) vs (by simpa using hi)) i j vs (by simpa using hi) hj
theorem OwnR.sl {w : World} {base : Nat} {E : TypeId} {size : Nat} {R : (Nat → Prop) → World → α → List Value → Prop} {A : Nat → Prop} {xs : List α} {v : Value} (hR : Lasts R)
    (h : OwnR w base E size R A xs v) (hlen : xs.length ≤ 1048576) (hA : ∀ b, base ≤ b → A b) : SlR size R A w xs v := by
  obtain ⟨vals, hl, ho, he⟩ := h
  have hsz : ∀ (i : Nat) (vs : List Value), vals[i]? = some vs → vs.length = size := fun i vs hv => by
    have hi : i < xs.length := by have := (List.getElem?_eq_some_iff.1 hv).1; omega
    exact (he i _ vs (List.getElem?_eq_getElem hi) hv).1
  rcases ho.2 with ⟨h0, a, rfl⟩ | ⟨g, cap, cur, rfl, hc, hb, hg, hnc, hcm, hcs, htake⟩
  · have : xs = [] := List.eq_nil_of_length_eq_zero h0
    subst this
    exact ⟨0, 0, ⟨by simp, .inl ⟨rfl, a, 0, rfl, by simp [maxLen]⟩⟩, fun i x hx => by simp at hx⟩
  · by_cases h0 : xs.length = 0
    · have : xs = [] := List.eq_nil_of_length_eq_zero h0
      subst this
      exact ⟨0, 0, ⟨by simp, .inl ⟨rfl, _, cap, rfl, hcm⟩⟩, fun i x hx => by simp at hx⟩
    refine ⟨g, 0, ⟨hlen, .inr ⟨by omega, hA g hb, cap, rfl, hnc, hcm⟩⟩, fun i x hx => ?_⟩
    have hi : i < vals.length := by have := (List.getElem?_eq_some_iff.1 hx).1; omega
    have hv := List.getElem?_eq_getElem hi
    obtain ⟨h1, h2⟩ := he i x _ hx hv
    refine ⟨vals[i], h1, hR.2.1 _ _ w x _ h2 (fun b _ hb => hb.1), fun j u hj => ?_⟩
    have hjl : j < size := by have := (List.getElem?_eq_some_iff.1 hj).1; omega
    rw [Nat.zero_add]
    exact ho.cells rfl hc _ u (by rw [flatten_get vals hsz i j _ hv hjl]; exact hj)
theorem OwnR.sl' {w : World} {base : Nat} {E : TypeId} {size : Nat} {R : (Nat → Prop) → World → α → List Value → Prop} {A : Nat → Prop} {xs : List α} {v : Value} (hR : Lasts R)
    (h : OwnR w base E size R A xs v) (hlen : xs.length ≤ 1048576) (hA : ∀ b, ownB v = some b → A b) : SlR size R A w xs v := by
  obtain ⟨vals, hl, ho, he⟩ := h
  have hsz : ∀ (i : Nat) (vs : List Value), vals[i]? = some vs → vs.length = size := fun i vs hv => by
    have hi : i < xs.length := by have := (List.getElem?_eq_some_iff.1 hv).1; omega
    exact (he i _ vs (List.getElem?_eq_getElem hi) hv).1
  rcases ho.2 with ⟨h0, a, rfl⟩ | ⟨g, cap, cur, rfl, hc, hb, hg, hnc, hcm, hcs, htake⟩
  · have : xs = [] := List.eq_nil_of_length_eq_zero h0
    subst this
    exact ⟨0, 0, ⟨by simp, .inl ⟨rfl, a, 0, rfl, by simp [maxLen]⟩⟩, fun i x hx => by simp at hx⟩
  · by_cases h0 : xs.length = 0
    · have : xs = [] := List.eq_nil_of_length_eq_zero h0
      subst this
      exact ⟨0, 0, ⟨by simp, .inl ⟨rfl, _, cap, rfl, hcm⟩⟩, fun i x hx => by simp at hx⟩
    refine ⟨g, 0, ⟨hlen, .inr ⟨by omega, hA g (by simp [ownB, Nat.pos_iff_ne_zero.1 hc]), cap, rfl, hnc, hcm⟩⟩, fun i x hx => ?_⟩
    have hi : i < vals.length := by have := (List.getElem?_eq_some_iff.1 hx).1; omega
    have hv := List.getElem?_eq_getElem hi
    obtain ⟨h1, h2⟩ := he i x _ hx hv
    refine ⟨vals[i], h1, hR.2.1 _ _ w x _ h2 (fun b _ hb => hb.1), fun j u hj => ?_⟩
    have hjl : j < size := by have := (List.getElem?_eq_some_iff.1 hj).1; omega
    rw [Nat.zero_add]
    exact ho.cells rfl hc _ u (by rw [flatten_get vals hsz i j _ hv hjl]; exact hj)
theorem run_appR {P : Program} (w : World) (base : Nat) (t ty e : TypeId) (i : TypeInfo) (z : Value) (size bytes : Nat) (ht : P.underlying t = some (.slice e)) (hi : P.info? e = some i) (hz : i.zero = some z)
    (hsize : i.size = size) (hby : i.bytes = bytes) (hzs : z.cells.size = size) (hs0 : 0 < size) {R : (Nat → Prop) → World → α → List Value → Prop} (hR : Lasts R) {A : Nat → Prop}
    (v : Value) (xs : List α) (hown : OwnR w base e size R A xs v)
    (gb off c : Nat) (ys : List α) (hys : Elems (fun b => A b ∧ ownB v ≠ some b) w size R ys gb off)
    (h63 : xs.length + ys.length ≤ maxLen) (hbytes : (xs.length + ys.length) * bytes ≤ 140737488355328) (hbase : base ≤ w.heap.size) :
    ∃ v' w', (Builtin.append_ #[t, t] ty #[v, .slice (some ⟨gb, off, none⟩) ys.length c]).run P w = .ok v' w' ∧ OwnR w' base e size R A (xs ++ ys) v' ∧ w.grownBy w' (ownB v) ∧
      (ownB v' = ownB v ∨ ∀ k, ownB v' = some k → w.heap.size ≤ k) := by
  obtain ⟨vals, hl, ho, he⟩ := hown
  have hch : ∀ n, n ≤ ys.length → ∃ nv : List (List Value), nv.length = n ∧ ∀ (i : Nat) x (vs : List Value), ys[i]? = some x → nv[i]? = some vs → vs.length = size ∧ R (fun b => A b ∧ ownB v ≠ some b) w x vs ∧ RowAt w gb (off + i * size) vs := by
    intro n
    induction n with
    | zero => exact fun _ => ⟨[], rfl, fun i x vs _ h => by simp at h⟩
    | succ n ih =>
      intro hn
      obtain ⟨nv, h1, h2⟩ := ih (by omega)
      obtain ⟨vs, h3, h4, h5⟩ := hys n _ (List.getElem?_eq_getElem (by omega))
      refine ⟨nv ++ [vs], by simp [h1], fun i x us hx hu => ?_⟩
      by_cases hin : i < n
      · rw [List.getElem?_append_left (by omega)] at hu
        exact h2 i x us hx hu
      · have : i = n := by have := (List.getElem?_eq_some_iff.1 hu).1; simp at this; omega
        subst this
        rw [List.getElem?_append_right (by omega), h1] at hu
        simp at hu
        subst hu
        rw [List.getElem?_eq_getElem (by omega)] at hx
        simp at hx; subst hx
        exact ⟨h3, h4, h5⟩
  obtain ⟨nv, hnl, hn⟩ := hch ys.length (Nat.le_refl _)
  have hsz : ∀ (i : Nat) (vs : List Value), nv[i]? = some vs → vs.length = size := fun i vs hv => by
    have hi : i < ys.length := by have := (List.getElem?_eq_some_iff.1 hv).1; omega
    exact (hn i _ vs (List.getElem?_eq_getElem hi) hv).1
  have hfl := flatten_len nv hsz
  have hcell : ∀ j u, nv.flatten[j]? = some u → w.cell? ((⟨gb, off, none⟩ : Addr).add j) = some u := by
    intro j u hj
    have hjl : j < nv.length * size := by have := (List.getElem?_eq_some_iff.1 hj).1; omega
    have hadd : (⟨gb, off, none⟩ : Addr).add j = ⟨gb, off + j, none⟩ := by unfold Addr.add; split <;> simp_all
    have hdm : j = j / size * size + j % size := by rw [Nat.mul_comm]; exact (Nat.div_add_mod j size).symm
    have hi : j / size < nv.length := Nat.div_lt_of_lt_mul (by rw [Nat.mul_comm]; exact hjl)
    have hv := List.getElem?_eq_getElem hi
    have hx : ys[j / size]? = some (ys[j / size]'(by omega)) := List.getElem?_eq_getElem (by omega)
    obtain ⟨h1, h2, h3⟩ := hn (j / size) _ _ hx hv
    rw [hdm, flatten_get nv hsz _ _ _ hv (Nat.mod_lt _ hs0)] at hj
    have := h3 _ u hj
    rw [hadd, show off + j = off + j / size * size + j % size by omega]
    exact this
  have h1 : ∀ u ∈ nv.flatten, u.oneCell' = true := by
    intro u hu
    obtain ⟨vs, hvs, huv⟩ := List.mem_flatten.1 hu
    obtain ⟨i, hi, rfl⟩ := List.mem_iff_getElem.1 hvs
    have hv := List.getElem?_eq_getElem hi
    have hx : ys[i]? = some (ys[i]'(by omega)) := List.getElem?_eq_getElem (by omega)
    exact hR.2.2 _ _ _ _ (hn i _ _ hx hv).2.1 u huv
  obtain ⟨v', w', hrun, hown', hg, hb⟩ := run_app w base t ty e i z size bytes ht hi hz hsize hby hzs v xs.length _ ho ⟨gb, off, none⟩ ys.length c nv.flatten (by rw [hfl, hnl]) hcell h1 h63 hbytes hbase
  refine ⟨v', w', hrun, ⟨vals ++ nv, by simp [hl, hnl], ?_, ?_⟩, hg, hb⟩
  · simpa using hown'
  · have hkeep : ∀ x vs, R (fun b => A b ∧ ownB v ≠ some b) w x vs → R (fun b => A b ∧ ownB v' ≠ some b) w' x vs := by
      intro x vs hr
      have h2 : R (fun b => (A b ∧ ownB v' ≠ some b) ∧ ownB v ≠ some b) w x vs := by
        refine hR.2.1 _ _ w x vs hr fun b hbl hb' => ⟨⟨hb'.1, ?_⟩, hb'.2⟩
        rcases hb with hb | hb
        · rw [hb]; exact hb'.2
        · intro e; have := hb b e; omega
      have h3 := hR.1 _ w w' x vs h2 (Keeps.grown hg fun b hb' => hb'.2)
      exact hR.2.1 _ _ w' x vs h3 fun b _ hb' => hb'.1
    intro i x vs hx hv
    by_cases hi' : i < xs.length
    · rw [List.getElem?_append_left (by omega)] at hx hv
      obtain ⟨h1, h2⟩ := he i x vs hx hv
      exact ⟨h1, hkeep _ _ h2⟩
    · rw [List.getElem?_append_right (by omega)] at hx hv
      rw [hl] at hv
      obtain ⟨h1, h2, _⟩ := hn _ x vs hx hv
      exact ⟨h1, hkeep _ _ h2⟩
end
def ElemTy (P : Program) (t e : TypeId) (size bytes : Nat) : Prop :=
  (∃ i z, P.underlying t = some (.slice e) ∧ P.info? e = some i ∧ i.zero = some z ∧ i.size = size ∧ i.bytes = bytes ∧ z.cells.size = size) ∧ 0 < size ∧ bytes ≤ 256
theorem ElemTy.mk' {P : Program} {t e : TypeId} {size bytes : Nat} {z : Value} (ht : P.underlying t = some (.slice e)) (hi : (P.info? e).map (fun i => (i.zero, i.size, i.bytes)) = some (some z, size, bytes))
    (hz : z.cells.size = size) (h0 : 0 < size) (hb : bytes ≤ 256) : ElemTy P t e size bytes := by
  obtain ⟨i0, hi0, h1, h2, h3⟩ := info_parts hi
  exact ⟨⟨i0, z, ht, hi0, h1, h2, h3, hz⟩, h0, hb⟩
structure Grew (w w' : World) (v v' : Value) : Prop where
  grown : w.grownBy w' (ownB v)
  block : ownB v' = ownB v ∨ ∀ k, ownB v' = some k → w.heap.size ≤ k
theorem Grew.below {B : Nat} {w0 w w' : World} {v v' : Value} (h : Grew w w' v v') (hb : Below B w0 w) (hB : B ≤ w.heap.size) (hv : ∀ k, ownB v = some k → B ≤ k) : Below B w0 w' :=
  hb.grown h.grown hB hv
theorem Grew.ch {M : Nat → Prop} {w0 w w' : World} {v v' : Value} (h : Grew w w' v v') (hb : Ch M w0 w) (hv : ∀ k, ownB v = some k → M k ∨ w0.heap.size ≤ k) : Ch M w0 w' := hb.grown h.grown hv
theorem Grew.size {w w' : World} {v v' : Value} (h : Grew w w' v v') : w.heap.size ≤ w'.heap.size := h.grown.size
theorem Grew.keeps {A : Nat → Prop} {w w' : World} {v v' : Value} (h : Grew w w' v v') (hA : ∀ b, A b → ownB v ≠ some b) : Keeps A w w' := Keeps.grown h.grown hA
section
variable {α : Type}
theorem elems_one {A : Nat → Prop} {w : World} {size : Nat} {R : (Nat → Prop) → World → α → List Value → Prop} (hR : Lasts R) {x : α} {vs : List Value} (E : TypeId) (hl : vs.length = size) (h : R A w x vs) :
    Elems A (w.alloc (.cells vs.toArray E)) size R [x] w.heap.size 0 := by
  intro i y hy
  cases i with
  | succ i => simp at hy
  | zero =>
    simp at hy; subst hy
    refine ⟨vs, hl, hR.1 _ _ _ _ _ h (Keeps.alloc _ _ _), fun j u hj => ?_⟩
    simp only [Nat.zero_mul, Nat.zero_add, World.cell?_alloc_new]
    simpa using hj
theorem wp_app1 {P : Program} {w : World} {o : Oper} {a : Act} {K : Act → World → Prop} {Q : Exit → Act → World → Prop} (s x : Operand) (t : TypeId)
    (ho : o.op = .call { callee := .builtin .append, args := #[s, x], argTypes := #[t, t] })
    (base : Nat) (e : TypeId) (size bytes : Nat) (hty : ElemTy P t e size bytes) {R : (Nat → Prop) → World → α → List Value → Prop} (hR : Lasts R) {A : Nat → Prop}
    (v : Value) (xs : List α) (hs : a.eval s = v) (hown : OwnR w base e size R A xs v)
    (y : α) (vs : List Value) (hx : a.eval x = .slice (some ⟨w.heap.size, 0, none⟩) 1 1) (hvl : vs.length = size) (hvs : R (fun b => A b ∧ ownB v ≠ some b) w y vs)
    (hlen : xs.length < 4194304 ∧ base ≤ w.heap.size)
    (h : ∀ v' w', OwnR w' base e size R A (xs ++ [y]) v' → Grew (w.alloc (.cells vs.toArray e)) w' v v' → K (a.put o.dst v') w') :
    o.wp P a (w.alloc (.cells vs.toArray e)) K Q := by
  obtain ⟨⟨i, z, ht, hi, hz, h1, h2, h3⟩, h0, hb⟩ := hty
  have hmul : (xs.length + [y].length) * bytes ≤ (xs.length + [y].length) * 256 := Nat.mul_le_mul_left _ hb
  obtain ⟨v', w', hr, k1, k2, k3⟩ := run_appR (P := P) (w.alloc (.cells vs.toArray e)) base t o.type e i z size bytes ht hi hz h1 h2 h3 h0 hR v xs (hown.alloc hR _) w.heap.size 0 1 [y] (elems_one hR e hvl hvs)
    (by simp only [maxLen, List.length_singleton]; omega) (by simp only [List.length_singleton] at hmul ⊢; omega) (by simp only [World.size_alloc]; omega)
  unfold Oper.wp execOp
  simp only [ho, resolve, invoke, builtin, Sem.run_bind, Sem.run_pure, Result.andThen_ok, List.map_toArray, List.map_cons, List.map_nil, hs, hx]
  rw [show ([y] : List α).length = 1 from rfl] at hr
  rw [hr]
  exact h v' w' k1 ⟨k2, k3⟩
theorem wpList_app1 {P : Program} {w : World} {ops : Array Oper} {rest : List Oper} {o : Oper} {a : Act} {Q : Exit → Act → World → Prop} (hgd : o.guard = none) (s x : Operand) (t : TypeId)
    (ho : o.op = .call { callee := .builtin .append, args := #[s, x], argTypes := #[t, t] })
    (base : Nat) (e : TypeId) (size bytes : Nat) (hty : ElemTy P t e size bytes) {R : (Nat → Prop) → World → α → List Value → Prop} (hR : Lasts R) {A : Nat → Prop}
    (v : Value) (xs : List α) (hs : a.eval s = v) (hown : OwnR w base e size R A xs v)
    (y : α) (vs : List Value) (hx : a.eval x = .slice (some ⟨w.heap.size, 0, none⟩) 1 1) (hvl : vs.length = size) (hvs : R (fun b => A b ∧ ownB v ≠ some b) w y vs)
    (hlen : xs.length < 4194304 ∧ base ≤ w.heap.size)
    (h : ∀ v' w', OwnR w' base e size R A (xs ++ [y]) v' → Grew (w.alloc (.cells vs.toArray e)) w' v v' → wpList P ops Q rest (a.put o.dst v') w') :
    wpList P ops Q (o :: rest) a (w.alloc (.cells vs.toArray e)) :=
  wpList_plain hgd fun _ hK => wp_app1 s x t ho base e size bytes hty hR v xs hs hown y vs hx hvl hvs hlen fun v' w' k1 k2 => hK _ _ (h v' w' k1 k2)
end
end Go.Proofs.YtlpmfkpefoegeacDoor
