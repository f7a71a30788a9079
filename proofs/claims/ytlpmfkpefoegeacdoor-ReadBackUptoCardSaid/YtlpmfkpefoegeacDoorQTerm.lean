/-
  Terms, cells, clauses, events: how they lie in memory.
-/
import Derived.Test.YtlpmfkpefoegeacDoorQLib
namespace Go.Proofs.YtlpmfkpefoegeacDoor
set_option linter.unusedVariables false
set_option linter.unusedSimpArgs false
open Go.RowKit
inductive Tm where
  | mk (kind n : Int) (s : ByteArray) (args : List Tm)
  deriving Inhabited
namespace Tm
def kind : Tm → Int | mk k _ _ _ => k
def n : Tm → Int | mk _ n _ _ => n
def s : Tm → ByteArray | mk _ _ s _ => s
def args : Tm → List Tm | mk _ _ _ l => l
theorem induct {P : Tm → Prop} (h : ∀ k n s l, (∀ t ∈ l, P t) → P (mk k n s l)) : ∀ t, P t := by
  intro t
  refine Tm.rec (motive_1 := P) (motive_2 := fun l => ∀ t ∈ l, P t) (fun k n s l ih => h k n s l ih) (fun t ht => by cases ht) (fun x r hx hr t ht => ?_) t
  cases ht with
  | head => exact hx
  | tail _ hm => exact hr t hm
mutual
/-- how a term's four cells read -/
def rep (A : Nat → Prop) (w : World) : Tm → List Value → Prop
  | mk k n s l, vs => I64 k ∧ I64 n ∧ s.size ≤ 1048576 ∧ ∃ v b off, vs = [.int .i64 k, .int .i64 n, .string s, v] ∧ SlIs A l.length v b off ∧ repL A w l b off
def repL (A : Nat → Prop) (w : World) : List Tm → Nat → Nat → Prop
  | [], _, _ => True
  | t :: r, b, off => (∃ vs, rep A w t vs ∧ RowAt w b off vs) ∧ repL A w r b (off + 4)
end
theorem rep_len {A : Nat → Prop} {w : World} {t : Tm} {vs : List Value} (h : rep A w t vs) : vs.length = 4 := by
  cases t; simp only [rep] at h; obtain ⟨_, _, _, v, b, off, rfl, _⟩ := h; rfl
theorem repL_iff {A : Nat → Prop} {w : World} (l : List Tm) : ∀ (b off : Nat), repL A w l b off ↔ Elems A w 4 rep l b off := by
  induction l with
  | nil => intro b off; simp [repL, Elems]
  | cons t r ih =>
    intro b off
    simp only [repL, ih]
    constructor
    · rintro ⟨⟨vs, h1, h2⟩, h3⟩ i x hx
      cases i with
      | zero => simp at hx; subst hx; exact ⟨vs, rep_len h1, h1, by simpa using h2⟩
      | succ i =>
        obtain ⟨us, h4, h5, h6⟩ := h3 i x (by simpa using hx)
        exact ⟨us, h4, h5, by rw [show off + (i + 1) * 4 = off + 4 + i * 4 by omega]; exact h6⟩
    · intro h
      refine ⟨?_, fun i x hx => ?_⟩
      · obtain ⟨vs, _, h1, h2⟩ := h 0 t rfl
        exact ⟨vs, h1, by simpa using h2⟩
      · obtain ⟨vs, h1, h2, h3⟩ := h (i + 1) x (by simpa using hx)
        exact ⟨vs, h1, h2, by rw [show off + 4 + i * 4 = off + (i + 1) * 4 by omega]; exact h3⟩
theorem rep_iff {A : Nat → Prop} {w : World} {k n : Int} {s : ByteArray} {l : List Tm} {vs : List Value} :
    rep A w (mk k n s l) vs ↔ I64 k ∧ I64 n ∧ s.size ≤ 1048576 ∧ ∃ v, vs = [.int .i64 k, .int .i64 n, .string s, v] ∧ SlR 4 rep A w l v := by
  simp only [rep, repL_iff, SlR]
  constructor
  · rintro ⟨h1, h2, h3, v, b, off, rfl, h4, h5⟩
    exact ⟨h1, h2, h3, v, rfl, b, off, h4, h5⟩
  · rintro ⟨h1, h2, h3, v, rfl, b, off, h4, h5⟩
    exact ⟨h1, h2, h3, v, b, off, rfl, h4, h5⟩
theorem rep_lasts : Lasts rep := by
  refine ⟨fun A w w' t => ?_, fun A A' w t => ?_, fun A w t vs h => ?_⟩
  · induction t using induct with
    | h k n s l ih =>
      intro vs h hk
      rw [rep_iff] at h ⊢
      obtain ⟨h1, h2, h3, v, rfl, b, off, h4, h5⟩ := h
      refine ⟨h1, h2, h3, v, rfl, b, off, h4, fun i x hx => ?_⟩
      obtain ⟨us, h6, h7, h8⟩ := h5 i x hx
      have hA : A b := by
        obtain ⟨_, ⟨h0, _⟩ | ⟨_, hA, _⟩⟩ := h4
        · have := (List.getElem?_eq_some_iff.1 hx).1; omega
        · exact hA
      exact ⟨us, h6, ih x (List.mem_of_getElem? hx) us h7 hk, h8.keeps hA hk⟩
  · induction t using induct with
    | h k n s l ih =>
      intro vs h hk
      rw [rep_iff] at h ⊢
      obtain ⟨h1, h2, h3, v, rfl, b, off, h4, h5⟩ := h
      refine ⟨h1, h2, h3, v, rfl, b, off, ?_, fun i x hx => ?_⟩
      · by_cases hl : l = []
        · subst hl
          obtain ⟨h6, h7 | ⟨h7, _⟩⟩ := h4
          · exact ⟨h6, .inl h7⟩
          · simp at h7
        · exact h4.mono (hk b (h5.block_lt (by omega) hl))
      · obtain ⟨us, h6, h7, h8⟩ := h5 i x hx
        exact ⟨us, h6, ih x (List.mem_of_getElem? hx) us h7 hk, h8⟩
  · cases t with
    | mk k n s l =>
      rw [rep_iff] at h
      obtain ⟨_, _, _, v, rfl, b, off, h4, _⟩ := h
      obtain ⟨a, cap, rfl, _⟩ := h4.val
      simp [Value.oneCell']
theorem rep4 {A : Nat → Prop} {w : World} {t : Tm} {vs : List Value} (h : rep A w t vs) :
    ∃ a cap, vs = [.int .i64 t.kind, .int .i64 t.n, .string t.s, .slice a t.args.length cap] ∧ I64 t.kind ∧ I64 t.n ∧ t.s.size ≤ 1048576 ∧ t.args.length ≤ cap ∧ cap ≤ maxLen ∧ t.args.length ≤ 1048576 ∧
      SlR 4 rep A w t.args (.slice a t.args.length cap) := by
  cases t with
  | mk k n s l =>
    rw [rep_iff] at h
    obtain ⟨h1, h2, h3, v, rfl, h4⟩ := h
    obtain ⟨a, cap, b, off, rfl, h5, h6, h7, _, _⟩ := h4.at
    exact ⟨a, cap, rfl, h1, h2, h3, h5, h6, h7, h4⟩
end Tm
theorem rowAt4 {w : World} {b off : Nat} {v0 v1 v2 v3 : Value} (h : RowAt w b off [v0, v1, v2, v3]) :
    w.cell? ⟨b, off, none⟩ = some v0 ∧ w.cell? ⟨b, off + 1, none⟩ = some v1 ∧ w.cell? ⟨b, off + 2, none⟩ = some v2 ∧ w.cell? ⟨b, off + 3, none⟩ = some v3 :=
  ⟨h 0 _ rfl, h 1 _ rfl, h 2 _ rfl, h 3 _ rfl⟩
theorem tm_cells {A : Nat → Prop} {w wr : World} {l : List Tm} {b off : Nat} (he : Elems A w 4 Tm.rep l b off) (hA : A b) (hk : Keeps A w wr) {k : Nat} (hlt : k < l.length) :
    ∃ a cap, wr.cell? ⟨b, off + k * 4, none⟩ = some (.int .i64 l[k].kind) ∧ wr.cell? ⟨b, off + k * 4 + 1, none⟩ = some (.int .i64 l[k].n) ∧ wr.cell? ⟨b, off + k * 4 + 2, none⟩ = some (.string l[k].s) ∧
      wr.cell? ⟨b, off + k * 4 + 3, none⟩ = some (.slice a l[k].args.length cap) ∧ Tm.rep A wr l[k] [.int .i64 l[k].kind, .int .i64 l[k].n, .string l[k].s, .slice a l[k].args.length cap] := by
  obtain ⟨vs, hvl, hvr, hrow⟩ := he k _ (List.getElem?_eq_getElem hlt)
  have hvr' := Tm.rep_lasts.1 _ _ wr _ _ hvr hk
  have hrow' := RowAt.keeps hA hrow hk
  obtain ⟨sa, sc, rfl, -⟩ := Tm.rep4 hvr
  obtain ⟨c0, c1, c2, c3⟩ := rowAt4 hrow'
  exact ⟨sa, sc, c0, c1, c2, c3, hvr'⟩
abbrev TmsR := SlR 4 Tm.rep
theorem TmsR.below {A : Nat → Prop} {w w' : World} {l : List Tm} {v : Value} (h : TmsR A w l v) (hk : Below w.heap.size w w') : TmsR A w' l v := SlR.keeps Tm.rep_lasts h (Keeps.of_below hk)
end Go.Proofs.YtlpmfkpefoegeacDoor
