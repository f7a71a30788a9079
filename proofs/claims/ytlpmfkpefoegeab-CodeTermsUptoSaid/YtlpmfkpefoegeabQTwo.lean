/-
  Two lists of terms of a call's own, each grown by append; an append's step; two operations that may come up.
-/
import Derived.Test.YtlpmfkpefoegeabQCopyHeap
namespace Go.Proofs.Ytlpmfkpefoegeab
set_option linter.unusedVariables false
set_option linter.unusedSimpArgs false
open Go.RowKit

/-- none of the two lists' own blocks -/
def Out (B : Nat) (av bv : Value) (b : Nat) : Prop := B ≤ b ∧ ownB av ≠ some b ∧ ownB bv ≠ some b

structure Two (B : Nat) (w : World) (la lb : List Tm) (av bv : Value) : Prop where
  a : OwnR w B 24 4 Tm.rep (fun b => B ≤ b ∧ ownB bv ≠ some b) la av
  b : OwnR w B 24 4 Tm.rep (fun b => B ≤ b ∧ ownB av ≠ some b) lb bv
  sep : ∀ k, ownB av = some k → ownB bv ≠ some k

theorem Two.swap {B : Nat} {w : World} {la lb : List Tm} {av bv : Value} (h : Two B w la lb av bv) : Two B w lb la bv av :=
  ⟨h.b, h.a, fun k h1 h2 => h.sep k h2 h1⟩
theorem Two.nil (B : Nat) (w : World) : Two B w [] [] (.slice none 0 0) (.slice none 0 0) := ⟨OwnR.nil .., OwnR.nil .., fun k h => by simp [ownB] at h⟩
theorem Two.keeps {B : Nat} {w w' : World} {la lb : List Tm} {av bv : Value} (h : Two B w la lb av bv) (hk : Keeps (fun b => B ≤ b) w w') : Two B w' la lb av bv :=
  ⟨h.a.keeps Tm.rep_lasts hk (fun _ h => h.1) (fun k e => (h.a.lt k e).1), h.b.keeps Tm.rep_lasts hk (fun _ h => h.1) (fun k e => (h.b.lt k e).1), h.sep⟩
theorem Two.below {B : Nat} {w w' : World} {la lb : List Tm} {av bv : Value} (h : Two B w la lb av bv) (hb : Below w.heap.size w w') : Two B w' la lb av bv := h.keeps (Keeps.of_below hb)

/-- what an append onto the first asks for -/
theorem Two.src {B : Nat} {w : World} {la lb ys : List Tm} {av bv x : Value} (h : Two B w la lb av bv) (hx : TmsR (Out B av bv) w ys x) :
    SlR 4 Tm.rep (fun b => (B ≤ b ∧ ownB bv ≠ some b) ∧ ownB av ≠ some b) w ys x := SlR.mono Tm.rep_lasts (by omega) hx (fun b _ hb => ⟨⟨hb.1, hb.2.2⟩, hb.2.1⟩)

theorem Grew.new {w w' : World} {v v' : Value} (h : Grew w w' v v') {b : Nat} (hb : b < w.heap.size) (hn : ownB v ≠ some b) : ownB v' ≠ some b := fun e => by
  rcases h.block with h1 | h1
  · exact hn (h1 ▸ e)
  · have := h1 b e; omega

theorem Two.app {B : Nat} {w w' : World} {la lb ys : List Tm} {av bv v' : Value} (h : Two B w la lb av bv) (h1 : OwnR w' B 24 4 Tm.rep (fun b => B ≤ b ∧ ownB bv ≠ some b) (la ++ ys) v') (hg : Grew w w' av v') :
    Two B w' (la ++ ys) lb v' bv := by
  refine ⟨h1, ?_, fun k e e2 => ?_⟩
  · have h2 := h.b.mono (A' := fun b => (B ≤ b ∧ ownB av ≠ some b) ∧ ownB v' ≠ some b) Tm.rep_lasts (fun b hb hb' => ⟨hb', hg.new hb hb'.2⟩)
    have h3 := h2.keeps (B := fun b => ownB av ≠ some b) Tm.rep_lasts (hg.keeps (fun _ h => h)) (fun b hb => hb.1.2) (fun k e e2 => h.sep k e2 e)
    exact h3.mono Tm.rep_lasts (fun b _ hb => ⟨hb.1.1, hb.2⟩)
  · exact hg.new (h.b.lt k e2).2 (fun e3 => h.sep k e3 e2) e

theorem Out.app {B : Nat} {w w' : World} {av bv v' z : Value} {zs : List Tm} (hg : Grew w w' av v') (hz : TmsR (Out B av bv) w zs z) : TmsR (Out B v' bv) w' zs z := by
  have h2 := SlR.mono (A' := fun b => Out B av bv b ∧ ownB v' ≠ some b) Tm.rep_lasts (by omega) hz (fun b hb hb' => ⟨hb', hg.new hb hb'.2.1⟩)
  have h3 := SlR.keeps Tm.rep_lasts h2 (hg.keeps (A := fun b => Out B av bv b ∧ ownB v' ≠ some b) (fun b hb => hb.1.2.1))
  exact SlR.mono Tm.rep_lasts (by omega) h3 (fun b _ hb => ⟨hb.1.1, hb.2, hb.1.2.2⟩)

theorem Out.appT {B : Nat} {w w' : World} {av bv v' : Value} {t : Tm} {us : List Value} (hg : Grew w w' av v') (hz : Tm.rep (Out B av bv) w t us) : Tm.rep (Out B v' bv) w' t us := by
  have h2 := Tm.rep_lasts.2.1 _ (fun b => Out B av bv b ∧ ownB v' ≠ some b) _ _ _ hz (fun b hb hb' => ⟨hb', hg.new hb hb'.2.1⟩)
  have h3 := Tm.rep_lasts.1 _ _ _ _ _ h2 (hg.keeps (A := fun b => Out B av bv b ∧ ownB v' ≠ some b) (fun b hb => hb.1.2.1))
  exact Tm.rep_lasts.2.1 _ _ _ _ _ h3 (fun b _ hb => ⟨hb.1.1, hb.2, hb.1.2.2⟩)

theorem Out.swap {B : Nat} {w : World} {av bv z : Value} {zs : List Tm} (hz : TmsR (Out B av bv) w zs z) : TmsR (Out B bv av) w zs z :=
  SlR.mono Tm.rep_lasts (by omega) hz (fun b _ hb => ⟨hb.1, hb.2.2, hb.2.1⟩)
theorem Out.swapT {B : Nat} {w : World} {av bv : Value} {t : Tm} {us : List Value} (hz : Tm.rep (Out B av bv) w t us) : Tm.rep (Out B bv av) w t us :=
  Tm.rep_lasts.2.1 _ _ _ _ _ hz (fun b _ hb => ⟨hb.1, hb.2.2, hb.2.1⟩)

/-- a block just made, of one term: it is read as a slice -/
theorem Out.made {B : Nat} {w : World} {av bv : Value} {la lb : List Tm} {t : Tm} {us : List Value} (h : Two B w la lb av bv) (hB : B ≤ w.heap.size) (ht : Tm.rep (Out B av bv) w t us) :
    TmsR (Out B av bv) (w.alloc (.cells us.toArray 24)) [t] (.slice (some ⟨w.heap.size, 0, none⟩) 1 1) := by
  have hl := Tm.rep_lasts.2.2
  refine ⟨w.heap.size, 0, ⟨by simp, .inr ⟨by simp, ⟨hB, fun e => by have := (h.a.lt _ e).2; omega, fun e => by have := (h.b.lt _ e).2; omega⟩, 1, rfl, by simp, by simp [maxLen]⟩⟩, ?_⟩
  exact elems_one Tm.rep_lasts _ (by obtain ⟨a, c, rfl, -⟩ := Tm.rep4 ht; rfl) ht

section
variable {P : Program} {ops : Array Oper} {Q : Exit → Act → World → Prop}
theorem wp_appS {w : World} {o : Oper} {a : Act} {K : Act → World → Prop} (s x : Operand) (t : TypeId)
    (ho : o.op = .call { callee := .builtin .append, args := #[s, x], argTypes := #[t, t] })
    (base : Nat) (e : TypeId) (size bytes : Nat) (hty : ElemTy P t e size bytes) {α : Type} {R : (Nat → Prop) → World → α → List Value → Prop} (hR : Lasts R) {A : Nat → Prop}
    (v : Value) (xs : List α) (hs : a.eval s = v) (hown : OwnR w base e size R A xs v) (xv : Value) (hxv : a.eval x = xv) (ys : List α) (hx : SlR size R (fun b => A b ∧ ownB v ≠ some b) w ys xv)
    (hlen : xs.length + ys.length ≤ 4194304) (hbase : base ≤ w.heap.size)
    (h : ∀ v' w', OwnR w' base e size R A (xs ++ ys) v' → Grew w w' v v' → K (a.put o.dst v') w') : o.wp P a w K Q := by
  obtain ⟨v', w', hr, k1, k2⟩ := run_appS (P := P) w base t o.type e size bytes hty hR v xs hown xv ys hx hlen hbase
  unfold Oper.wp execOp
  simp only [ho, resolve, invoke, builtin, Sem.run_bind, Sem.run_pure, Result.andThen_ok, List.map_toArray, List.map_cons, List.map_nil, hs, hxv, hr]
  exact h v' w' k1 k2

theorem wpAnyF_two {F : Nat → World → Prop} {i j : Nat} {fuel : Nat} {listed : Array Bool} {a : Act} {w : World} (hr : Region.ready .any ops listed = [i, j])
    (h1 : wpOp P ops Q i (fun a' w' => KeepF ops F i w w' ∧ wpAnyF P ops Q F fuel (listed.setIfInBounds i true) a' w') a w)
    (h2 : wpOp P ops Q j (fun a' w' => KeepF ops F j w w' ∧ wpAnyF P ops Q F fuel (listed.setIfInBounds j true) a' w') a w) : wpAnyF P ops Q F (fuel + 1) listed a w :=
  ⟨fun h0 => (by rw [hr] at h0; cases h0), fun k hk => (by
    rw [hr] at hk
    simp only [List.mem_cons, List.not_mem_nil, or_false] at hk
    rcases hk with rfl | rfl
    · exact h1
    · exact h2)⟩
end
end Go.Proofs.Ytlpmfkpefoegeab
