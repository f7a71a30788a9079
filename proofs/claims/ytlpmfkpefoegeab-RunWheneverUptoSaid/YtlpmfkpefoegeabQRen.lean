/-
  Variables renumbered, with a state that goes along.
-/
import Derived.Test.YtlpmfkpefoegeabQLib
import Derived.Test.YtlpmfkpefoegeabProg
import Derived.Deep.RegionHeld
namespace Go.Proofs.Ytlpmfkpefoegeab
set_option linter.unusedVariables false
set_option linter.unusedSimpArgs false
open Go.RowKit
inductive Tm where
  | mk (kind n : Int) (s : ByteArray) (args : List Tm)
  deriving Inhabited
namespace Tm
def kind : Tm → Int | mk k _ _ _ => k
def n : Tm → Int | mk _ n _ _ => n
def s : Tm → ByteArray | mk _ _ s _ => s
def args : Tm → List Tm | mk _ _ _ l => l
theorem induct {P : Tm → Prop} (h : ∀ k n s l, (∀ t ∈ l, P t) → P (mk k n s l)) : ∀ t, P t := by
  intro t
  refine Tm.rec (motive_1 := P) (motive_2 := fun l => ∀ t ∈ l, P t) (fun k n s l ih => h k n s l ih) (fun t ht => by cases ht) (fun x r hx hr t ht => ?_) t
  cases ht with
  | head => exact hx
  | tail _ hm => exact hr t hm
mutual
/-- how a term's four cells read -/
def rep (A : Nat → Prop) (w : World) : Tm → List Value → Prop
  | mk k n s l, vs => I64 k ∧ I64 n ∧ s.size ≤ 1048576 ∧ ∃ v b off, vs = [.int .i64 k, .int .i64 n, .string s, v] ∧ SlIs A l.length v b off ∧ repL A w l b off
def repL (A : Nat → Prop) (w : World) : List Tm → Nat → Nat → Prop
  | [], _, _ => True
  | t :: r, b, off => (∃ vs, rep A w t vs ∧ RowAt w b off vs) ∧ repL A w r b (off + 4)
end
theorem rep_len {A : Nat → Prop} {w : World} {t : Tm} {vs : List Value} (h : rep A w t vs) : vs.length = 4 := by
  cases t; simp only [rep] at h; obtain ⟨_, _, _, v, b, off, rfl, _⟩ := h; rfl
theorem repL_iff {A : Nat → Prop} {w : World} (l : List Tm) : ∀ (b off : Nat), repL A w l b off ↔ Elems A w 4 rep l b off := by
  induction l with
  | nil => intro b off; simp [repL, Elems]
  | cons t r ih =>
    intro b off
    simp only [repL, ih]
    constructor
    · rintro ⟨⟨vs, h1, h2⟩, h3⟩ i x hx
      cases i with
      | zero => simp at hx; subst hx; exact ⟨vs, rep_len h1, h1, by simpa using h2⟩
      | succ i =>
        obtain ⟨us, h4, h5, h6⟩ := h3 i x (by simpa using hx)
        exact ⟨us, h4, h5, by rw [show off + (i + 1) * 4 = off + 4 + i * 4 by omega]; exact h6⟩
    · intro h
      refine ⟨?_, fun i x hx => ?_⟩
      · obtain ⟨vs, _, h1, h2⟩ := h 0 t rfl
        exact ⟨vs, h1, by simpa using h2⟩
      · obtain ⟨vs, h1, h2, h3⟩ := h (i + 1) x (by simpa using hx)
        exact ⟨vs, h1, h2, by rw [show off + 4 + i * 4 = off + (i + 1) * 4 by omega]; exact h3⟩
theorem rep_iff {A : Nat → Prop} {w : World} {k n : Int} {s : ByteArray} {l : List Tm} {vs : List Value} :
    rep A w (mk k n s l) vs ↔ I64 k ∧ I64 n ∧ s.size ≤ 1048576 ∧ ∃ v, vs = [.int .i64 k, .int .i64 n, .string s, v] ∧ SlR 4 rep A w l v := by
  simp only [rep, repL_iff, SlR]
  constructor
  · rintro ⟨h1, h2, h3, v, b, off, rfl, h4, h5⟩
    exact ⟨h1, h2, h3, v, rfl, b, off, h4, h5⟩
  · rintro ⟨h1, h2, h3, v, rfl, b, off, h4, h5⟩
    exact ⟨h1, h2, h3, v, b, off, rfl, h4, h5⟩
theorem rep_lasts : Lasts rep := by
  refine ⟨fun A w w' t => ?_, fun A A' w t => ?_, fun A w t vs h => ?_⟩
  · induction t using induct with
    | h k n s l ih =>
      intro vs h hk
      rw [rep_iff] at h ⊢
      obtain ⟨h1, h2, h3, v, rfl, b, off, h4, h5⟩ := h
      refine ⟨h1, h2, h3, v, rfl, b, off, h4, fun i x hx => ?_⟩
      obtain ⟨us, h6, h7, h8⟩ := h5 i x hx
      have hA : A b := by
        obtain ⟨_, ⟨h0, _⟩ | ⟨_, hA, _⟩⟩ := h4
        · have := (List.getElem?_eq_some_iff.1 hx).1; omega
        · exact hA
      exact ⟨us, h6, ih x (List.mem_of_getElem? hx) us h7 hk, h8.keeps hA hk⟩
  · induction t using induct with
    | h k n s l ih =>
      intro vs h hk
      rw [rep_iff] at h ⊢
      obtain ⟨h1, h2, h3, v, rfl, b, off, h4, h5⟩ := h
      refine ⟨h1, h2, h3, v, rfl, b, off, ?_, fun i x hx => ?_⟩
      · by_cases hl : l = []
        · subst hl
          obtain ⟨h6, h7 | ⟨h7, _⟩⟩ := h4
          · exact ⟨h6, .inl h7⟩
          · simp at h7
        · exact h4.mono (hk b (h5.block_lt (by omega) hl))
      · obtain ⟨us, h6, h7, h8⟩ := h5 i x hx
        exact ⟨us, h6, ih x (List.mem_of_getElem? hx) us h7 hk, h8⟩
  · cases t with
    | mk k n s l =>
      rw [rep_iff] at h
      obtain ⟨_, _, _, v, rfl, b, off, h4, _⟩ := h
      obtain ⟨a, cap, rfl, _⟩ := h4.val
      simp [Value.oneCell']
theorem rep4 {A : Nat → Prop} {w : World} {t : Tm} {vs : List Value} (h : rep A w t vs) :
    ∃ a cap, vs = [.int .i64 t.kind, .int .i64 t.n, .string t.s, .slice a t.args.length cap] ∧ I64 t.kind ∧ I64 t.n ∧ t.s.size ≤ 1048576 ∧ t.args.length ≤ cap ∧ cap ≤ maxLen ∧ t.args.length ≤ 1048576 ∧
      SlR 4 rep A w t.args (.slice a t.args.length cap) := by
  cases t with
  | mk k n s l =>
    rw [rep_iff] at h
    obtain ⟨h1, h2, h3, v, rfl, h4⟩ := h
    obtain ⟨a, cap, b, off, rfl, h5, h6, h7, _, _⟩ := h4.at
    exact ⟨a, cap, rfl, h1, h2, h3, h5, h6, h7, h4⟩
end Tm
theorem rowAt4 {w : World} {b off : Nat} {v0 v1 v2 v3 : Value} (h : RowAt w b off [v0, v1, v2, v3]) :
    w.cell? ⟨b, off, none⟩ = some v0 ∧ w.cell? ⟨b, off + 1, none⟩ = some v1 ∧ w.cell? ⟨b, off + 2, none⟩ = some v2 ∧ w.cell? ⟨b, off + 3, none⟩ = some v3 :=
  ⟨h 0 _ rfl, h 1 _ rfl, h 2 _ rfl, h 3 _ rfl⟩
theorem tm_cells {A : Nat → Prop} {w wr : World} {l : List Tm} {b off : Nat} (he : Elems A w 4 Tm.rep l b off) (hA : A b) (hk : Keeps A w wr) {k : Nat} (hlt : k < l.length) :
    ∃ a cap, wr.cell? ⟨b, off + k * 4, none⟩ = some (.int .i64 l[k].kind) ∧ wr.cell? ⟨b, off + k * 4 + 1, none⟩ = some (.int .i64 l[k].n) ∧ wr.cell? ⟨b, off + k * 4 + 2, none⟩ = some (.string l[k].s) ∧
      wr.cell? ⟨b, off + k * 4 + 3, none⟩ = some (.slice a l[k].args.length cap) ∧ Tm.rep A wr l[k] [.int .i64 l[k].kind, .int .i64 l[k].n, .string l[k].s, .slice a l[k].args.length cap] := by
  obtain ⟨vs, hvl, hvr, hrow⟩ := he k _ (List.getElem?_eq_getElem hlt)
  have hvr' := Tm.rep_lasts.1 _ _ wr _ _ hvr hk
  have hrow' := RowAt.keeps hA hrow hk
  obtain ⟨sa, sc, rfl, -⟩ := Tm.rep4 hvr
  obtain ⟨c0, c1, c2, c3⟩ := rowAt4 hrow'
  exact ⟨sa, sc, c0, c1, c2, c3, hvr'⟩
abbrev TmsR := SlR 4 Tm.rep
theorem TmsR.keeps {A : Nat → Prop} {w w' : World} {l : List Tm} {v : Value} (h : TmsR A w l v) (hk : Keeps A w w') : TmsR A w' l v := SlR.keeps Tm.rep_lasts h hk
theorem tyTerm : ElemTy Try.prog 22 24 4 56 :=
  .mk' (z := .agg #[.int .i64 0, .int .i64 0, .string ByteArray.empty, .slice none 0 0]) Try.underlying22 (by kernel_rfl) rfl (by omega) (by omega)
theorem below_pure {w w1 : World} {o : Obj} (h : Below (w.alloc o).heap.size (w.alloc o) w1) : Below w.heap.size w w1 :=
  ((Below.refl _ _).alloc (Nat.le_refl _) o).trans (h.mono (by simp))
section
variable {P : Program} {ops : Array Oper} {Q : Exit → Act → World → Prop} {F : Nat → World → Prop}
def waits (ops : Array Oper) (i k : Nat) : Bool := ((ops[i]?).map fun o => o.after.any fun e => Region.binds .any e && e.on == k).getD false
def YieldsF (P : Program) (ops : Array Oper) (F : Nat → World → Prop) (i : Nat) (o : Oper) (v : Value) (a : Act) : Prop :=
  (Region.wanted o (yielded ops a.tmps) = true ∧ ∀ w, F i w → (execOp a.eval o).run P w = .ok (.value v) w) ∨
  (Region.wanted o (yielded ops a.tmps) = false ∧ v = undef)
theorem YieldsF.wpOp {i : Nat} {o : Oper} {v : Value} {a : Act} (hi : ops[i]? = some o) (hy : YieldsF P ops F i o v a)
    {K : Act → World → Prop} {w : World} (hS : F i w) (h : K (a.put o.dst v) w) : wpOp P ops Q i K a w := by
  unfold Go.wpOp
  simp only [hi]
  rcases hy with ⟨hw, hv⟩ | ⟨hw, rfl⟩
  · simp only [hw, if_true, Oper.wp, hv w hS, Oper.upon]; exact .inl h
  · simp only [hw, Bool.false_eq_true, if_false]; exact h
theorem YieldsF.of_same {i : Nat} {o : Oper} {v : Value} {a a' : Act} (hy : YieldsF P ops F i o v a) (he : execOp a'.eval o = execOp a.eval o)
    (hw : Region.wanted o (yielded ops a'.tmps) = Region.wanted o (yielded ops a.tmps)) : YieldsF P ops F i o v a' := by
  unfold YieldsF at *
  rw [he, hw]
  exact hy
theorem wpOp_putF {i j : Nat} {oi oj : Oper} {v : Value} (hj : ops[j]? = some oj) (hap : oi.apart ops oj = true)
    (hsi : ∀ cs b, oi.op ≠ .select cs b) (hsj : ∀ cs b, oj.op ≠ .select cs b)
    (hQ : ∀ c a w, Q (.panic c) (a.put oi.dst v) w → Q (.panic c) a w) {K : Act → World → Prop} {a : Act} {w : World}
    (hy : YieldsF P ops F i oi v a) (h : wpOp P ops Q j K (a.put oi.dst v) w) :
    wpOp P ops Q j (fun a' w' => YieldsF P ops F i oi v a' ∧ K (a'.put oi.dst v) w') a w := by
  obtain ⟨h1, h2, h3⟩ := Oper.apart_spec hap
  have keep : ∀ (a : Act), YieldsF P ops F i oi v a → ∀ u, YieldsF P ops F i oi v (a.put oj.dst u) := fun a hy u =>
    hy.of_same (execOp_put oi hsi a oj.dst u h3) (wanted_put oi a oj.dst u h3)
  have keepD : ∀ d, YieldsF P ops F i oi v { a with defers := d :: a.defers } := fun d => hy.of_same rfl rfl
  unfold wpOp at *
  simp only [hj] at *
  rw [wanted_put oj a oi.dst v h1] at h
  split
  · rename_i hw
    simp only [hw, if_true] at h
    rcases h with h | ⟨hasks, hlets⟩
    case inr => exact .inr ⟨by unfold Oper.asks at *; rw [execOp_put oj hsj a oi.dst v h1] at hasks; exact hasks, hlets⟩
    refine .inl ?_
    unfold Oper.wp at *
    rw [execOp_put oj hsj a oi.dst v h1] at h
    generalize (execOp a.eval oj).run P w = r at *
    cases r with
    | ok n w' =>
      cases n <;> simp only [Oper.upon] at h ⊢
      case value u => exact ⟨keep a hy u, by rw [← Act.put_comm a v u h2]; exact h⟩
      case skip => exact ⟨keep a hy _, by rw [← Act.put_comm a v undef h2]; exact h⟩
      case defer d =>
        refine ⟨keep _ (keepD d) _, ?_⟩
        rw [← Act.put_comm _ v undef h2, ← Act.put_defers]
        exact h
      case enter f args =>
        refine Calls.mono h fun e w'' he => ?_
        cases e with
        | returned u => exact ⟨keep a hy u, by rw [← Act.put_comm a v u h2]; exact he⟩
        | panicked c => exact hQ _ _ _ he
        | outgrown => exact he
      case row row args => exact Rows.mono h fun u w'' he => ⟨keep a hy u, by rw [← Act.put_comm a v u h2]; exact he⟩
    | halt x w' =>
      cases x <;> simp only [Oper.upon] at h ⊢
      case panic u => exact hQ _ _ _ h
  · rename_i hw
    simp only [hw] at h
    exact ⟨keep a hy _, by rw [← Act.put_comm a v undef h2]; exact h⟩
def KeepF (ops : Array Oper) (F : Nat → World → Prop) (i : Nat) (w w' : World) : Prop := ∀ k, waits ops i k = false → F k w → F k w'
def wpAnyF (P : Program) (ops : Array Oper) (Q : Exit → Act → World → Prop) (F : Nat → World → Prop) : Nat → Array Bool → Act → World → Prop
  | 0, listed, a, w => Region.ready .any ops listed = [] ∧ Q .normal a w
  | fuel + 1, listed, a, w =>
    (Region.ready .any ops listed = [] → Q .normal a w) ∧
    ∀ i ∈ Region.ready .any ops listed, wpOp P ops Q i (fun a' w' => KeepF ops F i w w' ∧ wpAnyF P ops Q F fuel (listed.setIfInBounds i true) a' w') a w
theorem wpAny_of_F : ∀ (fuel : Nat) (listed : Array Bool) (a : Act) (w : World), wpAnyF P ops Q F fuel listed a w → wpAny P .any ops Q fuel listed a w
  | 0, _, _, _, h => h
  | fuel + 1, _, _, _, h => ⟨h.1, fun i hi => wpOp_mono (fun a' w' h' => wpAny_of_F fuel _ a' w' h'.2) (h.2 i hi)⟩
theorem wpAnyF_first {i : Nat} {oi : Oper} {v : Value} (hi : ops[i]? = some oi) (hsel : ∀ (j : Nat) (o : Oper) cs b, ops[j]? = some o → o.op ≠ .select cs b)
    (hQ : ∀ c a w, Q (.panic c) (a.put oi.dst v) w → Q (.panic c) a w) :
    ∀ (fuel : Nat) (listed : Array Bool) (a : Act) (w : World),
      (∀ j oj, ops[j]? = some oj → j ≠ i → listed.getD j true = false → (∀ e ∈ oj.after, Region.binds .any e = true → e.on ≠ i) → oi.apart ops oj = true) →
      i ∈ Region.ready .any ops listed → YieldsF P ops F i oi v a → F i w →
      wpAnyF P ops Q F fuel (listed.setIfInBounds i true) (a.put oi.dst v) w → wpAnyF P ops Q F (fuel + 1) listed a w := by
  intro fuel
  induction fuel with
  | zero =>
    intro listed a w _ hr hy hS H
    refine ⟨fun h => (by rw [h] at hr; cases hr), fun j hj => ?_⟩
    by_cases hji : j = i
    · subst hji; exact hy.wpOp hi hS ⟨fun _ _ h => h, H⟩
    · have := ready_mono hj hji
      rw [H.1] at this
      cases this
  | succ fuel ih =>
    intro listed a w hfree hr hy hS H
    refine ⟨fun h => (by rw [h] at hr; cases hr), fun j hj => ?_⟩
    by_cases hji : j = i
    · subst hji; exact hy.wpOp hi hS ⟨fun _ _ h => h, H⟩
    · have h1 := H.2 j (ready_mono hj hji)
      obtain ⟨hjun, oj, hoj, hall⟩ := mem_ready.1 hj
      have hnot : ∀ e ∈ oj.after, Region.binds .any e = true → e.on ≠ i := fun e he hb heq => by
        have h1 := hall e he hb
        have h0 := (mem_ready.1 hr).1
        rw [heq] at h1
        rcases Nat.lt_or_ge i listed.size with h' | h'
        · simp [h'] at h0 h1; rw [h0] at h1; cases h1
        · simp [Array.getElem?_eq_none h'] at h1
      have hwt : waits ops j i = false := by
        simp only [waits, hoj, Option.map_some, Option.getD_some]
        rw [Bool.eq_false_iff]
        intro hw
        obtain ⟨e, he, hb⟩ := Array.any_eq_true'.1 hw
        simp only [Bool.and_eq_true, beq_iff_eq] at hb
        exact hnot e he hb.1 hb.2
      have h2 := wpOp_putF hoj (hfree j oj hoj hji hjun hnot) (fun cs b => hsel i oi cs b hi) (fun cs b => hsel j oj cs b hoj) hQ hy h1
      have hfree' : ∀ k ok, ops[k]? = some ok → k ≠ i → (listed.setIfInBounds j true).getD k true = false →
          (∀ e ∈ ok.after, Region.binds .any e = true → e.on ≠ i) → oi.apart ops ok = true := fun k ok hk hki hun hno => by
        refine hfree k ok hk hki ?_ hno
        by_cases hjk : j = k
        · subst hjk; exact hjun
        · rw [getD_set_ne true hjk] at hun; exact hun
      refine wpOp_mono (fun a' w' h3 => ⟨h3.2.1, ?_⟩) h2
      refine ih (listed.setIfInBounds j true) a' w' hfree' (ready_mono hr (Ne.symm hji)) h3.1 (h3.2.1 i hwt hS) ?_
      rw [Array.setIfInBounds_comm _ _ hji]
      exact h3.2.2
theorem wpAnyF_take {i : Nat} {oi : Oper} {v : Value} {fuel : Nat} {listed : Array Bool} {a : Act} {w : World} (hi' : ops.toList[i]? = some oi)
    (hs : Region.noSelect ops = true) (hf : Region.free .any ops listed i = true) (hr : (Region.ready .any ops listed).contains i = true)
    (hQ : ∀ c a w, Q (.panic c) (a.put oi.dst v) w → Q (.panic c) a w) (hy : YieldsF P ops F i oi v a) (hS : F i w)
    (h : wpAnyF P ops Q F fuel (listed.setIfInBounds i true) (a.put oi.dst v) w) : wpAnyF P ops Q F (fuel + 1) listed a w :=
  have hi : ops[i]? = some oi := by rw [← Array.getElem?_toList]; exact hi'
  wpAnyF_first hi (Region.noSelect_spec hs) hQ fuel listed a w (Region.free_spec hi hf) (by simpa using hr) hy hS h
theorem wpAnyF_one {i : Nat} {fuel : Nat} {listed : Array Bool} {a : Act} {w : World} (hr : Region.ready .any ops listed = [i])
    (h : wpOp P ops Q i (fun a' w' => KeepF ops F i w w' ∧ wpAnyF P ops Q F fuel (listed.setIfInBounds i true) a' w') a w) : wpAnyF P ops Q F (fuel + 1) listed a w :=
  ⟨fun h0 => (by rw [hr] at h0; cases h0), fun j hj => (by rw [hr] at hj; simp only [List.mem_singleton] at hj; subst hj; exact h)⟩
theorem wpAnyF_done {listed : Array Bool} {a : Act} {w : World} (hr : Region.ready .any ops listed = []) (h : Q .normal a w) :
    ∀ fuel, wpAnyF P ops Q F fuel listed a w
  | 0 => ⟨hr, h⟩
  | _ + 1 => ⟨fun _ => h, by rw [hr]; simp⟩
theorem wpOp_run {i : Nat} {o : Oper} {K : Act → World → Prop} {a : Act} {w : World} (hi' : ops.toList[i]? = some o) (hg : Region.wanted o (yielded ops a.tmps) = true) (h : o.wp P a w K Q) : wpOp P ops Q i K a w := by
  have hi : ops[i]? = some o := by rw [← Array.getElem?_toList]; exact hi'
  unfold Go.wpOp
  simp only [hi, hg, if_true]
  exact .inl h
theorem wp_region_F {id : Nat} {a : Act} {w : World} (hm : P.follows .mixedOrders = true)
    (h : wpAnyF P ops Q F ops.size (Array.replicate ops.size false) a w.drew) : (Code.region id ops true).wp P Q a w :=
  wp_region_any hm (wpAny_of_F _ _ _ _ h)
end
theorem wpTk {P : Program} {ops : Array Oper} {Q : Exit → Act → World → Prop} {F : Nat → World → Prop} {i : Nat} {oi : Oper} {v : Value} {fuel : Nat} {listed : Array Bool} {a : Act} {w : World} (hi' : ops.toList[i]? = some oi) (hy : YieldsF P ops F i oi v a) (hS : F i w)
    (h : wpAnyF P ops Q F fuel (listed.setIfInBounds i true) (a.put oi.dst v) w) (hs : Region.noSelect ops = true := by kernel_rfl) (hf : Region.free .any ops listed i = true := by kernel_rfl) (hr : (Region.ready .any ops listed).contains i = true := by kernel_rfl)
    (hQ : ∀ c a w, Q (.panic c) (a.put oi.dst v) w → Q (.panic c) a w := by exact fun _ _ _ h => h) : wpAnyF P ops Q F (fuel + 1) listed a w :=
  wpAnyF_take hi' hs hf hr hQ hy hS h
namespace Tm
mutual
/-- each variable's number as a function says -/
def ren (f : Int → Int) : Tm → Tm
  | mk k n s l => mk k (if k = 0 then f n else n) s (renL f l)
def renL (f : Int → Int) : List Tm → List Tm
  | [] => []
  | t :: r => ren f t :: renL f r
end
theorem renL_map (f : Int → Int) (l : List Tm) : renL f l = l.map (ren f) := by
  induction l with
  | nil => rfl
  | cons t r ih => simp [renL, ih]
end Tm
def low (n : Int) : Int := n % 1099511627776
namespace Tm
mutual
/-- how many terms there are in one -/
def nodes : Tm → Nat
  | mk _ _ _ l => nodesL l + 1
def nodesL : List Tm → Nat
  | [] => 0
  | t :: r => nodes t + nodesL r
end
theorem nodesL_append (l r : List Tm) : nodesL (l ++ r) = nodesL l + nodesL r := by
  induction l with
  | nil => simp [nodesL]
  | cons t l ih => simp only [List.cons_append, nodesL, ih]; omega
theorem nodesL_take (l : List Tm) (j : Nat) (h : j < l.length) : nodesL (l.take j) + nodes l[j] ≤ nodesL l := by
  have h1 := nodesL_append (l.take (j + 1)) (l.drop (j + 1))
  rw [List.take_append_drop, List.take_succ_eq_append_getElem h, nodesL_append] at h1
  simp only [nodesL] at h1
  omega
variable {σ : Type}
def num (f : σ → Int → Int × σ) (st : σ) (k n : Int) : Int × σ := if k = 0 then f st n else (n, st)
mutual
/-- each variable's number as a function says that has a state, each term before its arguments -/
def renS (f : σ → Int → Int × σ) : σ → Tm → Tm × σ
  | st, mk k n s l => (mk k (num f st k n).1 s (renSL f (num f st k n).2 l).1, (renSL f (num f st k n).2 l).2)
def renSL (f : σ → Int → Int × σ) : σ → List Tm → List Tm × σ
  | st, [] => ([], st)
  | st, t :: r => ((renS f st t).1 :: (renSL f (renS f st t).2 r).1, (renSL f (renS f st t).2 r).2)
end
theorem renSL_snoc (f : σ → Int → Int × σ) (l : List Tm) : ∀ (st : σ) (t : Tm), renSL f st (l ++ [t]) = ((renSL f st l).1 ++ [(renS f (renSL f st l).2 t).1], (renS f (renSL f st l).2 t).2) := by
  induction l with
  | nil => intro st t; simp [renSL]
  | cons x r ih => intro st t; simp [renSL, ih]
theorem renSL_length (f : σ → Int → Int × σ) (l : List Tm) : ∀ st : σ, (renSL f st l).1.length = l.length := by
  induction l with
  | nil => intro st; simp [renSL]
  | cons x r ih => intro st; simp [renSL, ih]
theorem renSL_sz {sz : σ → Nat} {f : σ → Int → Int × σ} (hf : ∀ st n, sz (f st n).2 ≤ sz st + 1) :
    ∀ (t : Tm) (st : σ), sz (renS f st t).2 ≤ sz st + t.nodes := by
  intro t
  induction t using induct with
  | h k n s l ih =>
    intro st
    have hL : ∀ (r : List Tm), (∀ t ∈ r, t ∈ l) → ∀ st : σ, sz (renSL f st r).2 ≤ sz st + nodesL r := by
      intro r
      induction r with
      | nil => intro _ st; simp [renSL, nodesL]
      | cons x r ihr =>
        intro hm st
        simp only [renSL, nodesL]
        have h1 := ih x (hm x (List.mem_cons_self ..)) st
        have h2 := ihr (fun t ht => hm t (List.mem_cons_of_mem _ ht)) (renS f st x).2
        omega
    simp only [renS, nodes]
    have h1 := hL l (fun _ h => h) (num f st k n).2
    have h2 : sz (num f st k n).2 ≤ sz st + 1 := by
      unfold num
      split
      · exact hf st n
      · simp
    omega
theorem renSL_szL {sz : σ → Nat} {f : σ → Int → Int × σ} (hf : ∀ st n, sz (f st n).2 ≤ sz st + 1) (l : List Tm) : ∀ (st : σ), sz (renSL f st l).2 ≤ sz st + nodesL l := by
  induction l with
  | nil => intro st; simp [renSL, nodesL]
  | cons x r ih =>
    intro st
    simp only [renSL, nodesL]
    have h1 := renSL_sz hf x st
    have h2 := ih (renS f st x).2
    omega
end Tm
structure StLaw {σ : Type} (I : σ → (Nat → Prop) → World → Prop) : Prop where
  lt : ∀ st M w, I st M w → ∀ b, M b → b < w.heap.size
  keeps : ∀ st M w w', I st M w → Keeps M w w' → I st M w'
def RenPost {σ : Type} (I : σ → (Nat → Prop) → World → Prop) (M : Nat → Prop) (w : World) (r : Tm × σ) (e : Ending) (w' : World) : Prop :=
  ∃ us M', e = .returned (.agg us.toArray) ∧ Ch M w w' ∧ (∀ b, M' b → M b ∨ w.heap.size ≤ b) ∧ I r.2 M' w' ∧ Tm.rep (fun b => w.heap.size ≤ b ∧ ¬ M' b) w' r.1 us
def NumPost {σ : Type} (I : σ → (Nat → Prop) → World → Prop) (M : Nat → Prop) (w : World) (r : Int × σ) (e : Ending) (w' : World) : Prop :=
  e = .returned (.int .i64 r.1) ∧ I64 r.1 ∧ ∃ M', Ch M w w' ∧ (∀ b, M' b → M b ∨ w.heap.size ≤ b) ∧ I r.2 M' w'
end Go.Proofs.Ytlpmfkpefoegeab
