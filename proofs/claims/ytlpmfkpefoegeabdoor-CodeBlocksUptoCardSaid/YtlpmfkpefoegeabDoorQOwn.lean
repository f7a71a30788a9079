/-
  Slices of one's own: what is appended to them, stored into them, cut off them.
-/
import Derived.Test.YtlpmfkpefoegeabDoorQFront
import Derived.Test.YtlpmfkpefoegeabDoorQCopy
import Derived.Test.YtlpmfkpefoegeabDoorQHeap
namespace Go.Proofs.YtlpmfkpefoegeabDoor
set_option linter.unusedVariables false
set_option linter.unusedSimpArgs false
open Go.RowKit

theorem tyCells : ElemTy Tryd.prog 47 80 3 32 :=
  .mk' (z := .agg #[.int .i64 0, .int .i64 0, .string ByteArray.empty]) Tryd.underlying47 (by kernel_rfl) rfl (by omega) (by omega)
theorem tyNums : ElemTy Tryd.prog 48 3 1 8 := .mk' (z := .int .i64 0) Tryd.underlying48 (by kernel_rfl) rfl (by omega) (by omega)

/-- append of nothing -/
theorem run_app_none {P : Program} (w : World) (t ty e : TypeId) (i : TypeInfo) (ht : P.underlying t = some (.slice e)) (hi : P.info? e = some i) (a b : Option Addr) (n cap c : Nat) (hn : n ≤ cap) :
    (Builtin.append_ #[t, t] ty #[.slice a n cap, .slice b 0 c]).run P w = .ok (.slice a n cap) w := by
  cases a <;> cases b <;> simp [Builtin.append_, run_underlying ht, sizeOf, typeInfo, hi, Builtin.lenOf, Builtin.firstCells, loadCells, loadCellsFrom, storeCells, hn]

section
variable {α : Type}

theorem grownBy_refl (w : World) (row : Option Nat) : w.grownBy w row := ⟨rfl, rfl, rfl, Nat.le_refl _, fun _ _ _ => rfl⟩

/-- append onto it: the source whatever slice stands for a list -/
theorem run_appS {P : Program} (w : World) (base : Nat) (t ty e : TypeId) (size bytes : Nat) (hty : ElemTy P t e size bytes) {R : (Nat → Prop) → World → α → List Value → Prop} (hR : Lasts R) {A : Nat → Prop}
    (v : Value) (xs : List α) (hown : OwnR w base e size R A xs v) (x : Value) (ys : List α) (hx : SlR size R (fun b => A b ∧ ownB v ≠ some b) w ys x)
    (hlen : xs.length + ys.length ≤ 4194304) (hbase : base ≤ w.heap.size) :
    ∃ v' w', (Builtin.append_ #[t, t] ty #[v, x]).run P w = .ok v' w' ∧ OwnR w' base e size R A (xs ++ ys) v' ∧ Grew w w' v v' := by
  obtain ⟨⟨i, z, ht, hi, hz, h1, h2, h3⟩, h0, hb⟩ := hty
  obtain ⟨a, cap, b, off, rfl, hl1, hl2, hl3, ha, he⟩ := hx.at
  by_cases hy : ys = []
  · subst hy
    obtain ⟨va, vc, rfl, hvm⟩ := hown.val
    have hvc : xs.length ≤ vc := by
      obtain ⟨vals, _, ho, _⟩ := hown
      rcases ho.2 with ⟨h4, _, h5⟩ | ⟨g, c, cur, h4, h5, h6, h7, h8, _⟩
      · omega
      · simp only [Value.slice.injEq, true_and] at h4; omega
    refine ⟨_, w, run_app_none w t ty e i ht hi va a xs.length vc cap hvc, by simpa using hown, grownBy_refl _ _, .inl rfl⟩
  · have hpos : 0 < ys.length := List.length_pos_iff.2 hy
    obtain ⟨rfl, hA⟩ := ha hpos
    have hmul : (xs.length + ys.length) * bytes ≤ (xs.length + ys.length) * 256 := Nat.mul_le_mul_left _ hb
    obtain ⟨v', w', hr, k1, k2, k3⟩ := run_appR (P := P) w base t ty e i z size bytes ht hi hz h1 h2 h3 h0 hR v xs hown b off cap ys he
      (by simp only [maxLen]; omega) (by omega) hbase
    exact ⟨v', w', hr, k1, k2, k3⟩

/-- the same, as an operation of a region -/
theorem ans_app {P : Program} {w : World} {o : Oper} {ev : Operand → Value} {S : Value → World → Prop} (s x : Operand) (t : TypeId)
    (ho : o.op = .call { callee := .builtin .append, args := #[s, x], argTypes := #[t, t] })
    (base : Nat) (e : TypeId) (size bytes : Nat) (hty : ElemTy P t e size bytes) {R : (Nat → Prop) → World → α → List Value → Prop} (hR : Lasts R) {A : Nat → Prop}
    (v : Value) (xs : List α) (hs : ev s = v) (hown : OwnR w base e size R A xs v) (xv : Value) (hxv : ev x = xv) (ys : List α) (hx : SlR size R (fun b => A b ∧ ownB v ≠ some b) w ys xv)
    (hlen : xs.length + ys.length ≤ 4194304) (hbase : base ≤ w.heap.size)
    (h : ∀ v' w', OwnR w' base e size R A (xs ++ ys) v' → Grew w w' v v' → S v' w') : Ans P ev o w S := by
  obtain ⟨v', w', hr, k1, k2⟩ := run_appS (P := P) w base t o.type e size bytes hty hR v xs hown xv ys hx hlen hbase
  unfold Ans execOp
  simp only [ho, resolve, invoke, builtin, Sem.run_bind, Sem.run_pure, Result.andThen_ok, List.map_toArray, List.map_cons, List.map_nil, hs, hxv, hr]
  exact h v' w' k1 k2

/-- the same, in a region whose order is given -/
theorem wpList_appS {P : Program} {w : World} {ops : Array Oper} {rest : List Oper} {o : Oper} {a : Act} {Q : Exit → Act → World → Prop} (hgd : o.guard = none) (s x : Operand) (t : TypeId)
    (ho : o.op = .call { callee := .builtin .append, args := #[s, x], argTypes := #[t, t] })
    (base : Nat) (e : TypeId) (size bytes : Nat) (hty : ElemTy P t e size bytes) {R : (Nat → Prop) → World → α → List Value → Prop} (hR : Lasts R) {A : Nat → Prop}
    (v : Value) (xs : List α) (hs : a.eval s = v) (hown : OwnR w base e size R A xs v) (xv : Value) (hxv : a.eval x = xv) (ys : List α) (hx : SlR size R (fun b => A b ∧ ownB v ≠ some b) w ys xv)
    (hlen : xs.length + ys.length ≤ 4194304) (hbase : base ≤ w.heap.size)
    (h : ∀ v' w', OwnR w' base e size R A (xs ++ ys) v' → Grew w w' v v' → wpList P ops Q rest (a.put o.dst v') w') : wpList P ops Q (o :: rest) a w := by
  refine wpList_plain hgd fun _ hK => ?_
  obtain ⟨v', w', hr, k1, k2⟩ := run_appS (P := P) w base t o.type e size bytes hty hR v xs hown xv ys hx hlen hbase
  unfold Oper.wp execOp
  simp only [ho, resolve, invoke, builtin, Sem.run_bind, Sem.run_pure, Result.andThen_ok, List.map_toArray, List.map_cons, List.map_nil, hs, hxv, hr]
  exact hK _ _ (h v' w' k1 k2)
end

/-! ### slices of one's own, of elements that lead nowhere -/
section
variable {α : Type}

theorem flatMap_len {f : α → List Value} {size : Nat} (hf : ∀ x, (f x).length = size) (l : List α) : (l.flatMap f).length = l.length * size := by
  induction l with
  | nil => simp
  | cons x r ih => rw [List.flatMap_cons, List.length_append, hf, ih, List.length_cons, Nat.add_mul]; omega

theorem flatMap_get {f : α → List Value} {size : Nat} (hf : ∀ x, (f x).length = size) : ∀ (l : List α) (i j : Nat) (hi : i < l.length), j < size → (l.flatMap f)[i * size + j]? = (f l[i])[j]?
  | x :: l, 0, j, hi, hj => by rw [List.flatMap_cons, Nat.zero_mul, Nat.zero_add, List.getElem?_append_left (by rw [hf]; exact hj)]; rfl
  | x :: l, i + 1, j, hi, hj => by
    rw [List.flatMap_cons, List.getElem?_append_right (by rw [hf, Nat.add_mul]; omega), hf, show (i + 1) * size + j - size = i * size + j by rw [Nat.add_mul]; omega]
    exact flatMap_get hf l i j (by simpa using hi) hj

theorem flatMap_set {f : α → List Value} {size : Nat} (hf : ∀ x, (f x).length = size) (y : α) (u : Value) : ∀ (l : List α) (i j : Nat) (hi : i < l.length), j < size → f y = (f l[i]).set j u → (l.flatMap f).set (i * size + j) u = (l.set i y).flatMap f
  | x :: l, 0, j, hi, hj, hy => by
    rw [List.flatMap_cons, Nat.zero_mul, Nat.zero_add, List.set_append_left _ _ (by rw [hf]; exact hj)]
    simp only [List.getElem_cons_zero] at hy
    rw [List.set_cons_zero, List.flatMap_cons, hy]
  | x :: l, i + 1, j, hi, hj, hy => by
    rw [List.flatMap_cons, List.set_append_right _ _ (by rw [hf, Nat.add_mul]; omega), hf, show (i + 1) * size + j - size = i * size + j by rw [Nat.add_mul]; omega, List.set_cons_succ, List.flatMap_cons]
    rw [flatMap_set hf y u l i j (by simpa using hi) hj (by simpa using hy)]

theorem flatMap_take {f : α → List Value} {size : Nat} (hf : ∀ x, (f x).length = size) : ∀ (l : List α) (k : Nat), k ≤ l.length → (l.flatMap f).take (k * size) = (l.take k).flatMap f
  | l, 0, _ => by simp
  | x :: l, k + 1, h => by
    rw [List.flatMap_cons, List.take_succ_cons, List.flatMap_cons, List.take_append, hf, List.take_of_length_le (by rw [hf, Nat.add_mul]; omega), show (k + 1) * size - size = k * size by rw [Nat.add_mul]; omega]
    rw [flatMap_take hf l k (by simpa using h)]

/-- the value holds elements, each of cells that f tells, in a block of the call's own -/
def OwnF (f : α → List Value) (ok : α → Prop) (E : TypeId) (size : Nat) (w : World) (base : Nat) (l : List α) (v : Value) : Prop :=
  Own w base E size v l.length (l.flatMap f) ∧ ∀ x ∈ l, ok x

variable {f : α → List Value} {ok : α → Prop} {E : TypeId} {size : Nat} {w : World} {base : Nat} {l : List α} {v : Value}

theorem OwnF.nil : OwnF f ok E size w base [] (.slice none 0 0) := ⟨Own.nil w base E size, fun x h => by simp at h⟩
theorem OwnF.lt (h : OwnF f ok E size w base l v) : ∀ k, ownB v = some k → base ≤ k ∧ k < w.heap.size := h.1.lt
theorem OwnF.kept (h : OwnF f ok E size w base l v) {w' : World} (hk : ∀ k, ownB v = some k → w'.heap[k]? = w.heap[k]?) : OwnF f ok E size w' base l v := ⟨h.1.kept hk, h.2⟩
theorem OwnF.below (h : OwnF f ok E size w base l v) {w' : World} (hk : Below w.heap.size w w') : OwnF f ok E size w' base l v := ⟨h.1.below hk, h.2⟩
theorem OwnF.rebase (h : OwnF f ok E size w base l v) {base' : Nat} (hb : ∀ k, ownB v = some k → base' ≤ k) : OwnF f ok E size w base' l v := by
  refine ⟨⟨h.1.1, ?_⟩, h.2⟩
  rcases h.1.2 with h1 | ⟨g, cap, cur, rfl, hc, hbg, rest⟩
  · exact .inl h1
  · exact .inr ⟨g, cap, cur, rfl, hc, hb g (by simp [ownB, Nat.pos_iff_ne_zero.1 hc]), rest⟩

theorem OwnF.ownR (hf : ∀ x, (f x).length = size) (h : OwnF f ok E size w base l v) (A : Nat → Prop) : OwnR w base E size (flatR f ok) A l v := by
  refine ⟨l.map f, by simp, by rw [← List.flatMap_def]; exact h.1, fun i x vs hx hv => ?_⟩
  rw [List.getElem?_map, hx] at hv
  simp only [Option.map_some, Option.some.injEq] at hv
  subst hv
  exact ⟨hf x, h.2 x (List.mem_of_getElem? hx), rfl⟩

theorem OwnF.of_ownR {A : Nat → Prop} (h : OwnR w base E size (flatR f ok) A l v) : OwnF f ok E size w base l v := by
  obtain ⟨vals, hl, ho, he⟩ := h
  have e : vals = l.map f := by
    apply List.ext_getElem (by simp [hl])
    intro i h1 h2
    obtain ⟨_, _, h3⟩ := he i _ _ (List.getElem?_eq_getElem (by omega)) (List.getElem?_eq_getElem h1)
    rw [h3, List.getElem_map]
  subst e
  refine ⟨by rw [List.flatMap_def]; exact ho, fun x hx => ?_⟩
  obtain ⟨i, hi, rfl⟩ := List.mem_iff_getElem.1 hx
  exact (he i _ _ (List.getElem?_eq_getElem hi) (List.getElem?_eq_getElem (by simpa using hi))).2.1

theorem OwnF.val (h : OwnF f ok E size w base l v) : ∃ a cap, v = .slice a l.length cap ∧ l.length ≤ cap ∧ cap ≤ maxLen := by
  rcases h.1.2 with ⟨h0, a, rfl⟩ | ⟨g, cap, cur, rfl, hc, hb, hg, hnc, hcm, _⟩
  · exact ⟨a, 0, by rw [h0], by omega, by simp [maxLen]⟩
  · exact ⟨_, cap, rfl, hnc, hcm⟩

/-- where its elements lie, if it has any -/
theorem OwnF.at (hf : ∀ x, (f x).length = size) (h : OwnF f ok E size w base l v) (h0 : 0 < l.length) :
    ∃ g cap, v = .slice (some ⟨g, 0, none⟩) l.length cap ∧ 0 < cap ∧ l.length ≤ cap ∧ cap ≤ maxLen ∧ ownB v = some g ∧ (∀ o, w.frozen? ⟨g, o, none⟩ = false) ∧ g < w.heap.size ∧ base ≤ g ∧
      ∀ i (hi : i < l.length) j u, (f l[i])[j]? = some u → w.cell? ⟨g, i * size + j, none⟩ = some u := by
  have hcl := @Own.cells w base E size v l.length (l.flatMap f) h.1
  rcases h.1.2 with ⟨h1, a, rfl⟩ | ⟨g, cap, cur, rfl, hc, hb, hg, hnc, hcm, hcs, htake⟩
  · omega
  · refine ⟨g, cap, rfl, hc, hnc, hcm, by simp [ownB, Nat.pos_iff_ne_zero.1 hc], fun o => by simp [World.frozen?, hg], blk_lt hg, hb, fun i hi j u hu => ?_⟩
    have hj : j < size := by have := (List.getElem?_eq_some_iff.1 hu).1; rw [hf] at this; exact this
    exact hcl rfl hc _ u (by rw [flatMap_get hf l i j hi hj]; exact hu)

/-- a store into it -/
theorem OwnF.set (hf : ∀ x, (f x).length = size) (h : OwnF f ok E size w base l v) {g : Nat} (hg : ownB v = some g) {i j : Nat} (hi : i < l.length) (hj : j < size) {y : α} {u : Value} (hy : f y = (f l[i]).set j u) (hok : ok y) :
    OwnF f ok E size (w.setCell ⟨g, i * size + j, none⟩ u) base (l.set i y) v := by
  refine ⟨⟨flatMap_len hf _, ?_⟩, fun x hx => ?_⟩
  · rw [List.length_set]
    rcases h.1.2 with ⟨h1, a, rfl⟩ | ⟨g', cap, cur, rfl, hc, hb, hgg, hnc, hcm, hcs, htake⟩
    · omega
    · simp only [ownB, Nat.pos_iff_ne_zero.1 hc, if_false, Option.some.injEq] at hg
      subst hg
      refine .inr ⟨g', cap, _, rfl, hc, hb, blk_set hgg _ u, hnc, hcm, by simpa using hcs, ?_⟩
      rw [← flatMap_set hf y u l i j hi hj hy, ← htake, Array.toList_setIfInBounds, List.take_set]
  · rcases List.mem_or_eq_of_mem_set hx with h1 | rfl
    · exact h.2 x h1
    · exact hok

/-- its first k elements -/
theorem OwnF.take (hf : ∀ x, (f x).length = size) {a : Option Addr} {cap : Nat} (h : OwnF f ok E size w base l (.slice a l.length cap)) {k : Nat} (hk : k ≤ l.length) : OwnF f ok E size w base (l.take k) (.slice a k cap) := by
  have hl : (l.take k).length = k := by rw [List.length_take]; omega
  refine ⟨⟨by rw [flatMap_len hf], ?_⟩, fun x hx => h.2 x (List.mem_of_mem_take hx)⟩
  rw [hl]
  rcases h.1.2 with ⟨h1, a', h2⟩ | ⟨g, c, cur, h2, hc, hb, hgg, hnc, hcm, hcs, htake⟩
  · simp only [Value.slice.injEq] at h2
    obtain ⟨rfl, -, rfl⟩ := h2
    exact .inl ⟨by omega, a, by rw [show k = 0 by omega]⟩
  · simp only [Value.slice.injEq, true_and] at h2
    obtain ⟨rfl, rfl⟩ := h2
    refine .inr ⟨g, cap, cur, rfl, hc, hb, hgg, by omega, hcm, hcs, ?_⟩
    rw [← flatMap_take hf l k hk, ← htake, List.take_take, Nat.min_eq_left (Nat.mul_le_mul_right _ hk)]

theorem OwnF.sl (hf : ∀ x, (f x).length = size) (h1 : ∀ x, ∀ u ∈ f x, u.oneCell' = true) (h : OwnF f ok E size w base l v) (hl : l.length ≤ 1048576) {A : Nat → Prop} (hA : ∀ b, ownB v = some b → A b) : SlR size (flatR f ok) A w l v :=
  OwnR.sl' (flatR_lasts h1) (h.ownR hf A) hl hA
end

theorem Ce.vals_len (c : Ce) : c.vals.length = 3 := rfl
theorem Ce.vals_one (c : Ce) : ∀ u ∈ c.vals, u.oneCell' = true := by simp [Ce.vals, Value.oneCell']
theorem numV_len (c : Int) : (numV c).length = 1 := rfl
theorem numV_one (c : Int) : ∀ u ∈ numV c, u.oneCell' = true := by simp [numV, Value.oneCell']
theorem boolV_len (c : Bool) : (boolV c).length = 1 := rfl
theorem boolV_one (c : Bool) : ∀ u ∈ boolV c, u.oneCell' = true := by simp [boolV, Value.oneCell']

abbrev OwnC (w : World) (base : Nat) (l : List Ce) (v : Value) : Prop := OwnF Ce.vals Ce.Ok 80 3 w base l v
abbrev OwnN (w : World) (base : Nat) (l : List Int) (v : Value) : Prop := OwnF numV I64 3 1 w base l v
abbrev OwnB (w : World) (base : Nat) (l : List Bool) (v : Value) : Prop := OwnF boolV (fun _ => True) 4 1 w base l v

theorem OwnC.sl {w : World} {base : Nat} {l : List Ce} {v : Value} (h : OwnC w base l v) (hl : l.length ≤ 1048576) {A : Nat → Prop} (hA : ∀ b, ownB v = some b → A b) : CesR A w l v := OwnF.sl Ce.vals_len Ce.vals_one h hl hA
theorem OwnN.sl {w : World} {base : Nat} {l : List Int} {v : Value} (h : OwnN w base l v) (hl : l.length ≤ 1048576) {A : Nat → Prop} (hA : ∀ b, ownB v = some b → A b) : NumsR A w l v := OwnF.sl numV_len numV_one h hl hA
theorem OwnB.sl {w : World} {base : Nat} {l : List Bool} {v : Value} (h : OwnB w base l v) (hl : l.length ≤ 1048576) {A : Nat → Prop} (hA : ∀ b, ownB v = some b → A b) : BoolsR A w l v := OwnF.sl boolV_len boolV_one h hl hA
end Go.Proofs.YtlpmfkpefoegeabDoor
