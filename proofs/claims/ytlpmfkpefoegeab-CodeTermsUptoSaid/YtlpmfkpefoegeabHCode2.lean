/-
  A clause's block, loaded into a heap: its terms are read as they were, its variables moved.
-/
import Derived.Test.YtlpmfkpefoegeabHCode
import Derived.Test.YtlpmfkpefoegeabHBack
namespace Go.Proofs.Ytlpmfkpefoegeab
set_option linter.unusedVariables false
set_option linter.unusedSimpArgs false

section
variable {H F : List Ce}
theorem cellAt_shift {a : Int} (h : Inb F a) : cellAt (H ++ F.map (shC H.length)) (a + (H.length : Int)) = shC H.length (cellAt F a) ∧ Inb (H ++ F.map (shC H.length)) (a + (H.length : Int)) := by
  obtain ⟨h0, h1⟩ := h
  obtain ⟨k, rfl⟩ := Int.eq_ofNat_of_zero_le h0
  have hk : k < F.length := by omega
  have h2 : (H ++ F.map (shC H.length))[H.length + k]? = some (shC H.length F[k]) := by
    rw [List.getElem?_append_right (by omega), List.getElem?_map, Nat.add_sub_cancel_left, List.getElem?_eq_getElem hk]; rfl
  have h3 := cellAt_some h2
  rw [show ((H.length + k : Nat) : Int) = (k : Int) + (H.length : Int) by omega] at h3
  rw [cellAt_nat hk]
  exact h3

theorem shC_kind (b : Nat) (c : Ce) : (shC b c).kind = c.kind := by unfold shC; split <;> rfl
theorem shC_same (b : Nat) {c : Ce} (h : c.kind ≠ 0) : shC b c = c := by unfold shC; rw [if_neg h]
theorem shC_n (b : Nat) {c : Ce} (h : c.kind = 0) : (shC b c).n = c.n + b := by unfold shC; rw [if_pos h]

theorem looks_shift {a x : Int} (h : Looks F a x) : Looks (H ++ F.map (shC H.length)) (a + (H.length : Int)) (x + (H.length : Int)) := by
  induction h with
  | @stop a0 h1 h2 =>
    obtain ⟨e1, e2⟩ := cellAt_shift (H := H) h1
    refine .stop e2 ?_
    rcases h2 with h2 | h2
    · exact .inl (by rw [e1, shC_kind]; exact h2)
    · by_cases hk : (cellAt F a0).kind = 0
      · exact .inr (by rw [e1, shC_n _ hk, h2])
      · exact .inl (by rw [e1, shC_kind]; exact hk)
  | @next a0 x0 h1 h2 _ ih =>
    obtain ⟨e1, e2⟩ := cellAt_shift (H := H) h1
    have hk : (cellAt F a0).kind = 0 := Classical.byContradiction fun hk => h2 (.inl hk)
    refine .next e2 (fun hs => h2 ?_) (by rw [e1, shC_n _ hk]; exact ih)
    rcases hs with hs | hs
    · rw [e1, shC_kind] at hs; exact .inl hs
    · rw [e1, shC_n _ hk] at hs; exact .inr (by omega)

theorem laid_shift : ∀ (t : Tm) (a : Int), Laid F id a t → Laid (H ++ F.map (shC H.length)) (fun n => n + (H.length : Int)) (a + (H.length : Int)) t := by
  intro t
  induction t using Tm.induct with
  | h k n s l ih =>
    intro a h
    have hL : ∀ (r : List Tm), (∀ t ∈ r, t ∈ l) → ∀ a, Laid.LaidL F id a r → Laid.LaidL (H ++ F.map (shC H.length)) (fun n => n + (H.length : Int)) (a + (H.length : Int)) r := by
      intro r
      induction r with
      | nil => intro _ a _; simp only [Laid.LaidL]
      | cons x r ihr =>
        intro hm a h
        simp only [Laid.LaidL] at h ⊢
        refine ⟨ih x (hm x (List.mem_cons_self ..)) a h.1, ?_⟩
        have := ihr (fun t ht => hm t (List.mem_cons_of_mem _ ht)) _ h.2
        rw [show a + 1 + (H.length : Int) = a + (H.length : Int) + 1 by omega] at this
        exact this
    rw [Laid] at h ⊢
    obtain ⟨x, hx, hc⟩ := h
    obtain ⟨e1, e2⟩ := cellAt_shift (H := H) hx.end_.1
    refine ⟨x + (H.length : Int), looks_shift hx, ?_⟩
    rcases hc with ⟨h1, h2, h3, h4, h5⟩ | ⟨h1, h2, h3, h4⟩ | ⟨h1, h2, h3, h4⟩ | ⟨h1, h2, h3, h4⟩
    · exact .inl ⟨h1, h2, h3, by rw [h4]; rfl, by rw [e1, shC_kind]; exact h5⟩
    · exact .inr (.inl ⟨h1, h2, h3, by rw [e1, shC_same _ (by rw [h4]; simp), h4]⟩)
    · exact .inr (.inr (.inl ⟨h1, h2, h3, by rw [e1, shC_same _ (by rw [h4]; simp), h4]⟩))
    · refine .inr (.inr (.inr ⟨h1, h2, by rw [e1, shC_same _ (by rw [h3]; simp), h3], ?_⟩))
      have := hL l (fun _ h => h) _ h4
      rw [show x + 1 + (H.length : Int) = x + (H.length : Int) + 1 by omega] at this
      exact this
end

/-- what is laid is read -/
def LaidAll (M : List Ce) (g : Int → Int) : List Int → List Tm → Prop
  | [], [] => True
  | a :: s, t :: r => Laid M g a t ∧ LaidAll M g s r
  | _, _ => False

theorem laidL_all (M : List Ce) (g : Int → Int) : ∀ (l : List Tm) (x : Int) (d : Nat), Laid.LaidL M g (x + 1 + (d : Int)) l → LaidAll M g ((List.range l.length).map fun i => x + 1 + ((d + i : Nat) : Int)) l
  | [], _, _, _ => trivial
  | t :: r, x, d, h => by
    simp only [Laid.LaidL] at h
    rw [List.length_cons, List.range_succ_eq_map, List.map_cons, List.map_map]
    refine ⟨by simpa using h.1, ?_⟩
    have := laidL_all M g r x (d + 1) (by rw [show x + 1 + ((d + 1 : Nat) : Int) = x + 1 + (d : Int) + 1 by omega]; exact h.2)
    have e : ((fun i : Nat => x + 1 + ((d + i : Nat) : Int)) ∘ Nat.succ) = fun i : Nat => x + 1 + ((d + 1 + i : Nat) : Int) := by
      funext i; simp only [Function.comp]; omega
    rw [e]; exact this

theorem rd_laid (M : List Ce) (g : Int → Int) : ∀ (N : Nat) (ts : List Tm) (s : List Int) (w : Nat), Tm.nodesL ts ≤ N → LaidAll M g s ts → Tm.nodesL ts ≤ w → rdL M w s = some (ts.map (Tm.ren g), w - Tm.nodesL ts) := by
  intro N
  induction N with
  | zero =>
    intro ts s w hN hl hw
    cases ts with
    | nil => cases s with
      | nil => rw [rdL_nil]; simp [Tm.nodesL]
      | cons a s => exact absurd hl (by simp [LaidAll])
    | cons t r => have : 1 ≤ t.nodes := by cases t; simp only [Tm.nodes]; omega
                  simp only [Tm.nodesL] at hN; omega
  | succ N ih =>
    intro ts s w hN hl hw
    cases ts with
    | nil => cases s with
      | nil => rw [rdL_nil]; simp [Tm.nodesL]
      | cons a s => exact absurd hl (by simp [LaidAll])
    | cons t r =>
      cases s with
      | nil => exact absurd hl (by simp [LaidAll])
      | cons a s =>
        obtain ⟨k, n, sn, l⟩ := t
        obtain ⟨h1, h2⟩ := hl
        simp only [Tm.nodesL, Tm.nodes] at hN hw
        obtain ⟨w', rfl⟩ : ∃ w', w = w' + 1 := ⟨w - 1, by omega⟩
        rw [Laid] at h1
        obtain ⟨x, hx, hc⟩ := h1
        rw [rdL]
        simp only [look_of hx]
        rw [if_neg (by have := hx.nonneg; omega)]
        rcases hc with ⟨rfl, rfl, rfl, rfl, e5⟩ | ⟨rfl, rfl, rfl, e4⟩ | ⟨rfl, rfl, rfl, e4⟩ | ⟨rfl, rfl, e3, e4⟩
        · simp only [Tm.nodesL] at hN hw
          rw [if_neg (by rw [e5]; decide), ih r s w' (by omega) h2 (by omega)]
          simp only [e5, if_true, List.map_cons, Tm.ren, Tm.renL, Tm.nodesL, Tm.nodes, Option.some.injEq, Prod.mk.injEq, true_and]
          omega
        · simp only [Tm.nodesL] at hN hw
          rw [if_neg (by rw [e4]; simp), ih r s w' (by omega) h2 (by omega)]
          simp [e4, Tm.ren, Tm.renL, Tm.nodesL, Tm.nodes]
          omega
        · simp only [Tm.nodesL] at hN hw
          rw [if_neg (by rw [e4]; simp), ih r s w' (by omega) h2 (by omega)]
          simp [e4, Tm.ren, Tm.renL, Tm.nodesL, Tm.nodes]
          omega
        · rw [if_pos (by rw [e3]), e3]
          simp only
          have ha := laidL_all M g l x 0 (by simpa using e4)
          have hb : argsAt x (l.length : Int) = (List.range l.length).map fun i => x + 1 + ((0 + i : Nat) : Int) := by
            unfold argsAt; rw [Int.toNat_natCast]; simp
          rw [hb, ih l _ w' (by omega) ha (by omega)]
          simp only
          rw [Nat.min_eq_right (by omega), ih r s _ (by omega) h2 (by omega)]
          simp only [List.map_cons, Tm.ren, Tm.renL_map, Tm.nodesL, Tm.nodes, Option.some.injEq, Prod.mk.injEq]
          refine ⟨by simp, by omega⟩

theorem rd1_laid {M : List Ce} {g : Int → Int} {a : Int} {t : Tm} {w : Nat} (h : Laid M g a t) (hw : t.nodes ≤ w) : rd1 M w a = some (t.ren g, w - t.nodes) := by
  unfold rd1
  rw [rd_laid M g (Tm.nodesL [t]) [t] [a] w (Nat.le_refl _) ⟨h, trivial⟩ (by simp [Tm.nodesL]; omega)]
  simp [Tm.nodesL]

/-! the block's cells are valid -/
def OkN (N : Nat) (c : List Ce) : Prop := ∀ (i : Nat) (x : Ce), c[i]? = some x → x.OkAt N i

theorem OkN.set {N : Nat} {c : List Ce} {k : Nat} {x : Ce} (h : OkN N c) (hx : x.OkAt N k) : OkN N (c.set k x) := by
  intro i y hy
  rw [List.getElem?_set] at hy
  split at hy
  · rename_i e
    subst e
    split at hy
    · simp only [Option.some.injEq] at hy; subst hy; exact hx
    · cases hy
  · exact h i y hy

theorem OkN.append {N : Nat} {c d : List Ce} (h : OkN N c) (hd : ∀ (i : Nat) (x : Ce), d[i]? = some x → x.OkAt N (c.length + i)) : OkN N (c ++ d) := by
  intro i y hy
  rw [List.getElem?_append] at hy
  split at hy
  · exact h i y hy
  · rename_i hl
    have := hd _ _ hy
    rwa [show c.length + (i - c.length) = i by omega] at this

theorem empty_toList : ByteArray.empty.toList = [] := List.isEmpty_iff.1 (toList_nil.2 rfl)
theorem zero_ok {N i : Nat} (h : 0 < N) : (⟨0, 0, ByteArray.empty⟩ : Ce).OkAt N i := .inl ⟨rfl, by simp, by simpa using h, empty_toList⟩
theorem name_ne {s : ByteArray} (h : IsName s) : s.toList ≠ [] := by
  intro e
  have h1 := toList_nil.1 (by rw [e]; rfl)
  subst h1
  rcases h with h | ⟨h, -⟩
  · exact absurd h (by decide)
  · exact absurd h (by decide)

theorem frameCells_ok {N : Nat} {c : List Ce} {s : ByteArray} {n : Nat} (h : OkN N c) (hs : s.toList ≠ []) (h1 : 1 ≤ n) (h4 : n ≤ 4) (hN : c.length + 1 + n ≤ N) :
    OkN N (c ++ ⟨3, (n : Int), s⟩ :: List.replicate n ⟨0, 0, ByteArray.empty⟩) := by
  refine h.append fun i x hx => ?_
  cases i with
  | zero =>
    simp only [List.getElem?_cons_zero, Option.some.injEq] at hx
    subst hx
    exact .inr (.inr (.inr ⟨rfl, by simp only; omega, by simp only; omega, by simp only; omega, hs⟩))
  | succ i =>
    simp only [List.getElem?_cons_succ, List.getElem?_replicate] at hx
    split at hx
    · simp only [Option.some.injEq] at hx; subst hx; exact zero_ok (by omega)
    · cases hx

theorem put_good {v N : Nat} (hvN : v ≤ N) : ∀ (t : Tm) (c : List Ce) (k : Nat), t.Good (v : Int) → OkN N c → (putF c k t).length ≤ N → OkN N (putF c k t) := by
  intro t
  induction t using Tm.induct with
  | h kd n s l ih =>
    intro c k hg hc hN
    have hL : ∀ (r : List Tm), (∀ t ∈ r, t ∈ l) → (∀ t ∈ r, t.Good (v : Int)) → ∀ (c : List Ce) (k : Nat), OkN N c → (putLF c k r).length ≤ N → OkN N (putLF c k r) := by
      intro r
      induction r with
      | nil => intro _ _ c k h _; exact h
      | cons x r ihr =>
        intro hm hgr c k h hN
        simp only [putLF] at hN ⊢
        have h2 := (putL_len r (putF c k x) (k + 1)).1
        exact ihr (fun t ht => hm t (List.mem_cons_of_mem _ ht)) (fun t ht => hgr t (List.mem_cons_of_mem _ ht)) _ _ (ih x (hm x (List.mem_cons_self ..)) c k (hgr x (List.mem_cons_self ..)) h (by omega)) hN
    cases hg with
    | var _ h0 h1 =>
      simp only [putF, if_true]
      exact hc.set (.inl ⟨rfl, h0, by simp only; omega, empty_toList⟩)
    | atom _ h =>
      simp [putF]
      exact hc.set (.inr (.inl ⟨rfl, rfl, name_ne h⟩))
    | int _ h0 h1 =>
      simp [putF]
      exact hc.set (.inr (.inr (.inl ⟨rfl, empty_toList⟩)))
    | comp _ _ h h1 h2 h3 h4 =>
      have hp : putF c k (.mk 3 0 s l) = putLF (c.set k ⟨0, (c.length : Int), ByteArray.empty⟩ ++ ⟨3, (l.length : Int), s⟩ :: List.replicate l.length ⟨0, 0, ByteArray.empty⟩) (c.length + 1) l := by simp [putF]
      rw [hp] at hN ⊢
      have hlen := (putL_len l (c.set k ⟨0, (c.length : Int), ByteArray.empty⟩ ++ ⟨3, (l.length : Int), s⟩ :: List.replicate l.length ⟨0, 0, ByteArray.empty⟩) (c.length + 1)).1
      simp only [List.length_append, List.length_set, List.length_cons, List.length_replicate] at hlen
      refine hL l (fun _ h => h) h4 _ _ (frameCells_ok (hc.set (.inl ⟨rfl, by simp only; omega, by simp only; omega, empty_toList⟩)) (name_ne h) h2 h3 (by simp; omega)) hN

theorem putL_good {v N : Nat} (hvN : v ≤ N) : ∀ (r : List Tm) (c : List Ce) (k : Nat), (∀ t ∈ r, t.Good (v : Int)) → OkN N c → (putLF c k r).length ≤ N → OkN N (putLF c k r)
  | [], _, _, _, h, _ => h
  | x :: r, c, k, hgr, h, hN => by
    simp only [putLF] at hN ⊢
    have h2 := (putL_len r (putF c k x) (k + 1)).1
    exact putL_good hvN r _ _ (fun t ht => hgr t (List.mem_cons_of_mem _ ht)) (put_good hvN x c k (hgr x (List.mem_cons_self ..)) h (by omega)) hN

theorem goal_good {v N : Nat} (hvN : v ≤ N) (t : Tm) (c : List Ce) (hg : t.Good (v : Int)) (hc : OkN N c) (hN : (goalF c t).length ≤ N) (h0 : 0 < N) : OkN N (goalF c t) := by
  by_cases h3 : t.kind = 3
  · obtain ⟨kd, n, s, l⟩ := t
    simp only [Tm.kind] at h3
    subst h3
    have hp : goalF c (.mk 3 n s l) = putLF (c ++ ⟨3, (l.length : Int), s⟩ :: List.replicate l.length ⟨0, 0, ByteArray.empty⟩) (c.length + 1) l := by simp [goalF, Tm.kind, frameF]
    rw [hp] at hN ⊢
    have hlen := (putL_len l (c ++ ⟨3, (l.length : Int), s⟩ :: List.replicate l.length ⟨0, 0, ByteArray.empty⟩) (c.length + 1)).1
    simp only [List.length_append, List.length_cons, List.length_replicate] at hlen
    cases hg with
    | comp _ _ h h1 h2 h3 h4 => exact putL_good hvN l _ _ h4 (frameCells_ok hc (name_ne h) h2 h3 (by omega)) hN
  · rw [goalF, if_neg h3] at hN ⊢
    refine put_good hvN t _ _ hg (hc.append fun i x hx => ?_) hN
    cases i with
    | zero => simp only [List.getElem?_cons_zero, Option.some.injEq] at hx; subst hx; exact zero_ok h0
    | succ i => simp at hx

theorem goals_good {v N : Nat} (hvN : v ≤ N) (h0 : 0 < N) : ∀ (l : List Tm) (c : List Ce), (∀ t ∈ l, t.Good (v : Int)) → OkN N c → (goalsF c l).1.length ≤ N → OkN N (goalsF c l).1
  | [], _, _, h, _ => h
  | x :: r, c, hg, h, hN => by
    simp only [goalsF] at hN ⊢
    have h2 := (goalsF_len1 r (goalF c x)).1
    exact goals_good hvN h0 r _ (fun t ht => hg t (List.mem_cons_of_mem _ ht)) (goal_good hvN x c (hg x (List.mem_cons_self ..)) h (by omega) h0) hN

theorem begF_ok {n N : Nat} (h : n ≤ N) : OkN N (begF n) := by
  intro i x hx
  have hi := (List.getElem?_eq_some_iff.1 hx).1
  rw [begF_len] at hi
  simp only [begF, List.getElem?_map, List.getElem?_range hi, Option.map_some, Option.some.injEq] at hx
  subst hx
  exact .inl ⟨rfl, by simp, by simp only; omega, empty_toList⟩
theorem begF_vars (n : Nat) : VarsAt (begF n) n := fun i hi => by simp [begF, List.getElem?_range hi]
end Go.Proofs.Ytlpmfkpefoegeab
