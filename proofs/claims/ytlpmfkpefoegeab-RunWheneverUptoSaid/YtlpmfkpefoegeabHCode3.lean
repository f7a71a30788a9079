/-
  A clause's block, loaded into a valid heap: the heap is valid, the clause's terms are there.
-/
import Derived.Test.YtlpmfkpefoegeabQCode
import Derived.Test.YtlpmfkpefoegeabHGc
import Derived.Test.YtlpmfkpefoegeabHLoad
import Derived.Test.YtlpmfkpefoegeabHBack
import Derived.Test.YtlpmfkpefoegeabPSolve
namespace Go.Proofs.Ytlpmfkpefoegeab
set_option linter.unusedVariables false
set_option linter.unusedSimpArgs false
def Laid (L : List Ce) (g : Int → Int) : Int → Tm → Prop
  | a, .mk k n s l => ∃ x, Looks L a x ∧ ((k = 0 ∧ l = [] ∧ s = ByteArray.empty ∧ x = g n ∧ (cellAt L x).kind = 0) ∨ (k = 1 ∧ l = [] ∧ n = 0 ∧ cellAt L x = ⟨1, 0, s⟩) ∨ (k = 2 ∧ l = [] ∧ s = ByteArray.empty ∧ cellAt L x = ⟨2, n, ByteArray.empty⟩) ∨
      (k = 3 ∧ n = 0 ∧ cellAt L x = ⟨3, (l.length : Int), s⟩ ∧ LaidL L g (x + 1) l))
where LaidL (L : List Ce) (g : Int → Int) : Int → List Tm → Prop
  | _, [] => True
  | a, t :: r => Laid L g a t ∧ LaidL L g (a + 1) r
def Agree (L c : List Ce) (k lo hi : Nat) (m : Nat) : Prop := ∀ i, ((k ≤ i ∧ i < k + m) ∨ lo ≤ i) → i < hi → L[i]? = c[i]?
theorem put_keep : ∀ (t : Tm) (c : List Ce) (k i : Nat), i < c.length → i ≠ k → (putF c k t)[i]? = c[i]? := by
  intro t
  induction t using Tm.induct with
  | h kd n s l ih =>
    intro c k i hi hne
    have hL : ∀ (r : List Tm), (∀ t ∈ r, t ∈ l) → ∀ (c : List Ce) (k i : Nat), i < c.length → (i < k ∨ k + r.length ≤ i) → (putLF c k r)[i]? = c[i]? := by
      intro r
      induction r with
      | nil => intro _ c k i _ _; rfl
      | cons x r ihr =>
        intro hm c k i hi hne
        simp only [putLF, List.length_cons] at hne ⊢
        rw [ihr (fun t ht => hm t (List.mem_cons_of_mem _ ht)) _ (k + 1) i (by have := (put_len x c k).1; omega) (by omega)]
        exact ih x (hm x (List.mem_cons_self ..)) c k i hi (by omega)
    simp only [putF]
    repeat' split
    · exact List.getElem?_set_ne (Ne.symm hne)
    · exact List.getElem?_set_ne (Ne.symm hne)
    · exact List.getElem?_set_ne (Ne.symm hne)
    · rw [hL l (fun _ h => h) _ _ i (by simp; omega) (by omega), List.getElem?_append_left (by simpa using hi)]
      exact List.getElem?_set_ne (Ne.symm hne)
    · rfl
theorem putL_keep : ∀ (r : List Tm) (c : List Ce) (k i : Nat), i < c.length → (i < k ∨ k + r.length ≤ i) → (putLF c k r)[i]? = c[i]?
  | [], _, _, _, _, _ => rfl
  | x :: r, c, k, i, hi, hne => by
    simp only [putLF, List.length_cons] at hne ⊢
    rw [putL_keep r _ (k + 1) i (by have := (put_len x c k).1; omega) (by omega)]
    exact put_keep x c k i hi (by omega)
def VarsAt (L : List Ce) (v : Nat) : Prop := ∀ i, i < v → L[i]? = some ⟨0, (i : Int), ByteArray.empty⟩
theorem cellAt_some {L : List Ce} {i : Nat} {c : Ce} (h : L[i]? = some c) : cellAt L (i : Int) = c ∧ Inb L (i : Int) := by
  have hl : i < L.length := (List.getElem?_eq_some_iff.1 h).1
  unfold cellAt Inb
  rw [Int.toNat_natCast, h]
  exact ⟨rfl, by omega, by omega⟩
theorem put_laid (v : Nat) : ∀ (t : Tm) (c : List Ce) (k : Nat) (L : List Ce), t.Good (v : Int) → k < c.length → v ≤ k → VarsAt L v → Agree L (putF c k t) k c.length (putF c k t).length 1 → Laid L id (k : Int) t := by
  intro t
  induction t using Tm.induct with
  | h kd n s l ih =>
    intro c k L hg hk hv hva hag
    have hL : ∀ (r : List Tm), (∀ t ∈ r, t ∈ l) → (∀ t ∈ r, t.Good (v : Int)) → ∀ (c : List Ce) (k : Nat), k + r.length ≤ c.length → v ≤ k → Agree L (putLF c k r) k c.length (putLF c k r).length r.length → Laid.LaidL L id (k : Int) r := by
      intro r
      induction r with
      | nil => intro _ _ c k _ _ _; simp only [Laid.LaidL]
      | cons x r ihr =>
        intro hm hgr c k hkl hv hag
        simp only [List.length_cons] at hkl hag
        simp only [putLF] at hag
        have h1 := put_len x c k
        have h2 := putL_len r (putF c k x) (k + 1)
        simp only [Laid.LaidL]
        refine ⟨ih x (hm x (List.mem_cons_self ..)) c k L (hgr x (List.mem_cons_self ..)) (by omega) hv hva (fun i hi hil => ?_), ?_⟩
        · rw [hag i (by omega) (by omega)]
          exact putL_keep r _ _ i hil (by omega)
        · have := ihr (fun t ht => hm t (List.mem_cons_of_mem _ ht)) (fun t ht => hgr t (List.mem_cons_of_mem _ ht)) (putF c k x) (k + 1) (by omega) (by omega) (fun i hi hil => hag i (by omega) (by omega))
          rw [show ((k + 1 : Nat) : Int) = (k : Int) + 1 by omega] at this
          exact this
    have hk0 := hag k (by omega) (by have := (put_len (.mk kd n s l) c k).1; omega)
    cases hg with
    | var _ h0 h1 =>
      obtain ⟨m, rfl⟩ := Int.eq_ofNat_of_zero_le h0
      simp only [putF, if_true] at hk0
      rw [List.getElem?_set_self hk] at hk0
      obtain ⟨e1, e2⟩ := cellAt_some hk0
      obtain ⟨e3, e4⟩ := cellAt_some (hva m (by omega))
      rw [Laid]
      refine ⟨(m : Int), .next e2 (fun hs => ?_) (by rw [e1]; exact .stop e4 (.inr (by rw [e3]))), .inl ⟨rfl, rfl, rfl, rfl, by rw [e3]⟩⟩
      unfold Stop at hs
      rw [e1] at hs
      simp at hs
      omega
    | atom _ h =>
      simp [putF] at hk0
      rw [List.getElem?_set_self hk] at hk0
      obtain ⟨e1, e2⟩ := cellAt_some hk0
      rw [Laid]
      exact ⟨(k : Int), .stop e2 (.inl (by rw [e1]; simp)), .inr (.inl ⟨rfl, rfl, rfl, e1⟩)⟩
    | int _ h0 h1 =>
      simp [putF] at hk0
      rw [List.getElem?_set_self hk] at hk0
      obtain ⟨e1, e2⟩ := cellAt_some hk0
      rw [Laid]
      exact ⟨(k : Int), .stop e2 (.inl (by rw [e1]; simp)), .inr (.inr (.inl ⟨rfl, rfl, rfl, e1⟩))⟩
    | comp _ _ h h1 h2 h3 h4 =>
      have hp : putF c k (.mk 3 0 s l) = putLF (c.set k ⟨0, (c.length : Int), ByteArray.empty⟩ ++ ⟨3, (l.length : Int), s⟩ :: List.replicate l.length ⟨0, 0, ByteArray.empty⟩) (c.length + 1) l := by simp [putF]
      rw [hp] at hag hk0
      have hlen := putL_len l (c.set k ⟨0, (c.length : Int), ByteArray.empty⟩ ++ ⟨3, (l.length : Int), s⟩ :: List.replicate l.length ⟨0, 0, ByteArray.empty⟩) (c.length + 1)
      simp only [List.length_append, List.length_set, List.length_cons, List.length_replicate] at hlen
      rw [putL_keep l _ _ k (by simp; omega) (by omega), List.getElem?_append_left (by simpa using hk), List.getElem?_set_self hk] at hk0
      have hf0 := hag c.length (by omega) (by omega)
      rw [putL_keep l _ _ c.length (by simp) (by omega), List.getElem?_append_right (by simp)] at hf0
      simp only [List.length_set, Nat.sub_self, List.getElem?_cons_zero] at hf0
      obtain ⟨e1, e2⟩ := cellAt_some hk0
      obtain ⟨e3, e4⟩ := cellAt_some hf0
      rw [Laid]
      refine ⟨(c.length : Int), .next e2 (fun hs => ?_) (by rw [e1]; exact .stop e4 (.inl (by rw [e3]; simp))), .inr (.inr (.inr ⟨rfl, rfl, e3, ?_⟩))⟩
      · unfold Stop at hs
        rw [e1] at hs
        simp at hs
        omega
      · have := hL l (fun _ h => h) h4 (c.set k ⟨0, (c.length : Int), ByteArray.empty⟩ ++ ⟨3, (l.length : Int), s⟩ :: List.replicate l.length ⟨0, 0, ByteArray.empty⟩) (c.length + 1) (by simp; omega) (by omega) (fun i hi hil => hag i (by
          simp only [List.length_append, List.length_set, List.length_cons, List.length_replicate] at hi
          omega) hil)
        rw [show ((c.length + 1 : Nat) : Int) = (c.length : Int) + 1 by omega] at this
        exact this
theorem putL_laid (v : Nat) (L : List Ce) (hva : VarsAt L v) : ∀ (r : List Tm) (c : List Ce) (k : Nat), (∀ t ∈ r, t.Good (v : Int)) → k + r.length ≤ c.length → v ≤ k → Agree L (putLF c k r) k c.length (putLF c k r).length r.length → Laid.LaidL L id (k : Int) r
  | [], _, _, _, _, _, _ => by simp only [Laid.LaidL]
  | x :: r, c, k, hgr, hkl, hv, hag => by
    simp only [List.length_cons] at hkl hag
    simp only [putLF] at hag
    have h1 := put_len x c k
    have h2 := putL_len r (putF c k x) (k + 1)
    simp only [Laid.LaidL]
    refine ⟨put_laid v x c k L (hgr x (List.mem_cons_self ..)) (by omega) hv hva (fun i hi hil => ?_), ?_⟩
    · rw [hag i (by omega) (by omega)]
      exact putL_keep r _ _ i hil (by omega)
    · have := putL_laid v L hva r (putF c k x) (k + 1) (fun t ht => hgr t (List.mem_cons_of_mem _ ht)) (by omega) (by omega) (fun i hi hil => hag i (by omega) (by omega))
      rw [show ((k + 1 : Nat) : Int) = (k : Int) + 1 by omega] at this
      exact this
theorem goal_keep (t : Tm) (c : List Ce) (i : Nat) (hi : i < c.length) : (goalF c t)[i]? = c[i]? := by
  unfold goalF
  split
  · obtain ⟨k, n, s, l⟩ := t
    rw [frameF, putL_keep l _ _ i (by simp; omega) (by omega), List.getElem?_append_left hi]
  · rw [put_keep t _ _ i (by simp; omega) (by omega), List.getElem?_append_left hi]
theorem goal_laid (v : Nat) (t : Tm) (c L : List Ce) (hg : t.Good (v : Int)) (hv : v ≤ c.length) (hva : VarsAt L v) (hag : ∀ i, c.length ≤ i → i < (goalF c t).length → L[i]? = (goalF c t)[i]?) : Laid L id (c.length : Int) t := by
  by_cases h3 : t.kind = 3
  · obtain ⟨kd, n, s, l⟩ := t
    simp only [Tm.kind] at h3
    subst h3
    have hp : goalF c (.mk 3 n s l) = putLF (c ++ ⟨3, (l.length : Int), s⟩ :: List.replicate l.length ⟨0, 0, ByteArray.empty⟩) (c.length + 1) l := by simp [goalF, Tm.kind, frameF]
    rw [hp] at hag
    have hlen := putL_len l (c ++ ⟨3, (l.length : Int), s⟩ :: List.replicate l.length ⟨0, 0, ByteArray.empty⟩) (c.length + 1)
    simp only [List.length_append, List.length_cons, List.length_replicate] at hlen
    have hf0 := hag c.length (Nat.le_refl _) (by omega)
    rw [putL_keep l _ _ c.length (by simp) (by omega), List.getElem?_append_right (Nat.le_refl _)] at hf0
    simp only [Nat.sub_self, List.getElem?_cons_zero] at hf0
    obtain ⟨e3, e4⟩ := cellAt_some hf0
    cases hg with
    | comp _ _ h h1 h2 h3 h4 =>
      rw [Laid]
      refine ⟨(c.length : Int), .stop e4 (.inl (by rw [e3]; simp)), .inr (.inr (.inr ⟨rfl, rfl, e3, ?_⟩))⟩
      have := putL_laid v L hva l (c ++ ⟨3, (l.length : Int), s⟩ :: List.replicate l.length ⟨0, 0, ByteArray.empty⟩) (c.length + 1) h4 (by simp; omega) (by omega) (fun i hi hil => hag i (by
        simp only [List.length_append, List.length_cons, List.length_replicate] at hi
        omega) hil)
      rw [show ((c.length + 1 : Nat) : Int) = (c.length : Int) + 1 by omega] at this
      exact this
  · rw [goalF, if_neg h3] at hag
    refine put_laid v t (c ++ [⟨0, 0, ByteArray.empty⟩]) c.length L hg (by simp) hv hva (fun i hi hil => hag i (by
      simp only [List.length_append, List.length_singleton] at hi
      omega) hil)
theorem goals_keep : ∀ (l : List Tm) (c : List Ce) (i : Nat), i < c.length → (goalsF c l).1[i]? = c[i]?
  | [], _, _, _ => rfl
  | x :: r, c, i, hi => by
    simp only [goalsF]
    rw [goals_keep r (goalF c x) i (by have := (goalF_len x c).1; omega)]
    exact goal_keep x c i hi
theorem goals_laid (v : Nat) (L : List Ce) (hva : VarsAt L v) : ∀ (l : List Tm) (c : List Ce), (∀ t ∈ l, t.Good (v : Int)) → v ≤ c.length → (∀ i, c.length ≤ i → i < (goalsF c l).1.length → L[i]? = (goalsF c l).1[i]?) →
    ∀ (j : Nat) (hj : j < l.length), ∃ a, (goalsF c l).2[j]? = some a ∧ Laid L id a l[j]
  | [], _, _, _, _, j, hj => by simp at hj
  | x :: r, c, hg, hv, hag, j, hj => by
    simp only [goalsF] at hag ⊢
    have h1 := goalF_len x c
    have h2 := goalsF_len1 r (goalF c x)
    cases j with
    | zero =>
      refine ⟨(c.length : Int), rfl, goal_laid v x c L (hg x (List.mem_cons_self ..)) hv hva (fun i hi hil => ?_)⟩
      rw [hag i hi (by omega)]
      exact goals_keep r _ i hil
    | succ j =>
      obtain ⟨a, e, ha⟩ := goals_laid v L hva r (goalF c x) (fun t ht => hg t (List.mem_cons_of_mem _ ht)) (by omega) (fun i hi hil => hag i (by omega) hil) j (by simpa using hj)
      exact ⟨a, by simpa using e, by simpa using ha⟩
section
variable {H F : List Ce}
theorem cellAt_shift {a : Int} (h : Inb F a) : cellAt (H ++ F.map (shC H.length)) (a + (H.length : Int)) = shC H.length (cellAt F a) ∧ Inb (H ++ F.map (shC H.length)) (a + (H.length : Int)) := by
  obtain ⟨h0, h1⟩ := h
  obtain ⟨k, rfl⟩ := Int.eq_ofNat_of_zero_le h0
  have hk : k < F.length := by omega
  have h2 : (H ++ F.map (shC H.length))[H.length + k]? = some (shC H.length F[k]) := by
    rw [List.getElem?_append_right (by omega), List.getElem?_map, Nat.add_sub_cancel_left, List.getElem?_eq_getElem hk]; rfl
  have h3 := cellAt_some h2
  rw [show ((H.length + k : Nat) : Int) = (k : Int) + (H.length : Int) by omega] at h3
  rw [cellAt_nat hk]
  exact h3
theorem shC_kind (b : Nat) (c : Ce) : (shC b c).kind = c.kind := by unfold shC; split <;> rfl
theorem shC_same (b : Nat) {c : Ce} (h : c.kind ≠ 0) : shC b c = c := by unfold shC; rw [if_neg h]
theorem shC_n (b : Nat) {c : Ce} (h : c.kind = 0) : (shC b c).n = c.n + b := by unfold shC; rw [if_pos h]
theorem looks_shift {a x : Int} (h : Looks F a x) : Looks (H ++ F.map (shC H.length)) (a + (H.length : Int)) (x + (H.length : Int)) := by
  induction h with
  | @stop a0 h1 h2 =>
    obtain ⟨e1, e2⟩ := cellAt_shift (H := H) h1
    refine .stop e2 ?_
    rcases h2 with h2 | h2
    · exact .inl (by rw [e1, shC_kind]; exact h2)
    · by_cases hk : (cellAt F a0).kind = 0
      · exact .inr (by rw [e1, shC_n _ hk, h2])
      · exact .inl (by rw [e1, shC_kind]; exact hk)
  | @next a0 x0 h1 h2 _ ih =>
    obtain ⟨e1, e2⟩ := cellAt_shift (H := H) h1
    have hk : (cellAt F a0).kind = 0 := Classical.byContradiction fun hk => h2 (.inl hk)
    refine .next e2 (fun hs => h2 ?_) (by rw [e1, shC_n _ hk]; exact ih)
    rcases hs with hs | hs
    · rw [e1, shC_kind] at hs; exact .inl hs
    · rw [e1, shC_n _ hk] at hs; exact .inr (by omega)
theorem laid_shift : ∀ (t : Tm) (a : Int), Laid F id a t → Laid (H ++ F.map (shC H.length)) (fun n => n + (H.length : Int)) (a + (H.length : Int)) t := by
  intro t
  induction t using Tm.induct with
  | h k n s l ih =>
    intro a h
    have hL : ∀ (r : List Tm), (∀ t ∈ r, t ∈ l) → ∀ a, Laid.LaidL F id a r → Laid.LaidL (H ++ F.map (shC H.length)) (fun n => n + (H.length : Int)) (a + (H.length : Int)) r := by
      intro r
      induction r with
      | nil => intro _ a _; simp only [Laid.LaidL]
      | cons x r ihr =>
        intro hm a h
        simp only [Laid.LaidL] at h ⊢
        refine ⟨ih x (hm x (List.mem_cons_self ..)) a h.1, ?_⟩
        have := ihr (fun t ht => hm t (List.mem_cons_of_mem _ ht)) _ h.2
        rw [show a + 1 + (H.length : Int) = a + (H.length : Int) + 1 by omega] at this
        exact this
    rw [Laid] at h ⊢
    obtain ⟨x, hx, hc⟩ := h
    obtain ⟨e1, e2⟩ := cellAt_shift (H := H) hx.end_.1
    refine ⟨x + (H.length : Int), looks_shift hx, ?_⟩
    rcases hc with ⟨h1, h2, h3, h4, h5⟩ | ⟨h1, h2, h3, h4⟩ | ⟨h1, h2, h3, h4⟩ | ⟨h1, h2, h3, h4⟩
    · exact .inl ⟨h1, h2, h3, by rw [h4]; rfl, by rw [e1, shC_kind]; exact h5⟩
    · exact .inr (.inl ⟨h1, h2, h3, by rw [e1, shC_same _ (by rw [h4]; simp), h4]⟩)
    · exact .inr (.inr (.inl ⟨h1, h2, h3, by rw [e1, shC_same _ (by rw [h4]; simp), h4]⟩))
    · refine .inr (.inr (.inr ⟨h1, h2, by rw [e1, shC_same _ (by rw [h3]; simp), h3], ?_⟩))
      have := hL l (fun _ h => h) _ h4
      rw [show x + 1 + (H.length : Int) = x + (H.length : Int) + 1 by omega] at this
      exact this
end
/-! the block's cells are valid -/
def OkN (N : Nat) (c : List Ce) : Prop := ∀ (i : Nat) (x : Ce), c[i]? = some x → x.OkAt N i
theorem OkN.set {N : Nat} {c : List Ce} {k : Nat} {x : Ce} (h : OkN N c) (hx : x.OkAt N k) : OkN N (c.set k x) := by
  intro i y hy
  rw [List.getElem?_set] at hy
  split at hy
  · rename_i e
    subst e
    split at hy
    · simp only [Option.some.injEq] at hy; subst hy; exact hx
    · cases hy
  · exact h i y hy
theorem OkN.append {N : Nat} {c d : List Ce} (h : OkN N c) (hd : ∀ (i : Nat) (x : Ce), d[i]? = some x → x.OkAt N (c.length + i)) : OkN N (c ++ d) := by
  intro i y hy
  rw [List.getElem?_append] at hy
  split at hy
  · exact h i y hy
  · rename_i hl
    have := hd _ _ hy
    rwa [show c.length + (i - c.length) = i by omega] at this
theorem empty_toList : ByteArray.empty.toList = [] := List.isEmpty_iff.1 (toList_nil.2 rfl)
theorem zero_ok {N i : Nat} (h : 0 < N) : (⟨0, 0, ByteArray.empty⟩ : Ce).OkAt N i := .inl ⟨rfl, by simp, by simpa using h, empty_toList⟩
theorem name_ne {s : ByteArray} (h : IsName s) : s.toList ≠ [] := by
  intro e
  have h1 := toList_nil.1 (by rw [e]; rfl)
  subst h1
  rcases h with h | ⟨h, -⟩
  · exact absurd h (by decide)
  · exact absurd h (by decide)
theorem frameCells_ok {N : Nat} {c : List Ce} {s : ByteArray} {n : Nat} (h : OkN N c) (hs : s.toList ≠ []) (h1 : 1 ≤ n) (h4 : n ≤ 4) (hN : c.length + 1 + n ≤ N) :
    OkN N (c ++ ⟨3, (n : Int), s⟩ :: List.replicate n ⟨0, 0, ByteArray.empty⟩) := by
  refine h.append fun i x hx => ?_
  cases i with
  | zero =>
    simp only [List.getElem?_cons_zero, Option.some.injEq] at hx
    subst hx
    exact .inr (.inr (.inr ⟨rfl, by simp only; omega, by simp only; omega, by simp only; omega, hs⟩))
  | succ i =>
    simp only [List.getElem?_cons_succ, List.getElem?_replicate] at hx
    split at hx
    · simp only [Option.some.injEq] at hx; subst hx; exact zero_ok (by omega)
    · cases hx
theorem put_good {v N : Nat} (hvN : v ≤ N) : ∀ (t : Tm) (c : List Ce) (k : Nat), t.Good (v : Int) → OkN N c → (putF c k t).length ≤ N → OkN N (putF c k t) := by
  intro t
  induction t using Tm.induct with
  | h kd n s l ih =>
    intro c k hg hc hN
    have hL : ∀ (r : List Tm), (∀ t ∈ r, t ∈ l) → (∀ t ∈ r, t.Good (v : Int)) → ∀ (c : List Ce) (k : Nat), OkN N c → (putLF c k r).length ≤ N → OkN N (putLF c k r) := by
      intro r
      induction r with
      | nil => intro _ _ c k h _; exact h
      | cons x r ihr =>
        intro hm hgr c k h hN
        simp only [putLF] at hN ⊢
        have h2 := (putL_len r (putF c k x) (k + 1)).1
        exact ihr (fun t ht => hm t (List.mem_cons_of_mem _ ht)) (fun t ht => hgr t (List.mem_cons_of_mem _ ht)) _ _ (ih x (hm x (List.mem_cons_self ..)) c k (hgr x (List.mem_cons_self ..)) h (by omega)) hN
    cases hg with
    | var _ h0 h1 =>
      simp only [putF, if_true]
      exact hc.set (.inl ⟨rfl, h0, by simp only; omega, empty_toList⟩)
    | atom _ h =>
      simp [putF]
      exact hc.set (.inr (.inl ⟨rfl, rfl, name_ne h⟩))
    | int _ h0 h1 =>
      simp [putF]
      exact hc.set (.inr (.inr (.inl ⟨rfl, empty_toList⟩)))
    | comp _ _ h h1 h2 h3 h4 =>
      have hp : putF c k (.mk 3 0 s l) = putLF (c.set k ⟨0, (c.length : Int), ByteArray.empty⟩ ++ ⟨3, (l.length : Int), s⟩ :: List.replicate l.length ⟨0, 0, ByteArray.empty⟩) (c.length + 1) l := by simp [putF]
      rw [hp] at hN ⊢
      have hlen := (putL_len l (c.set k ⟨0, (c.length : Int), ByteArray.empty⟩ ++ ⟨3, (l.length : Int), s⟩ :: List.replicate l.length ⟨0, 0, ByteArray.empty⟩) (c.length + 1)).1
      simp only [List.length_append, List.length_set, List.length_cons, List.length_replicate] at hlen
      refine hL l (fun _ h => h) h4 _ _ (frameCells_ok (hc.set (.inl ⟨rfl, by simp only; omega, by simp only; omega, empty_toList⟩)) (name_ne h) h2 h3 (by simp; omega)) hN
theorem putL_good {v N : Nat} (hvN : v ≤ N) : ∀ (r : List Tm) (c : List Ce) (k : Nat), (∀ t ∈ r, t.Good (v : Int)) → OkN N c → (putLF c k r).length ≤ N → OkN N (putLF c k r)
  | [], _, _, _, h, _ => h
  | x :: r, c, k, hgr, h, hN => by
    simp only [putLF] at hN ⊢
    have h2 := (putL_len r (putF c k x) (k + 1)).1
    exact putL_good hvN r _ _ (fun t ht => hgr t (List.mem_cons_of_mem _ ht)) (put_good hvN x c k (hgr x (List.mem_cons_self ..)) h (by omega)) hN
theorem goal_good {v N : Nat} (hvN : v ≤ N) (t : Tm) (c : List Ce) (hg : t.Good (v : Int)) (hc : OkN N c) (hN : (goalF c t).length ≤ N) (h0 : 0 < N) : OkN N (goalF c t) := by
  by_cases h3 : t.kind = 3
  · obtain ⟨kd, n, s, l⟩ := t
    simp only [Tm.kind] at h3
    subst h3
    have hp : goalF c (.mk 3 n s l) = putLF (c ++ ⟨3, (l.length : Int), s⟩ :: List.replicate l.length ⟨0, 0, ByteArray.empty⟩) (c.length + 1) l := by simp [goalF, Tm.kind, frameF]
    rw [hp] at hN ⊢
    have hlen := (putL_len l (c ++ ⟨3, (l.length : Int), s⟩ :: List.replicate l.length ⟨0, 0, ByteArray.empty⟩) (c.length + 1)).1
    simp only [List.length_append, List.length_cons, List.length_replicate] at hlen
    cases hg with
    | comp _ _ h h1 h2 h3 h4 => exact putL_good hvN l _ _ h4 (frameCells_ok hc (name_ne h) h2 h3 (by omega)) hN
  · rw [goalF, if_neg h3] at hN ⊢
    refine put_good hvN t _ _ hg (hc.append fun i x hx => ?_) hN
    cases i with
    | zero => simp only [List.getElem?_cons_zero, Option.some.injEq] at hx; subst hx; exact zero_ok h0
    | succ i => simp at hx
theorem goals_good {v N : Nat} (hvN : v ≤ N) (h0 : 0 < N) : ∀ (l : List Tm) (c : List Ce), (∀ t ∈ l, t.Good (v : Int)) → OkN N c → (goalsF c l).1.length ≤ N → OkN N (goalsF c l).1
  | [], _, _, h, _ => h
  | x :: r, c, hg, h, hN => by
    simp only [goalsF] at hN ⊢
    have h2 := (goalsF_len1 r (goalF c x)).1
    exact goals_good hvN h0 r _ (fun t ht => hg t (List.mem_cons_of_mem _ ht)) (goal_good hvN x c (hg x (List.mem_cons_self ..)) h (by omega) h0) hN
theorem begF_ok {n N : Nat} (h : n ≤ N) : OkN N (begF n) := by
  intro i x hx
  have hi := (List.getElem?_eq_some_iff.1 hx).1
  rw [begF_len] at hi
  simp only [begF, List.getElem?_map, List.getElem?_range hi, Option.map_some, Option.some.injEq] at hx
  subst hx
  exact .inl ⟨rfl, by simp, by simp only; omega, empty_toList⟩
theorem begF_vars (n : Nat) : VarsAt (begF n) n := fun i hi => by simp [begF, List.getElem?_range hi]
theorem Ce.OkAt.more {N M i : Nat} {c : Ce} (h : c.OkAt N i) (hM : N ≤ M) : c.OkAt M i := by
  rcases h with ⟨h1, h2, h3, h4⟩ | h | h | ⟨h1, h2, h3, h4, h5⟩
  · exact .inl ⟨h1, h2, by omega, h4⟩
  · exact .inr (.inl h)
  · exact .inr (.inr (.inl h))
  · exact .inr (.inr (.inr ⟨h1, h2, h3, by omega, h5⟩))
theorem Ce.OkAt.moved {N i b : Nat} {c : Ce} (h : c.OkAt N i) : (shC b c).OkAt (b + N) (b + i) := by
  rcases h with ⟨h1, h2, h3, h4⟩ | ⟨h1, h2, h3⟩ | ⟨h1, h2⟩ | ⟨h1, h2, h3, h4, h5⟩
  · refine .inl ⟨by rw [shC_kind]; exact h1, ?_, ?_, ?_⟩
    · rw [shC_n _ h1]; omega
    · rw [shC_n _ h1]; omega
    · unfold shC; rw [if_pos h1]; exact h4
  · rw [shC_same _ (by rw [h1]; decide)]; exact .inr (.inl ⟨h1, h2, h3⟩)
  · rw [shC_same _ (by rw [h1]; decide)]; exact .inr (.inr (.inl ⟨h1, h2⟩))
  · rw [shC_same _ (by rw [h1]; decide)]; exact .inr (.inr (.inr ⟨h1, h2, h3, by omega, h5⟩))
theorem load_good {h : Hp} {F : List Ce} (hg : h.Good) (hF : GoodC F) (hl : h.cells.length + F.length ≤ 65536) : Hp.Good ⟨h.cells ++ F.map (shC h.cells.length), h.trail⟩ := by
  obtain ⟨g1, g2, g3, g4⟩ := hg
  refine ⟨fun i hi => ?_, fun j hj => ?_, by simpa using hl, g4⟩
  · simp only [List.length_append, List.length_map] at hi ⊢
    rw [List.getElem_append]
    split
    · rename_i hl2
      exact (g1 i hl2).more (by omega)
    · rename_i hl2
      rw [List.getElem_map]
      have := (hF (i - h.cells.length) (by omega)).moved (b := h.cells.length)
      rwa [show h.cells.length + (i - h.cells.length) = i by omega] at this
  · obtain ⟨v, e, hv, hk⟩ := g2 j hj
    refine ⟨v, e, by simp; omega, ?_⟩
    simp only
    rw [List.getElem_append_left hv]
    exact hk
theorem goalF_pos (t : Tm) (c : List Ce) : c.length < (goalF c t).length := by
  unfold goalF
  split
  · obtain ⟨k, n, s, l⟩ := t
    have h1 := (putL_len l (c ++ ⟨3, (l.length : Int), s⟩ :: List.replicate l.length ⟨0, 0, ByteArray.empty⟩) (c.length + 1)).1
    simp only [List.length_append, List.length_cons, List.length_replicate] at h1
    simp only [frameF]
    omega
  · rename_i h
    rw [put_len_flat h]
    simp
theorem code_block {h : Tm} {l : List Tm} {n : Nat} (hg : (⟨h, l, (n : Int)⟩ : Cl).Good) (F : List Ce) (hF : F = (goalsF (goalF (begF n) h) l).1) :
    F.length ≤ 296 ∧ GoodC F ∧ Laid F id (n : Int) h ∧ ∀ (j : Nat) (hj : j < l.length), ∃ a, (goalsF (goalF (begF n) h) l).2[j]? = some a ∧ Laid F id a l[j] := by
  obtain ⟨⟨v0, v8, l5, lg⟩, -, hft, -⟩ := hg
  simp only at v0 v8 l5 lg hft
  have hnd := nodesL_le l (fun g hg => (lg g hg).2.2)
  have h1 := goalF_len h (begF n)
  have h1p := goalF_pos h (begF n)
  have h2 := goalsF_len1 l (goalF (begF n) h)
  rw [begF_len] at h1 h1p
  have hh := hft.2
  rw [← hF] at h2
  have hlg : ∀ t ∈ l, t.Good (n : Int) := fun t ht => (lg t ht).2.1
  have hva : VarsAt F n := fun i hi => by
    rw [hF, goals_keep l _ i (by omega), goal_keep h _ i (by rw [begF_len]; exact hi)]
    exact begF_vars n i hi
  refine ⟨by omega, ?_, ?_, ?_⟩
  · have hok := goals_good (v := n) (N := F.length) (by omega) (by omega) l (goalF (begF n) h) hlg (goal_good (v := n) (by omega) h _ hft.1 (begF_ok (by omega)) (by omega) (by omega)) (by rw [← hF]; exact Nat.le_refl _)
    rw [← hF] at hok
    intro i hi
    exact hok i _ (List.getElem?_eq_getElem hi)
  · have := goal_laid n h (begF n) F hft.1 (by rw [begF_len]; exact Nat.le_refl _) hva (fun i hi hil => by rw [hF]; exact goals_keep l _ i hil)
    rw [begF_len] at this
    exact this
  · exact goals_laid n F hva l (goalF (begF n) h) hlg (by omega) (fun i hi hil => by rw [hF])
end Go.Proofs.Ytlpmfkpefoegeab
