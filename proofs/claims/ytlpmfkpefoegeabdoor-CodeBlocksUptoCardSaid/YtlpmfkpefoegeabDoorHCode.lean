/-
  A clause's block: what lies at its places, in plain data.
-/
import Derived.Test.YtlpmfkpefoegeabDoorQCode
import Derived.Test.YtlpmfkpefoegeabDoorHTerm
import Derived.Test.YtlpmfkpefoegeabDoorHLoad
namespace Go.Proofs.YtlpmfkpefoegeabDoor
set_option linter.unusedVariables false
set_option linter.unusedSimpArgs false

/-- at a place lies a term, its variables' places by g -/
def Laid (L : List Ce) (g : Int → Int) : Int → Tm → Prop
  | a, .mk k n s l => ∃ x, Looks L a x ∧ ((k = 0 ∧ l = [] ∧ s = ByteArray.empty ∧ x = g n ∧ (cellAt L x).kind = 0) ∨ (k = 1 ∧ l = [] ∧ n = 0 ∧ cellAt L x = ⟨1, 0, s⟩) ∨ (k = 2 ∧ l = [] ∧ s = ByteArray.empty ∧ cellAt L x = ⟨2, n, ByteArray.empty⟩) ∨
      (k = 3 ∧ n = 0 ∧ cellAt L x = ⟨3, (l.length : Int), s⟩ ∧ LaidL L g (x + 1) l))
where LaidL (L : List Ce) (g : Int → Int) : Int → List Tm → Prop
  | _, [] => True
  | a, t :: r => Laid L g a t ∧ LaidL L g (a + 1) r

/-- the cells of L from here on are those of c -/
def Agree (L c : List Ce) (k lo hi : Nat) (m : Nat) : Prop := ∀ i, ((k ≤ i ∧ i < k + m) ∨ lo ≤ i) → i < hi → L[i]? = c[i]?

theorem getElem?_set_ne' {c : List Ce} {k i : Nat} {x : Ce} (h : k ≠ i) : (c.set k x)[i]? = c[i]? := List.getElem?_set_ne h

/-- what put leaves alone -/
theorem put_keep : ∀ (t : Tm) (c : List Ce) (k i : Nat), i < c.length → i ≠ k → (putF c k t)[i]? = c[i]? := by
  intro t
  induction t using Tm.induct with
  | h kd n s l ih =>
    intro c k i hi hne
    have hL : ∀ (r : List Tm), (∀ t ∈ r, t ∈ l) → ∀ (c : List Ce) (k i : Nat), i < c.length → (i < k ∨ k + r.length ≤ i) → (putLF c k r)[i]? = c[i]? := by
      intro r
      induction r with
      | nil => intro _ c k i _ _; rfl
      | cons x r ihr =>
        intro hm c k i hi hne
        simp only [putLF, List.length_cons] at hne ⊢
        rw [ihr (fun t ht => hm t (List.mem_cons_of_mem _ ht)) _ (k + 1) i (by have := (put_len x c k).1; omega) (by omega)]
        exact ih x (hm x (List.mem_cons_self ..)) c k i hi (by omega)
    simp only [putF]
    repeat' split
    · exact List.getElem?_set_ne (Ne.symm hne)
    · exact List.getElem?_set_ne (Ne.symm hne)
    · exact List.getElem?_set_ne (Ne.symm hne)
    · rw [hL l (fun _ h => h) _ _ i (by simp; omega) (by omega), List.getElem?_append_left (by simpa using hi)]
      exact List.getElem?_set_ne (Ne.symm hne)
    · rfl

theorem putL_keep : ∀ (r : List Tm) (c : List Ce) (k i : Nat), i < c.length → (i < k ∨ k + r.length ≤ i) → (putLF c k r)[i]? = c[i]?
  | [], _, _, _, _, _ => rfl
  | x :: r, c, k, i, hi, hne => by
    simp only [putLF, List.length_cons] at hne ⊢
    rw [putL_keep r _ (k + 1) i (by have := (put_len x c k).1; omega) (by omega)]
    exact put_keep x c k i hi (by omega)

/-- the variables' cells -/
def VarsAt (L : List Ce) (v : Nat) : Prop := ∀ i, i < v → L[i]? = some ⟨0, (i : Int), ByteArray.empty⟩

theorem cellAt_some {L : List Ce} {i : Nat} {c : Ce} (h : L[i]? = some c) : cellAt L (i : Int) = c ∧ Inb L (i : Int) := by
  have hl : i < L.length := (List.getElem?_eq_some_iff.1 h).1
  unfold cellAt Inb
  rw [Int.toNat_natCast, h]
  exact ⟨rfl, by omega, by omega⟩

/-- put lays the term -/
theorem put_laid (v : Nat) : ∀ (t : Tm) (c : List Ce) (k : Nat) (L : List Ce), t.Good (v : Int) → k < c.length → v ≤ k → VarsAt L v → Agree L (putF c k t) k c.length (putF c k t).length 1 → Laid L id (k : Int) t := by
  intro t
  induction t using Tm.induct with
  | h kd n s l ih =>
    intro c k L hg hk hv hva hag
    have hL : ∀ (r : List Tm), (∀ t ∈ r, t ∈ l) → (∀ t ∈ r, t.Good (v : Int)) → ∀ (c : List Ce) (k : Nat), k + r.length ≤ c.length → v ≤ k → Agree L (putLF c k r) k c.length (putLF c k r).length r.length → Laid.LaidL L id (k : Int) r := by
      intro r
      induction r with
      | nil => intro _ _ c k _ _ _; simp only [Laid.LaidL]
      | cons x r ihr =>
        intro hm hgr c k hkl hv hag
        simp only [List.length_cons] at hkl hag
        simp only [putLF] at hag
        have h1 := put_len x c k
        have h2 := putL_len r (putF c k x) (k + 1)
        simp only [Laid.LaidL]
        refine ⟨ih x (hm x (List.mem_cons_self ..)) c k L (hgr x (List.mem_cons_self ..)) (by omega) hv hva (fun i hi hil => ?_), ?_⟩
        · rw [hag i (by omega) (by omega)]
          exact putL_keep r _ _ i hil (by omega)
        · have := ihr (fun t ht => hm t (List.mem_cons_of_mem _ ht)) (fun t ht => hgr t (List.mem_cons_of_mem _ ht)) (putF c k x) (k + 1) (by omega) (by omega) (fun i hi hil => hag i (by omega) (by omega))
          rw [show ((k + 1 : Nat) : Int) = (k : Int) + 1 by omega] at this
          exact this
    have hk0 := hag k (by omega) (by have := (put_len (.mk kd n s l) c k).1; omega)
    cases hg with
    | var _ h0 h1 =>
      obtain ⟨m, rfl⟩ := Int.eq_ofNat_of_zero_le h0
      simp only [putF, if_true] at hk0
      rw [List.getElem?_set_self hk] at hk0
      obtain ⟨e1, e2⟩ := cellAt_some hk0
      obtain ⟨e3, e4⟩ := cellAt_some (hva m (by omega))
      rw [Laid]
      refine ⟨(m : Int), .next e2 (fun hs => ?_) (by rw [e1]; exact .stop e4 (.inr (by rw [e3]))), .inl ⟨rfl, rfl, rfl, rfl, by rw [e3]⟩⟩
      unfold Stop at hs
      rw [e1] at hs
      simp at hs
      omega
    | atom _ h =>
      simp [putF] at hk0
      rw [List.getElem?_set_self hk] at hk0
      obtain ⟨e1, e2⟩ := cellAt_some hk0
      rw [Laid]
      exact ⟨(k : Int), .stop e2 (.inl (by rw [e1]; simp)), .inr (.inl ⟨rfl, rfl, rfl, e1⟩)⟩
    | int _ h0 h1 =>
      simp [putF] at hk0
      rw [List.getElem?_set_self hk] at hk0
      obtain ⟨e1, e2⟩ := cellAt_some hk0
      rw [Laid]
      exact ⟨(k : Int), .stop e2 (.inl (by rw [e1]; simp)), .inr (.inr (.inl ⟨rfl, rfl, rfl, e1⟩))⟩
    | comp _ _ h h1 h2 h3 h4 =>
      have hp : putF c k (.mk 3 0 s l) = putLF (c.set k ⟨0, (c.length : Int), ByteArray.empty⟩ ++ ⟨3, (l.length : Int), s⟩ :: List.replicate l.length ⟨0, 0, ByteArray.empty⟩) (c.length + 1) l := by simp [putF]
      rw [hp] at hag hk0
      have hlen := putL_len l (c.set k ⟨0, (c.length : Int), ByteArray.empty⟩ ++ ⟨3, (l.length : Int), s⟩ :: List.replicate l.length ⟨0, 0, ByteArray.empty⟩) (c.length + 1)
      simp only [List.length_append, List.length_set, List.length_cons, List.length_replicate] at hlen
      rw [putL_keep l _ _ k (by simp; omega) (by omega), List.getElem?_append_left (by simpa using hk), List.getElem?_set_self hk] at hk0
      have hf0 := hag c.length (by omega) (by omega)
      rw [putL_keep l _ _ c.length (by simp) (by omega), List.getElem?_append_right (by simp)] at hf0
      simp only [List.length_set, Nat.sub_self, List.getElem?_cons_zero] at hf0
      obtain ⟨e1, e2⟩ := cellAt_some hk0
      obtain ⟨e3, e4⟩ := cellAt_some hf0
      rw [Laid]
      refine ⟨(c.length : Int), .next e2 (fun hs => ?_) (by rw [e1]; exact .stop e4 (.inl (by rw [e3]; simp))), .inr (.inr (.inr ⟨rfl, rfl, e3, ?_⟩))⟩
      · unfold Stop at hs
        rw [e1] at hs
        simp at hs
        omega
      · have := hL l (fun _ h => h) h4 (c.set k ⟨0, (c.length : Int), ByteArray.empty⟩ ++ ⟨3, (l.length : Int), s⟩ :: List.replicate l.length ⟨0, 0, ByteArray.empty⟩) (c.length + 1) (by simp; omega) (by omega) (fun i hi hil => hag i (by
          simp only [List.length_append, List.length_set, List.length_cons, List.length_replicate] at hi
          omega) hil)
        rw [show ((c.length + 1 : Nat) : Int) = (c.length : Int) + 1 by omega] at this
        exact this

theorem putL_laid (v : Nat) (L : List Ce) (hva : VarsAt L v) : ∀ (r : List Tm) (c : List Ce) (k : Nat), (∀ t ∈ r, t.Good (v : Int)) → k + r.length ≤ c.length → v ≤ k → Agree L (putLF c k r) k c.length (putLF c k r).length r.length → Laid.LaidL L id (k : Int) r
  | [], _, _, _, _, _, _ => by simp only [Laid.LaidL]
  | x :: r, c, k, hgr, hkl, hv, hag => by
    simp only [List.length_cons] at hkl hag
    simp only [putLF] at hag
    have h1 := put_len x c k
    have h2 := putL_len r (putF c k x) (k + 1)
    simp only [Laid.LaidL]
    refine ⟨put_laid v x c k L (hgr x (List.mem_cons_self ..)) (by omega) hv hva (fun i hi hil => ?_), ?_⟩
    · rw [hag i (by omega) (by omega)]
      exact putL_keep r _ _ i hil (by omega)
    · have := putL_laid v L hva r (putF c k x) (k + 1) (fun t ht => hgr t (List.mem_cons_of_mem _ ht)) (by omega) (by omega) (fun i hi hil => hag i (by omega) (by omega))
      rw [show ((k + 1 : Nat) : Int) = (k : Int) + 1 by omega] at this
      exact this

/-- goal leaves alone what there is -/
theorem goal_keep (t : Tm) (c : List Ce) (i : Nat) (hi : i < c.length) : (goalF c t)[i]? = c[i]? := by
  unfold goalF
  split
  · obtain ⟨k, n, s, l⟩ := t
    rw [frameF, putL_keep l _ _ i (by simp; omega) (by omega), List.getElem?_append_left hi]
  · rw [put_keep t _ _ i (by simp; omega) (by omega), List.getElem?_append_left hi]

theorem goal_laid (v : Nat) (t : Tm) (c L : List Ce) (hg : t.Good (v : Int)) (hv : v ≤ c.length) (hva : VarsAt L v) (hag : ∀ i, c.length ≤ i → i < (goalF c t).length → L[i]? = (goalF c t)[i]?) : Laid L id (c.length : Int) t := by
  by_cases h3 : t.kind = 3
  · obtain ⟨kd, n, s, l⟩ := t
    simp only [Tm.kind] at h3
    subst h3
    have hp : goalF c (.mk 3 n s l) = putLF (c ++ ⟨3, (l.length : Int), s⟩ :: List.replicate l.length ⟨0, 0, ByteArray.empty⟩) (c.length + 1) l := by simp [goalF, Tm.kind, frameF]
    rw [hp] at hag
    have hlen := putL_len l (c ++ ⟨3, (l.length : Int), s⟩ :: List.replicate l.length ⟨0, 0, ByteArray.empty⟩) (c.length + 1)
    simp only [List.length_append, List.length_cons, List.length_replicate] at hlen
    have hf0 := hag c.length (Nat.le_refl _) (by omega)
    rw [putL_keep l _ _ c.length (by simp) (by omega), List.getElem?_append_right (Nat.le_refl _)] at hf0
    simp only [Nat.sub_self, List.getElem?_cons_zero] at hf0
    obtain ⟨e3, e4⟩ := cellAt_some hf0
    cases hg with
    | comp _ _ h h1 h2 h3 h4 =>
      rw [Laid]
      refine ⟨(c.length : Int), .stop e4 (.inl (by rw [e3]; simp)), .inr (.inr (.inr ⟨rfl, rfl, e3, ?_⟩))⟩
      have := putL_laid v L hva l (c ++ ⟨3, (l.length : Int), s⟩ :: List.replicate l.length ⟨0, 0, ByteArray.empty⟩) (c.length + 1) h4 (by simp; omega) (by omega) (fun i hi hil => hag i (by
        simp only [List.length_append, List.length_cons, List.length_replicate] at hi
        omega) hil)
      rw [show ((c.length + 1 : Nat) : Int) = (c.length : Int) + 1 by omega] at this
      exact this
  · rw [goalF, if_neg h3] at hag
    refine put_laid v t (c ++ [⟨0, 0, ByteArray.empty⟩]) c.length L hg (by simp) hv hva (fun i hi hil => hag i (by
      simp only [List.length_append, List.length_singleton] at hi
      omega) hil)

theorem goals_keep : ∀ (l : List Tm) (c : List Ce) (i : Nat), i < c.length → (goalsF c l).1[i]? = c[i]?
  | [], _, _, _ => rfl
  | x :: r, c, i, hi => by
    simp only [goalsF]
    rw [goals_keep r (goalF c x) i (by have := (goalF_len x c).1; omega)]
    exact goal_keep x c i hi

/-- goals lie where they are told to lie -/
theorem goals_laid (v : Nat) (L : List Ce) (hva : VarsAt L v) : ∀ (l : List Tm) (c : List Ce), (∀ t ∈ l, t.Good (v : Int)) → v ≤ c.length → (∀ i, c.length ≤ i → i < (goalsF c l).1.length → L[i]? = (goalsF c l).1[i]?) →
    ∀ (j : Nat) (hj : j < l.length), ∃ a, (goalsF c l).2[j]? = some a ∧ Laid L id a l[j]
  | [], _, _, _, _, j, hj => by simp at hj
  | x :: r, c, hg, hv, hag, j, hj => by
    simp only [goalsF] at hag ⊢
    have h1 := goalF_len x c
    have h2 := goalsF_len1 r (goalF c x)
    cases j with
    | zero =>
      refine ⟨(c.length : Int), rfl, goal_laid v x c L (hg x (List.mem_cons_self ..)) hv hva (fun i hi hil => ?_)⟩
      rw [hag i hi (by omega)]
      exact goals_keep r _ i hil
    | succ j =>
      obtain ⟨a, e, ha⟩ := goals_laid v L hva r (goalF c x) (fun t ht => hg t (List.mem_cons_of_mem _ ht)) (by omega) (fun i hi hil => hag i (by omega) hil) j (by simpa using hj)
      exact ⟨a, by simpa using e, by simpa using ha⟩
end Go.Proofs.YtlpmfkpefoegeabDoor
