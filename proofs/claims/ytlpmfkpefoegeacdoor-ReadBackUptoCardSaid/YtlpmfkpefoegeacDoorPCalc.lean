/-
  Small programs and queries reckoned out: what is good, what is read, what is answered.
-/
import Derived.Test.YtlpmfkpefoegeacDoorPRead3
import Derived.Test.YtlpmfkpefoegeacDoorPSolveM
import Derived.KernelRfl
namespace Go.Proofs.YtlpmfkpefoegeacDoor
set_option linter.unusedVariables false
set_option linter.unusedSimpArgs false
def nameB (d : Str) : Bool := d == [33] || (decide (1 ≤ d.length) && decide (d.length ≤ 8) && d.all lowB)
theorem nameB_ok {s : ByteArray} (h : nameB s.data.toList = true) : IsName s := by
  unfold nameB at h
  simp only [Bool.or_eq_true, Bool.and_eq_true, beq_iff_eq, decide_eq_true_eq, List.all_eq_true] at h
  rcases h with h | ⟨⟨h1, h2⟩, h3⟩
  · left
    have e : s = ⟨s.data.toList.toArray⟩ := by simp
    rw [e, h]
  · right
    have hs : s.data.toList.length = s.size := Array.length_toList
    refine ⟨by omega, by omega, fun i hi => ?_⟩
    have hm : s[i] ∈ s.data.toList := by
      show s.data[i] ∈ _
      exact Array.getElem_mem_toList hi
    have := h3 _ hm
    unfold lowB at this
    simp only [Bool.and_eq_true, decide_eq_true_eq] at this
    omega
mutual
def goodB (v : Int) : Tm → Bool
  | .mk k n s l => if k = 0 then decide (0 ≤ n) && decide (n < v) && s.data.toList.isEmpty && l.isEmpty
    else if k = 1 then decide (n = 0) && nameB s.data.toList && l.isEmpty
    else if k = 2 then decide (-1099511627776 ≤ n) && decide (n ≤ 1099511627776) && s.data.toList.isEmpty && l.isEmpty
    else if k = 3 then decide (n = 0) && nameB s.data.toList && !(s.data.toList == [33]) && decide (1 ≤ l.length) && decide (l.length ≤ 4) && goodBL v l
    else false
def goodBL (v : Int) : List Tm → Bool
  | [] => true
  | t :: r => goodB v t && goodBL v r
end
theorem empty_of {s : ByteArray} (h : s.data.toList.isEmpty = true) : s = ByteArray.empty := by
  have e : s = ⟨s.data.toList.toArray⟩ := by simp
  rw [List.isEmpty_iff] at h
  rw [e, h]; rfl
theorem goodB_ok {v : Int} : ∀ t : Tm, goodB v t = true → t.Good v := by
  intro t
  induction t using Tm.induct with
  | h k n s l ih =>
    intro h
    unfold goodB at h
    split at h
    · rename_i hk
      simp only [Bool.and_eq_true, decide_eq_true_eq, List.isEmpty_iff] at h
      obtain ⟨⟨⟨h1, h2⟩, h3⟩, h4⟩ := h
      rw [hk, empty_of (List.isEmpty_iff.2 h3), h4]
      exact .var n h1 h2
    · split at h
      · rename_i hk
        simp only [Bool.and_eq_true, decide_eq_true_eq, List.isEmpty_iff] at h
        obtain ⟨⟨h1, h2⟩, h3⟩ := h
        rw [hk, h1, h3]
        exact .atom s (nameB_ok h2)
      · split at h
        · rename_i hk
          simp only [Bool.and_eq_true, decide_eq_true_eq, List.isEmpty_iff] at h
          obtain ⟨⟨⟨h1, h2⟩, h3⟩, h4⟩ := h
          rw [hk, empty_of (List.isEmpty_iff.2 h3), h4]
          exact .int n h1 h2
        · split at h
          · rename_i hk
            simp only [Bool.and_eq_true, decide_eq_true_eq, Bool.not_eq_true', beq_eq_false_iff_ne] at h
            obtain ⟨⟨⟨⟨⟨h1, h2⟩, h3⟩, h4⟩, h5⟩, h6⟩ := h
            rw [hk, h1]
            have hl : ∀ (l' : List Tm), (∀ x ∈ l', x ∈ l) → goodBL v l' = true → ∀ x ∈ l', x.Good v := by
              intro l'
              induction l' with
              | nil => intro _ _ x hx; cases hx
              | cons y r ihr =>
                intro hm hg x hx
                unfold goodBL at hg
                simp only [Bool.and_eq_true] at hg
                rcases List.mem_cons.1 hx with rfl | hx
                · exact ih _ (hm _ (by simp)) hg.1
                · exact ihr (fun z hz => hm z (by simp [hz])) hg.2 x hx
            exact .comp s l (nameB_ok h2) (by rw [ByteArray.toList_eq]; exact h3) h4 h5 (hl l (fun x hx => hx) h6)
          · cases h
instance decKnown (t : Tm) : Decidable t.Known := by unfold Tm.Known; infer_instance
def goalB (v : Int) (t : Tm) : Bool := (t.kind == 1 || t.kind == 3) && goodB v t && decide (t.nodes ≤ 24)
theorem goalB_ok {v : Int} {t : Tm} (h : goalB v t = true) : t.IsGoal ∧ t.Fits v := by
  unfold goalB at h
  simp only [Bool.and_eq_true, Bool.or_eq_true, beq_iff_eq, decide_eq_true_eq] at h
  exact ⟨h.1.1, goodB_ok _ h.1.2, h.2⟩
def qryB (l : List Tm) (v : Int) : Bool := decide (0 ≤ v) && decide (v ≤ 8) && decide (l.length ≤ 5) && l.all (goalB v)
theorem qryB_ok {l : List Tm} {v : Int} (h : qryB l v = true) : GoodQ l v := by
  unfold qryB at h
  simp only [Bool.and_eq_true, decide_eq_true_eq, List.all_eq_true] at h
  exact ⟨h.1.1.1, h.1.1.2, h.1.2, fun g hg => goalB_ok (h.2 g hg)⟩
def clB (c : Cl) : Bool := qryB c.body c.vars && goalB c.vars c.head && !decide c.head.Known
theorem clB_ok {c : Cl} (h : clB c = true) : c.Good := by
  unfold clB at h
  simp only [Bool.and_eq_true, Bool.not_eq_true', decide_eq_false_iff_not] at h
  exact ⟨qryB_ok h.1.1, (goalB_ok h.1.2).1, (goalB_ok h.1.2).2, h.2⟩
/-! reading -/
def progC : Nat → List Cl → Rd → Option (List Cl)
  | 0, l, _ => none
  | k + 1, l, r => if r.space.s = [] then some l else if (clauseR r.space).2.bad = false ∧ clB (clauseR r.space).1 = true then progC k (l ++ [(clauseR r.space).1]) (clauseR r.space).2 else none
theorem progC_ok : ∀ (k : Nat) (l : List Cl) (r : Rd) (l' : List Cl), progC k l r = some l' → progR k l r = some l'
  | 0, l, r, l', h => by cases h
  | k + 1, l, r, l', h => by
    rw [progC] at h
    rw [progR]
    split at h
    · rename_i h0
      rw [if_pos h0]; exact h
    · rename_i h0
      rw [if_neg h0]
      split at h
      · rename_i hb
        rw [if_neg (fun e => e.elim (fun e => by rw [hb.1] at e; cases e) (fun e => e (clB_ok hb.2)))]
        exact progC_ok k _ _ _ h
      · cases h
theorem readR_calc {s : Str} {l : List Cl} (h1 : s.length ≤ 2000) (h2 : progC (s.length + 1) [] ⟨s, [], false⟩ = some l) (h3 : l.length ≤ 24) : readR s = (l, 0) := by
  unfold readR
  rw [if_neg (by omega), progC_ok _ _ _ _ h2]
  unfold progE
  simp only
  rw [if_neg (by omega)]
/-! answering -/
def aInt (n : Int) : Tm := .mk 2 n ⟨#[]⟩ []
def aVar (n : Int) : Tm := .mk 0 n ⟨#[]⟩ []
def aOne (c : UInt8) (t : Tm) : Tm := .mk 3 0 ⟨#[c]⟩ [t]
end Go.Proofs.YtlpmfkpefoegeacDoor
