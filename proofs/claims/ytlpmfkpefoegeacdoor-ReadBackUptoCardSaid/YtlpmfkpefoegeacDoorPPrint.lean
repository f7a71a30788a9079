/-
  Printing, in plain data.
-/
import Derived.Test.YtlpmfkpefoegeacDoorPRead3
import Derived.Test.YtlpmfkpefoegeacDoorPNum
import Derived.Test.YtlpmfkpefoegeacDoorPSolve
import Derived.Lib.ItoaLen
namespace Go.Proofs.YtlpmfkpefoegeacDoor
set_option linter.unusedVariables false
set_option linter.unusedSimpArgs false
mutual
/-- a term as text -/
def printF : Tm → Str
  | .mk k n s l => if k = 0 then (if n < 0 ∨ 25 < n then [90, 122] else [UInt8.ofNat (65 + n.toNat)])
    else if k = 2 then Lib.itoa n
    else if k = 1 ∨ k = 3 then s.data.toList ++ printA 40 l ++ (if l = [] then [] else [41])
    else []
def printA (b : UInt8) : List Tm → Str
  | [] => []
  | t :: r => b :: (printF t ++ printA 44 r)
end
mutual
/-- room for a term's text -/
def wtF : Tm → Nat
  | .mk k n s l => s.size + 24 + wtL l
def wtL : List Tm → Nat
  | [] => 0
  | t :: r => wtF t + wtL r
end
theorem printA_snoc (b : UInt8) (l : List Tm) (t : Tm) : printA b (l ++ [t]) = printA b l ++ (if l = [] then b else 44) :: printF t := by
  cases l with
  | nil => simp [printA]
  | cons x r =>
    rw [if_neg (by simp)]
    suffices h : ∀ (r : List Tm), printA 44 (r ++ [t]) = printA 44 r ++ 44 :: printF t by
      rw [List.cons_append, printA, printA, h]; simp
    intro r
    induction r with
    | nil => simp [printA]
    | cons y r ih => rw [List.cons_append, printA, printA, ih]; simp
theorem wtL_snoc (l : List Tm) (t : Tm) : wtL (l ++ [t]) = wtL l + wtF t := by
  induction l with
  | nil => simp [wtL]
  | cons x r ih => rw [List.cons_append, wtL, wtL, ih]; omega
theorem wtL_take (l : List Tm) (j : Nat) (h : j < l.length) : wtL (l.take j) + wtF l[j] ≤ wtL l := by
  have h1 : l = l.take j ++ l[j] :: l.drop (j + 1) := by simp
  have h2 : ∀ (a b : List Tm), wtL (a ++ b) = wtL a + wtL b := by
    intro a b
    induction a with
    | nil => simp [wtL]
    | cons x r ih => rw [List.cons_append, wtL, wtL, ih]; omega
  have h3 := congrArg wtL h1
  rw [h2, wtL] at h3
  omega
theorem printF_len : ∀ t : Tm, (∀ x : Tm, True) → (∃ A w us, Tm.rep A w t us) → (printF t).length + 1 ≤ wtF t := by
  intro t
  induction t using Tm.induct with
  | h k n s l ih =>
    rintro - ⟨A, w, us, hr⟩
    rw [Tm.rep_iff] at hr
    obtain ⟨hk, hn, hs, v, rfl, hl⟩ := hr
    obtain ⟨b, off, -, he⟩ := hl
    have hl2 : ∀ (l' : List Tm) (c : UInt8), (∀ x ∈ l', x ∈ l) → (printA c l').length ≤ wtL l' := by
      intro l'
      induction l' with
      | nil => intro c _; simp [printA, wtL]
      | cons x r ihl =>
        intro c hm
        have hx := hm x (by simp)
        obtain ⟨i, hi, hix⟩ := List.getElem_of_mem hx
        obtain ⟨us, -, hru, -⟩ := he i x (by rw [← hix]; exact List.getElem?_eq_getElem hi)
        have h1 := ih x hx (fun _ => trivial) ⟨A, w, us, hru⟩
        have h2 := ihl 44 fun y hy => hm y (by simp [hy])
        simp only [printA, wtL, List.length_cons, List.length_append]
        omega
    have h3 := hl2 l 40 fun x hx => hx
    have h4 := Lib.itoa_length_le n hn.1 hn.2
    unfold printF wtF
    have h5 : s.data.toList.length = s.size := Array.length_toList
    split
    · split <;> simp only [List.length_cons, List.length_nil] <;> omega
    · split
      · omega
      · split
        · simp only [List.length_append]
          split <;> simp only [List.length_cons, List.length_nil] <;> omega
        · simp only [List.length_nil]; omega
theorem wt_nodes : ∀ t : Tm, (∃ A w us, Tm.rep A w t us) → wtF t ≤ t.nodes * 1048600 := by
  intro t
  induction t using Tm.induct with
  | h k n s l ih =>
    rintro ⟨A, w, us, hr⟩
    rw [Tm.rep_iff] at hr
    obtain ⟨hk, hn, hs, v, rfl, hl⟩ := hr
    obtain ⟨b, off, -, he⟩ := hl
    have hl2 : ∀ (l' : List Tm), (∀ x ∈ l', x ∈ l) → wtL l' ≤ Tm.nodesL l' * 1048600 := by
      intro l'
      induction l' with
      | nil => intro _; simp [wtL]
      | cons x r ihl =>
        intro hm
        have hx := hm x (by simp)
        obtain ⟨i, hi, hix⟩ := List.getElem_of_mem hx
        obtain ⟨us, -, hru, -⟩ := he i x (by rw [← hix]; exact List.getElem?_eq_getElem hi)
        have h1 := ih x hx ⟨A, w, us, hru⟩
        have h2 := ihl fun y hy => hm y (by simp [hy])
        simp only [wtL, Tm.nodesL, Nat.add_mul]
        omega
    have h3 := hl2 l fun x hx => hx
    simp only [wtF, Tm.nodes, Nat.add_mul]
    omega
theorem wt_nodesL {A : Nat → Prop} {w : World} {l : List Tm} {v : Value} (h : TmsR A w l v) : wtL l ≤ Tm.nodesL l * 1048600 := by
  obtain ⟨b, off, -, he⟩ := h
  have hl2 : ∀ (l' : List Tm), (∀ x ∈ l', x ∈ l) → wtL l' ≤ Tm.nodesL l' * 1048600 := by
    intro l'
    induction l' with
    | nil => intro _; simp [wtL]
    | cons x r ihl =>
      intro hm
      have hx := hm x (by simp)
      obtain ⟨i, hi, hix⟩ := List.getElem_of_mem hx
      obtain ⟨us, -, hru, -⟩ := he i x (by rw [← hix]; exact List.getElem?_eq_getElem hi)
      have h1 := wt_nodes x ⟨A, w, us, hru⟩
      have h2 := ihl fun y hy => hm y (by simp [hy])
      simp only [wtL, Tm.nodesL, Nat.add_mul]
      omega
  exact hl2 l fun x hx => hx
end Go.Proofs.YtlpmfkpefoegeacDoor
