/-
  Numbers as text, in plain data: what Atoi and Itoa say together is what the document says of a number's word.
-/
import Derived.Test.YtlpmfkpefoegeacDoorPRead
import Derived.Lib.AtoiAll
import Derived.Lib.ItoaMem
namespace Go.Proofs.YtlpmfkpefoegeacDoor
set_option linter.unusedVariables false
set_option linter.unusedSimpArgs false
open Go.Lib
def decF (n : Nat) (c : UInt8) : Nat := n * 10 + (c.toNat - 48)
def decN (d : Str) : Nat := d.foldl decF 0
def Digs (d : Str) : Prop := ∀ c ∈ d, digB c = true
theorem digB_iff {c : UInt8} : digB c = true ↔ 48 ≤ c.toNat ∧ c.toNat ≤ 57 := by unfold digB; simp
theorem decV_eq {d : Str} (h : Digs d) : decV d = (decN d : Int) := by
  unfold decV decN
  suffices hs : ∀ (d : Str) (n : Nat), Digs d → d.foldl (fun (n : Int) (c : UInt8) => 10 * n + ((c.toNat : Int) - 48)) (n : Int) = ((d.foldl decF n : Nat) : Int) from hs d 0 h
  intro d
  induction d with
  | nil => intro n _; rfl
  | cons c r ih =>
    intro n h
    have hc := digB_iff.1 (h c (by simp))
    rw [List.foldl_cons, List.foldl_cons, ← ih (decF n c) (fun x hx => h x (by simp [hx]))]
    congr 1
    unfold decF
    omega
theorem decN_snoc (d : Str) (c : UInt8) : decN (d ++ [c]) = decN d * 10 + (c.toNat - 48) := by
  unfold decN; rw [List.foldl_append]; rfl
theorem foldl_decF : ∀ (d : Str) (n : Nat), d.foldl decF n = n * 10 ^ d.length + decN d
  | [], n => by simp [decN]
  | c :: r, n => by
    unfold decN
    rw [List.foldl_cons, List.foldl_cons, foldl_decF r (decF n c), foldl_decF r (decF 0 c)]
    unfold decF
    rw [List.length_cons, Nat.pow_succ, Nat.zero_mul, Nat.zero_add, Nat.add_mul, Nat.mul_assoc, Nat.mul_comm 10 (10 ^ r.length)]
    omega
theorem decN_cons (c : UInt8) (r : Str) : decN (c :: r) = (c.toNat - 48) * 10 ^ r.length + decN r := by
  show List.foldl decF (decF 0 c) r = _
  rw [foldl_decF]; unfold decF; simp
theorem decN_lt : ∀ (d : Str), Digs d → decN d < 10 ^ d.length
  | [], _ => by simp [decN]
  | c :: r, h => by
    have hc := digB_iff.1 (h c (by simp))
    have ih := decN_lt r (fun x hx => h x (by simp [hx]))
    rw [decN_cons, List.length_cons, Nat.pow_succ]
    have : (c.toNat - 48) * 10 ^ r.length ≤ 9 * 10 ^ r.length := Nat.mul_le_mul_right _ (by omega)
    omega
theorem decN_ge {c : UInt8} {r : Str} (hc : digB c = true) (h0 : c ≠ 48) : 10 ^ r.length ≤ decN (c :: r) := by
  have hc := digB_iff.1 hc
  have h9 : c.toNat ≠ 48 := fun e => h0 (UInt8.toNat_inj.1 (by rw [e]; rfl))
  rw [decN_cons]
  have : 1 * 10 ^ r.length ≤ (c.toNat - 48) * 10 ^ r.length := Nat.mul_le_mul_right _ (by omega)
  omega
theorem ofNat_dig {c : UInt8} (h : digB c = true) : UInt8.ofNat (48 + (c.toNat - 48)) = c := by
  have hc := digB_iff.1 h
  rw [show 48 + (c.toNat - 48) = c.toNat by omega]
  simp
theorem decDigits_big {u : Nat} (h : ¬ u < 10) : decDigits u = decDigits (u / 10) ++ [UInt8.ofNat (48 + u % 10)] := by rw [decDigits, dif_neg h]
theorem digits_of : ∀ (n : Nat) (d : Str), d.length = n → Digs d → d ≠ [] → (d.head? ≠ some 48 ∨ d = [48]) → decDigits (decN d) = d := by
  intro n
  induction n with
  | zero => intro d hl _ hne; exact absurd (List.eq_nil_of_length_eq_zero hl) hne
  | succ n ih =>
    intro d hl hd hne h0
    obtain ⟨l, c, rfl⟩ : ∃ l c, d = l ++ [c] := ⟨d.dropLast, d.getLast hne, (List.dropLast_concat_getLast hne).symm⟩
    have hc := digB_iff.1 (hd c (by simp))
    rw [decN_snoc]
    by_cases hl0 : l = []
    · subst hl0
      rw [show decN [] = 0 from rfl, decDigits_one (by omega), Nat.zero_mul, Nat.zero_add, ofNat_dig (hd c (by simp))]
      rfl
    · obtain ⟨x, r, rfl⟩ : ∃ x r, l = x :: r := List.exists_cons_of_ne_nil hl0
      have hx : x ≠ 48 := by
        rcases h0 with h0 | h0
        · intro e; apply h0; rw [e]; rfl
        · simp at h0
      have hge := decN_ge (r := r) (hd x (by simp)) hx
      have hp : 1 ≤ 10 ^ r.length := Nat.one_le_pow _ _ (by omega)
      rw [decDigits_big (by omega), show (decN (x :: r) * 10 + (c.toNat - 48)) / 10 = decN (x :: r) by omega, show (decN (x :: r) * 10 + (c.toNat - 48)) % 10 = c.toNat - 48 by omega, ofNat_dig (hd c (by simp))]
      rw [ih (x :: r) (by simpa using hl) (fun y hy => hd y (by simp at hy ⊢; rcases hy with rfl | hy <;> simp [*])) (by simp) (.inl (by simpa using hx))]
theorem decDigits_all (u : Nat) : Digs (decDigits u) ∧ decDigits u ≠ [] ∧ ((decDigits u).head? = some 48 → u = 0) ∧ decN (decDigits u) = u := by
  induction u using Nat.strongRecOn with
  | _ u ih =>
    have hdig : ∀ k, k < 10 → digB (UInt8.ofNat (48 + k)) = true ∧ (UInt8.ofNat (48 + k)).toNat = 48 + k := fun k hk => by
      have e : (UInt8.ofNat (48 + k)).toNat = 48 + k := by simp; omega
      exact ⟨digB_iff.2 (by omega), e⟩
    by_cases h : u < 10
    · rw [decDigits_one h]
      obtain ⟨h1, h2⟩ := hdig u h
      refine ⟨fun c hc => ?_, by simp, fun e => ?_, ?_⟩
      · simp only [List.mem_singleton] at hc; subst hc; exact h1
      · simp only [List.head?_cons, Option.some.injEq] at e
        have := congrArg UInt8.toNat e
        rw [h2] at this
        have e48 : (48 : UInt8).toNat = 48 := rfl
        omega
      · rw [show [UInt8.ofNat (48 + u)] = [] ++ [UInt8.ofNat (48 + u)] from rfl, decN_snoc, h2, show decN [] = 0 from rfl]; omega
    · rw [decDigits_big h]
      obtain ⟨h1, h2, h3, h4⟩ := ih (u / 10) (by omega)
      obtain ⟨k1, k2⟩ := hdig (u % 10) (by omega)
      refine ⟨fun c hc => ?_, by simp, fun e => ?_, ?_⟩
      · simp only [List.mem_append, List.mem_singleton] at hc
        rcases hc with hc | rfl
        · exact h1 c hc
        · exact k1
      · have : u / 10 = 0 := h3 (by
          obtain ⟨x, r, hx⟩ := List.exists_cons_of_ne_nil h2
          rw [hx] at e ⊢
          simpa using e)
        omega
      · rw [decN_snoc, h4, k2]; omega
theorem foldl_ge (d : Str) (n : Nat) : n ≤ d.foldl decF n := by
  rw [foldl_decF]
  have : n * 1 ≤ n * 10 ^ d.length := Nat.mul_le_mul_left _ (Nat.one_le_pow _ _ (by omega))
  omega
theorem parse_digs : ∀ (d : Str) (n : Nat), Digs d → parseUint10 n d = .ok (d.foldl decF n) ∨ (parseUint10 n d = .range ∧ 18446744073709551616 ≤ d.foldl decF n)
  | [], n, _ => .inl rfl
  | c :: r, n, h => by
    have hc := digB_iff.1 (h c (by simp))
    have h9 := foldl_ge r (decF n c)
    rw [List.foldl_cons]
    unfold parseUint10
    rw [if_pos hc]
    split
    · refine .inr ⟨rfl, ?_⟩
      unfold decF at h9 ⊢
      omega
    · split
      · refine .inr ⟨rfl, ?_⟩
        unfold decF at h9 ⊢
        omega
      · exact parse_digs r _ fun x hx => h x (by simp [hx])
theorem parseMag_digs {d : Str} (h : Digs d) (hne : d ≠ []) : parseMag d = .ok (decN d) ∨ (parseMag d = .range ∧ 18446744073709551616 ≤ decN d) := by
  unfold parseMag
  rw [if_neg hne]
  exact parse_digs d 0 h
theorem atoi_pos {d : Str} (h : Digs d) (hne : d ≠ []) : atoiAll d = if 9223372036854775808 ≤ decN d then .range else .ok (decN d : Int) := by
  obtain ⟨c, r, rfl⟩ := List.exists_cons_of_ne_nil hne
  have hc := digB_iff.1 (h c (by simp))
  unfold atoiAll
  simp only
  rw [if_neg (by omega)]
  rcases parseMag_digs h hne with e | ⟨e, e2⟩
  · rw [e]
    simp only
    rw [if_neg (show ¬ (c.toNat = 45 ∧ 9223372036854775808 < decN (c :: r)) from fun e => by omega)]
    rw [if_neg (show ¬ c.toNat = 45 by omega)]
    by_cases h9 : 9223372036854775808 ≤ decN (c :: r)
    · rw [if_pos ⟨by omega, h9⟩, if_pos h9]
    · rw [if_neg (fun e => h9 e.2), if_neg h9]
  · rw [e, if_pos (by omega)]
theorem atoi_neg {d : Str} (h : Digs d) (hne : d ≠ []) : atoiAll (45 :: d) = if 9223372036854775808 < decN d then .range else .ok (-(decN d : Int)) := by
  unfold atoiAll
  have e45 : (45 : UInt8).toNat = 45 := rfl
  simp only
  rw [if_pos (.inr e45)]
  rcases parseMag_digs h hne with e | ⟨e, e2⟩
  · rw [e]
    simp only [e45]
    by_cases h9 : 9223372036854775808 < decN d
    · simp [h9]
    · simp [h9]
  · rw [e, if_pos (by omega)]
def atoiF (t : Str) : Option Int := match atoiAll t with
  | .ok k => if itoa k = t ∧ -1099511627776 ≤ k ∧ k ≤ 1099511627776 then some k else none
  | _ => none
theorem num_law {t d : Str} (hd : Digs d) (ht : t = d ∨ t = 45 :: d) : valueF t = atoiF t := by
  have h45 : ∀ x r, d = x :: r → x ≠ 45 := fun x r e e' => by
    have := digB_iff.1 (hd x (by rw [e]; simp))
    rw [e'] at this
    have e45 : (45 : UInt8).toNat = 45 := rfl
    omega
  have hdo : digitsOf t = d := by
    unfold digitsOf
    rcases ht with rfl | rfl
    · cases t with
      | nil => rfl
      | cons x r => rw [if_neg (by simpa using h45 x r rfl)]
    · rfl
  have hnum := decN_lt d hd
  unfold valueF atoiF
  rw [hdo, decV_eq hd]
  by_cases hne : d = []
  · rw [if_pos (.inl hne)]
    subst hne
    rcases ht with rfl | rfl <;> rfl
  obtain ⟨x, r, hx⟩ := List.exists_cons_of_ne_nil hne
  have hxd := hd x (by rw [hx]; simp)
  have ha : (t = d ∧ atoiAll t = if 9223372036854775808 ≤ decN d then .range else .ok (decN d : Int)) ∨ (t = 45 :: d ∧ atoiAll t = if 9223372036854775808 < decN d then .range else .ok (-(decN d : Int))) := by
    rcases ht with rfl | rfl
    · exact .inl ⟨rfl, atoi_pos hd hne⟩
    · exact .inr ⟨rfl, atoi_neg hd hne⟩
  by_cases hz : d.head? = some 48 ∧ t ≠ [48]
  · rw [if_pos (.inr (.inr hz))]
    rcases ha with ⟨e, ha⟩ | ⟨e, ha⟩
    · rw [ha]
      split
      · rename_i k hk
        split at hk
        · cases hk
        · simp only [NumEnd.ok.injEq] at hk
          subst hk
          rw [if_neg]
          rintro ⟨h1, -⟩
          rw [itoa_nonneg] at h1
          have h2 := (decDigits_all (decN d)).2.2.1 (by rw [h1, e]; exact hz.1)
          rw [h2] at h1
          exact hz.2 (h1.symm.trans (decDigits_one (by omega)))
      · rfl
    · rw [ha]
      split
      · rename_i k hk
        split at hk
        · cases hk
        · simp only [NumEnd.ok.injEq] at hk
          subst hk
          rw [if_neg]
          rintro ⟨h1, -⟩
          by_cases h0 : decN d = 0
          · rw [h0, e] at h1
            exact absurd h1 (by simp [itoa, decDigits_one])
          · rw [itoa_neg _ (by omega), e] at h1
            simp only [List.cons.injEq, true_and] at h1
            exact h0 ((decDigits_all (decN d)).2.2.1 (by rw [h1]; exact hz.1))
      · rfl
  · have hh : d.head? ≠ some 48 ∨ d = [48] := by
      by_cases hq : d.head? = some 48
      · right
        have ht48 : t = [48] := Classical.byContradiction fun hh => hz ⟨hq, hh⟩
        rcases ht with rfl | e
        · exact ht48
        · rw [ht48] at e; simp at e
      · exact .inl hq
    have hpos : t = 45 :: d → d.head? ≠ some 48 := fun e hq => hz ⟨hq, by rw [e]; simp⟩
    have hdig := digits_of _ d rfl hd hne hh
    by_cases hl : d.length > 13
    · rw [if_pos (.inr (.inl hl))]
      have hbig : 10 ^ 13 ≤ decN d := by
        have hx48 : x ≠ 48 := by
          rcases hh with h | h
          · intro e; apply h; rw [hx, e]; rfl
          · rw [h] at hl; simp at hl
        have := decN_ge (r := r) hxd hx48
        rw [← hx] at this
        have hlr : 13 ≤ r.length := by rw [hx, List.length_cons] at hl; omega
        exact Nat.le_trans (Nat.pow_le_pow_right (by omega) hlr) this
      rcases ha with ⟨e, ha⟩ | ⟨e, ha⟩
      · rw [ha]
        split
        · rename_i k hk
          split at hk
          · cases hk
          · simp only [NumEnd.ok.injEq] at hk
            subst hk
            rw [if_neg (fun h => by have := h.2.2; omega)]
        · rfl
      · rw [ha]
        split
        · rename_i k hk
          split at hk
          · cases hk
          · simp only [NumEnd.ok.injEq] at hk
            subst hk
            rw [if_neg (fun h => by have := h.2.1; omega)]
        · rfl
    · rw [if_neg (by rintro (h | h | h); exact hne h; exact hl h; exact hz h)]
      have hlt : decN d < 10000000000000 := Nat.lt_of_lt_of_le hnum (Nat.le_trans (Nat.pow_le_pow_right (by omega) (show d.length ≤ 13 by omega)) (by omega))
      rcases ha with ⟨e, ha⟩ | ⟨e, ha⟩
      · rw [ha, if_neg (show ¬ 9223372036854775808 ≤ decN d by omega), if_pos e.symm]
        simp only
        by_cases hb : (decN d : Int) > 1099511627776
        · rw [if_pos hb, if_neg (fun h => by have := h.2.2; omega)]
        · rw [if_neg hb, if_pos ⟨by rw [itoa_nonneg, hdig, e], by omega, by omega⟩]
      · have hne2 : d ≠ t := fun e' => by rw [e] at e'; exact absurd (congrArg List.length e') (by simp)
        have hx48 : x ≠ 48 := fun e' => hpos e (by rw [hx, e']; rfl)
        have hge := decN_ge (r := r) hxd hx48
        rw [← hx] at hge
        have hp : 1 ≤ 10 ^ r.length := Nat.one_le_pow _ _ (by omega)
        rw [ha, if_neg (show ¬ 9223372036854775808 < decN d by omega), if_neg hne2]
        simp only
        by_cases hb : (decN d : Int) > 1099511627776
        · rw [if_pos hb, if_neg (fun h => by have := h.2.1; omega)]
        · rw [if_neg hb, if_pos ⟨by rw [itoa_neg _ (by omega), hdig, e], by omega, by omega⟩]
theorem value_itoa {k : Int} (h0 : -1099511627776 ≤ k) (h1 : k ≤ 1099511627776) : valueF (itoa k) = some k := by
  by_cases hk : 0 ≤ k
  · obtain ⟨u, rfl⟩ : ∃ u : Nat, k = u := ⟨k.toNat, by omega⟩
    obtain ⟨d1, d2, -, d4⟩ := decDigits_all u
    rw [num_law d1 (.inl (itoa_nonneg u)), itoa_nonneg]
    unfold atoiF
    rw [atoi_pos d1 d2, d4, if_neg (by omega)]
    simp only
    rw [if_pos ⟨itoa_nonneg u, h0, h1⟩]
  · obtain ⟨u, rfl, hu⟩ : ∃ u : Nat, k = -(u : Int) ∧ 1 ≤ u := ⟨k.natAbs, by omega, by omega⟩
    obtain ⟨d1, d2, -, d4⟩ := decDigits_all u
    rw [num_law d1 (.inr (itoa_neg u hu)), itoa_neg u hu]
    unfold atoiF
    rw [atoi_neg d1 d2, d4, if_neg (by omega)]
    simp only
    rw [if_pos ⟨itoa_neg u hu, h0, h1⟩]
end Go.Proofs.YtlpmfkpefoegeacDoor
