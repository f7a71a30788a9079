/-
  The reader: at, word.
-/
import Derived.Test.YtlpmfkpefoegeacDoorQRd2
namespace Go.Proofs.YtlpmfkpefoegeacDoor
set_option linter.unusedVariables false
set_option linter.unusedSimpArgs false
open Go.RowKit
theorem pre_iff {sg s : Str} (h : sg.length ≤ s.length) : sg <+: s ↔ s.take sg.length = sg := by
  rw [List.prefix_iff_eq_take]; exact eq_comm
section
variable {B base g : Nat} {vv : Value} {r : Rd} {w : World}
set_option maxHeartbeats 2000000 in
theorem rat_ok (sg : Str) (hsg : sg.length ≤ 1000) (h : RdI B base g vv r w) : Calls Tryd.prog 27 #[.pointer (some ⟨g, 0, none⟩), .string (bs sg)] w (fun e w' => e = .returned (.bool (r.at_ sg).1) ∧ RdStep B base g vv (r.at_ sg).2 w w') := by
  have HU := hid h
  have HSP := hid (rspace_ok h)
  have hz1 : (bs sg).size ≤ 1000 := by rw [bs_size]; exact hsg
  clear h hsg
  go_enter Tryd.func27, Tryd.ntmps27
  go_wp2_with fail
  refine HSP.out.mono ?_
  rintro e w1 ⟨rfl, v1, h1, c1, o1⟩
  have HI := hid h1
  have HCH := hid c1
  have HV := hid o1
  obtain ⟨b0, b1, b2, bf⟩ := h1.cells
  have hgl := h1.lt.1
  have hlen := h1.len
  have e0 : r.space.s = spaceF r.s := rfl
  rw [e0] at b0 hlen
  have hz2 : (bs (spaceF r.s)).size ≤ 2000 := by rw [bs_size]; omega
  have hu : Rd.at_ sg r = if sg <+: spaceF r.s then (true, { r with s := (spaceF r.s).drop sg.length }) else (false, r.space) := rfl
  have HA := hid hu
  clear h1 c1 o1 hlen hu e0
  by_cases hl : (spaceF r.s).length < sg.length
  · have hd : decide ((bs (spaceF r.s)).size < (bs sg).size) = true := by rw [bs_size, bs_size]; simpa using hl
    have hp : ¬ sg <+: spaceF r.s := fun h => by have := h.length_le; omega
    have HP := hid hp
    clear hl hp
    go_wp2_with fail
    go_ret
    rw [HA.out, if_neg HP.out]
    exact ⟨rfl, v1, HI.out, HCH.out, HV.out⟩
  · have hd : decide ((bs (spaceF r.s)).size < (bs sg).size) = false := by rw [bs_size, bs_size]; simpa using hl
    have hle : (bs sg).size ≤ (bs (spaceF r.s)).size := by rw [bs_size, bs_size]; omega
    have hpi := pre_iff (sg := sg) (s := spaceF r.s) (by omega)
    by_cases ht : (spaceF r.s).take sg.length = sg
    · have hE : (((bs (spaceF r.s)).extract 0 (bs sg).size).toList == (bs sg).toList) = true := by
        rw [bs_extract, bs_toList, bs_toList, bs_size, List.drop_zero, Nat.sub_zero, ht]; simp
      have HP := hid (hpi.2 ht)
      clear hl hpi ht
      go_wp2_with fail
      go_ret
      rw [HA.out, if_pos HP.out]
      have hx : (bs (spaceF r.s)).extract (bs sg).size (bs (spaceF r.s)).size = bs ((spaceF r.s).drop sg.length) := by
        rw [bs_extract, bs_size, bs_size, List.take_of_length_le (by simp)]
      rw [hx]
      exact ⟨rfl, RdStep.trans HCH.out HV.out (HI.out.setS _ (by rw [List.length_drop]; exact Nat.sub_le _ _))⟩
    · have hE : (((bs (spaceF r.s)).extract 0 (bs sg).size).toList == (bs sg).toList) = false := by
        rw [bs_extract, bs_toList, bs_toList, bs_size, List.drop_zero, Nat.sub_zero]; simpa using ht
      have HP := hid (show ¬ sg <+: spaceF r.s from fun h => ht (hpi.1 h))
      clear hl hpi ht
      go_wp2_with fail
      go_ret
      rw [HA.out, if_neg HP.out]
      exact ⟨rfl, v1, HI.out, HCH.out, HV.out⟩
theorem wordLen_step {s : Str} {k : Nat} (hk : k ≤ wordLen s) : k ≤ s.length := by
  cases s with
  | nil => simpa [wordLen] using hk
  | cons c r =>
    have : lows r ≤ r.length := (List.takeWhile_sublist _).length_le
    rw [wordLen_cons] at hk
    simp only [List.length_cons]
    split at hk <;> omega
theorem low_iff {c : UInt8} : lowB c = true ↔ 97 ≤ (c.toNat : Int) ∧ (c.toNat : Int) ≤ 122 := by unfold lowB; simp; omega
theorem up_iff {c : UInt8} : upB c = true ↔ 65 ≤ (c.toNat : Int) ∧ (c.toNat : Int) ≤ 90 := by unfold upB; simp; omega
theorem takeWhile_len {p : UInt8 → Bool} : ∀ (l : Str) (k : Nat) (hk : k < l.length), k ≤ (l.takeWhile p).length → (k + 1 ≤ (l.takeWhile p).length ↔ p l[k] = true)
  | c :: r, 0, hk, h => by
    rw [List.takeWhile_cons, List.getElem_cons_zero]
    cases p c <;> simp
  | c :: r, k + 1, hk, h => by
    rw [List.takeWhile_cons] at h ⊢
    rw [List.getElem_cons_succ]
    cases hp : p c with
    | false => rw [hp] at h; simp at h
    | true =>
      rw [hp] at h
      simp only [if_true, List.length_cons] at h ⊢
      have := takeWhile_len (p := p) r k (by simpa using hk) (by omega)
      rw [Nat.add_le_add_iff_right]; exact this
theorem wordLen_more {s : Str} {k : Nat} (hk : k ≤ wordLen s) (hl : k < s.length) : k + 1 ≤ wordLen s ↔ (lowB s[k] = true ∨ (k = 0 ∧ upB (s[0]'(by omega)) = true)) := by
  cases s with
  | nil => simp at hl
  | cons c r =>
    rw [wordLen_cons] at hk ⊢
    cases k with
    | zero =>
      simp only [List.getElem_cons_zero, true_and]
      by_cases h : (lowB c || upB c) = true
      · rw [if_pos h]; simp only [Bool.or_eq_true] at h; exact ⟨fun _ => h, fun _ => by omega⟩
      · rw [if_neg h]; simp only [Bool.or_eq_true] at h; exact ⟨fun e => by omega, fun e => absurd e h⟩
    | succ k =>
      split at hk
      · rename_i h
        rw [if_pos h]
        have h1 : k ≤ lows r := by omega
        have := takeWhile_len (p := lowB) r k (by simpa using hl) h1
        rw [List.getElem_cons_succ]
        constructor
        · intro e; exact .inl (this.1 (by unfold lows at e; omega))
        · rintro (e | ⟨e, _⟩)
          · have := this.2 e; unfold lows; omega
          · omega
      · omega
theorem wend {s : Str} {S : ByteArray} {k : Nat} (hS : S = bs s) (hk : k = wordLen s) : S.extract k S.size = bs (s.drop (wordLen s)) := by
  rw [hS, bs_extract, bs_size, hk, List.take_of_length_le (by simp)]
theorem wend2 {s : Str} {S : ByteArray} {k : Nat} (hS : S = bs s) (hk : k = wordLen s) : S.extract 0 k = bs (s.take (wordLen s)) := by
  rw [hS, bs_extract, hk]; simp
theorem wset {B base g : Nat} {vv : Value} {r : Rd} {w : World} {s : Str} (h : RdI B base g vv r.space w) (hs : spaceF r.s = s) : RdStep B base g vv { r with s := s.drop (wordLen s) } w (w.setCell ⟨g, 0, none⟩ (.string (bs (s.drop (wordLen s))))) := by
  have := h.setS (s.drop (wordLen s)) (by rw [← hs]; show _ ≤ (spaceF r.s).length; rw [List.length_drop]; exact Nat.sub_le _ _)
  exact this
set_option maxHeartbeats 8000000 in
theorem rword_ok (s : Str) (hs : spaceF r.s = s) (h : RdI B base g vv r w) : Calls Tryd.prog 42 #[.pointer (some ⟨g, 0, none⟩)] w
    (fun e w' => e = .returned (.string (bs (s.take (wordLen s)))) ∧ RdStep B base g vv { r with s := s.drop (wordLen s) } w w') := by
  have HU := hid h
  have HSS := hid hs
  have HSP := hid (rspace_ok h)
  clear h hs
  go_enter Tryd.func42, Tryd.ntmps42
  go_wp2_with fail
  refine HSP.out.mono ?_
  rintro e w1 ⟨rfl, v1, h1, c1, o1⟩
  have HI := hid h1
  have HCH := hid c1
  have HV := hid o1
  obtain ⟨b0, b1, b2, bf⟩ := h1.cells
  have hgl := h1.lt.1
  have hlen := h1.len
  have e0 : r.space.s = spaceF r.s := rfl
  rw [e0, HSS.out] at b0 hlen
  obtain ⟨S, hS⟩ : ∃ S, S = bs s := ⟨_, rfl⟩
  rw [← hS] at b0
  have hz1 : S.size = s.length := by rw [hS, bs_size]
  have HS := hid hS
  have HZ := hid hz1
  have hz2 : S.size ≤ 2000 := by omega
  have hsl : s.length ≤ 2000 := by omega
  clear h1 c1 o1 hlen e0 hS hz1
  go_wp2_with fail
  go_loopw [3] (fun i wr => ∃ k : Nat, k ≤ wordLen s ∧ i = .int .i64 (k : Int) ∧ wr = w1) (fun i _ => s.length - (intOf i).toNat)
  case atStart => exact ⟨0, Nat.zero_le _, rfl, rfl⟩
  case round =>
    obtain ⟨k, hk, rfl, rfl⟩ := hrel
    have hks := wordLen_step hk
    have hk0 : (0 : Int) ≤ (k : Int) := Int.natCast_nonneg _
    by_cases hlt : k < s.length
    · have hd : decide (k < S.size) = true := by rw [HZ.out]; simpa using hlt
      have hd' : k < S.size := by rw [HZ.out]; exact hlt
      have hz : 0 < S.size := by omega
      have hg1 : S[k] = s[k] := by
        have e := HS.out
        subst e
        exact bs_get s k hd'
      have hg0 : S[0] = s[0]'(by omega) := by
        have e := HS.out
        subst e
        exact bs_get s 0 hz
      have HG := hid (And.intro hg1 hg0)
      have HM := hid (wordLen_more hk hlt)
      have hsame : k = 0 → s[0]'(by omega) = s[k] := fun e => by subst e; rfl
      have hn : k = 0 → ((s[0]'(by omega)).toNat : Int) = (s[k].toNat : Int) := fun e => by rw [hsame e]
      clear hg1 hg0 hsame
      have hcs : (97 ≤ (s[k].toNat : Int) ∧ (s[k].toNat : Int) ≤ 122) ∨ (0 < k ∧ (s[k].toNat : Int) < 97) ∨ (k = 0 ∧ (s[k].toNat : Int) < 97 ∧ (s[k].toNat : Int) < 65) ∨ (k = 0 ∧ 65 ≤ (s[k].toNat : Int) ∧ (s[k].toNat : Int) ≤ 90) ∨
          (k = 0 ∧ 90 < (s[k].toNat : Int) ∧ (s[k].toNat : Int) < 97) ∨ (0 < k ∧ 122 < (s[k].toNat : Int)) ∨ (k = 0 ∧ 122 < (s[k].toNat : Int)) := by omega
      have hb0 : 0 ≤ (s[k].toNat : Int) := by omega
      rcases hcs with h1 | h1 | h1 | h1 | h1 | h1 | h1
      · obtain ⟨h1, h2⟩ := h1
        have f1 : decide ((97 : Int) ≤ (S[k].toNat : Int)) = true := by rw [HG.out.1]; exact decide_eq_true (by omega)
        have f2 : decide ((S[k].toNat : Int) ≤ (122 : Int)) = true := by rw [HG.out.1]; exact decide_eq_true (by omega)
        have hgo := HM.out.2 (.inl (low_iff.2 (by omega)))
        have hle := Nat.lt_of_lt_of_le (Nat.lt_of_succ_le hgo) (wordLen_step (Nat.le_refl _))
        have HGO := hid hgo
        clear h1 h2 hn hgo hle
        go_wp2_with fail
        all_goals first
          | (go_roundw
             case rel => exact ⟨k + 1, HGO.out, by go_num, by first | rfl | trivial⟩
             case measure => simp [intOf]; omega)
      · obtain ⟨h1, h2⟩ := h1
        have f1 : decide ((97 : Int) ≤ (S[k].toNat : Int)) = false := by rw [HG.out.1]; exact decide_eq_false (by omega)
        have f3 : ((k : Int) == 0) = false := by rw [beq_eq_false_iff_ne]; omega
        have hno : ¬ k + 1 ≤ wordLen s := fun e => by
          rcases HM.out.1 e with h9 | ⟨h9, h8⟩
          · have := low_iff.1 h9; omega
          · omega
        have hkw : k = wordLen s := by have := hk; omega
        have HKW := hid hkw
        clear h1 h2 hn hno hkw
        go_wp2_with fail
        go_ret
        rw [wend2 HS.out HKW.out, wend HS.out HKW.out]
        exact ⟨rfl, RdStep.trans HCH.out HV.out (wset HI.out HSS.out)⟩
      · obtain ⟨h1, h2, h3⟩ := h1
        subst h1
        have f1 : decide ((97 : Int) ≤ (S[0].toNat : Int)) = false := by rw [HG.out.2]; exact decide_eq_false (by omega)
        have f4 : decide ((65 : Int) ≤ (S[0].toNat : Int)) = false := by rw [HG.out.2]; exact decide_eq_false (by omega)
        have hno : ¬ 0 + 1 ≤ wordLen s := fun e => by
          rcases HM.out.1 e with h9 | ⟨h9, h8⟩
          · have := low_iff.1 h9; omega
          · have := up_iff.1 h8; omega
        have hkw : 0 = wordLen s := by have := hk; omega
        have HKW := hid hkw
        clear h2 h3 hn hno hkw
        go_wp2_with fail
        go_ret
        have hw := wset HI.out HSS.out
        rw [← HKW.out, List.drop_zero, ← HS.out] at hw
        rw [← HKW.out, List.drop_zero, List.take_zero]
        exact ⟨rfl, RdStep.trans HCH.out HV.out hw⟩
      · obtain ⟨h1, h2, h3⟩ := h1
        subst h1
        have f1 : decide ((97 : Int) ≤ (S[0].toNat : Int)) = false := by rw [HG.out.2]; exact decide_eq_false (by omega)
        have f4 : decide ((65 : Int) ≤ (S[0].toNat : Int)) = true := by rw [HG.out.2]; exact decide_eq_true (by omega)
        have f5 : decide ((S[0].toNat : Int) ≤ (90 : Int)) = true := by rw [HG.out.2]; exact decide_eq_true (by omega)
        have hgo := HM.out.2 (.inr ⟨rfl, up_iff.2 (by omega)⟩)
        have hle := Nat.lt_of_lt_of_le (Nat.lt_of_succ_le hgo) (wordLen_step (Nat.le_refl _))
        have HGO := hid hgo
        clear h2 h3 hn hgo hle
        go_wp2_with fail
        all_goals first
          | (go_roundw
             case rel => exact ⟨0 + 1, HGO.out, by go_num, by first | rfl | trivial⟩
             case measure => simp [intOf]; omega)
      · obtain ⟨h1, h2, h3⟩ := h1
        subst h1
        have f1 : decide ((97 : Int) ≤ (S[0].toNat : Int)) = false := by rw [HG.out.2]; exact decide_eq_false (by omega)
        have f4 : decide ((65 : Int) ≤ (S[0].toNat : Int)) = true := by rw [HG.out.2]; exact decide_eq_true (by omega)
        have f5 : decide ((S[0].toNat : Int) ≤ (90 : Int)) = false := by rw [HG.out.2]; exact decide_eq_false (by omega)
        have hno : ¬ 0 + 1 ≤ wordLen s := fun e => by
          rcases HM.out.1 e with h9 | ⟨h9, h8⟩
          · have := low_iff.1 h9; omega
          · have := up_iff.1 h8; omega
        have hkw : 0 = wordLen s := by have := hk; omega
        have HKW := hid hkw
        clear h2 h3 hn hno hkw
        go_wp2_with fail
        go_ret
        have hw := wset HI.out HSS.out
        rw [← HKW.out, List.drop_zero, ← HS.out] at hw
        rw [← HKW.out, List.drop_zero, List.take_zero]
        exact ⟨rfl, RdStep.trans HCH.out HV.out hw⟩
      · obtain ⟨h1, h2⟩ := h1
        have f1 : decide ((97 : Int) ≤ (S[k].toNat : Int)) = true := by rw [HG.out.1]; exact decide_eq_true (by omega)
        have f2 : decide ((S[k].toNat : Int) ≤ (122 : Int)) = false := by rw [HG.out.1]; exact decide_eq_false (by omega)
        have f3 : ((k : Int) == 0) = false := by rw [beq_eq_false_iff_ne]; omega
        have hno : ¬ k + 1 ≤ wordLen s := fun e => by
          rcases HM.out.1 e with h9 | ⟨h9, h8⟩
          · have := low_iff.1 h9; omega
          · omega
        have hkw : k = wordLen s := by have := hk; omega
        have HKW := hid hkw
        clear h1 h2 hn hno hkw
        go_wp2_with fail
        go_ret
        rw [wend2 HS.out HKW.out, wend HS.out HKW.out]
        exact ⟨rfl, RdStep.trans HCH.out HV.out (wset HI.out HSS.out)⟩
      · obtain ⟨h1, h2⟩ := h1
        subst h1
        have f1 : decide ((97 : Int) ≤ (S[0].toNat : Int)) = true := by rw [HG.out.2]; exact decide_eq_true (by omega)
        have f2 : decide ((S[0].toNat : Int) ≤ (122 : Int)) = false := by rw [HG.out.2]; exact decide_eq_false (by omega)
        have f4 : decide ((65 : Int) ≤ (S[0].toNat : Int)) = true := by rw [HG.out.2]; exact decide_eq_true (by omega)
        have f5 : decide ((S[0].toNat : Int) ≤ (90 : Int)) = false := by rw [HG.out.2]; exact decide_eq_false (by omega)
        have hno : ¬ 0 + 1 ≤ wordLen s := fun e => by
          rcases HM.out.1 e with h9 | ⟨h9, h8⟩
          · have := low_iff.1 h9; omega
          · have := up_iff.1 h8; omega
        have hkw : 0 = wordLen s := by have := hk; omega
        have HKW := hid hkw
        clear h2 hn hno hkw
        go_wp2_with fail
        go_ret
        have hw := wset HI.out HSS.out
        rw [← HKW.out, List.drop_zero, ← HS.out] at hw
        rw [← HKW.out, List.drop_zero, List.take_zero]
        exact ⟨rfl, RdStep.trans HCH.out HV.out hw⟩
    · have hd : decide (k < S.size) = false := by rw [HZ.out]; simpa using hlt
      have hkw : k = wordLen s := by
        have := wordLen_step (Nat.le_refl (wordLen s)); omega
      have HKW := hid hkw
      have hle : k ≤ S.size := by rw [HZ.out]; exact hks
      clear hkw
      go_wp2_with fail
      go_ret
      rw [wend2 HS.out HKW.out, wend HS.out HKW.out]
      exact ⟨rfl, RdStep.trans HCH.out HV.out (wset HI.out HSS.out)⟩
end
end Go.Proofs.YtlpmfkpefoegeacDoor
