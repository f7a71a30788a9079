/-
  The reader: number.
-/
import Derived.Test.YtlpmfkpefoegeacDoorQRd3
import Derived.Test.YtlpmfkpefoegeacDoorQStrc
namespace Go.Proofs.YtlpmfkpefoegeacDoor
set_option linter.unusedVariables false
set_option linter.unusedSimpArgs false
open Go.RowKit
def numJ (s : Str) : Nat := if s.head? = some 45 then 1 else 0
theorem take_tw (p : UInt8 → Bool) (l : Str) : l.take (l.takeWhile p).length = l.takeWhile p := (List.prefix_iff_eq_take.1 (List.takeWhile_prefix p)).symm
theorem tw_mem {p : UInt8 → Bool} : ∀ (l : Str) (c : UInt8), c ∈ l.takeWhile p → p c = true
  | [], c, h => by cases h
  | x :: l, c, h => by
    rw [List.takeWhile_cons] at h
    cases hp : p x with
    | false => rw [hp] at h; simp at h
    | true =>
      rw [hp] at h
      simp only [if_true, List.mem_cons] at h
      rcases h with rfl | h
      · exact hp
      · exact tw_mem l c h
theorem numLen_cons (c : UInt8) (r : Str) : numLen (c :: r) = if c = 45 then 1 + digs r else digs (c :: r) := rfl
theorem numLen_le (s : Str) : numLen s ≤ s.length := by
  cases s with
  | nil => simp [numLen]
  | cons c r =>
    have h1 : digs r ≤ r.length := (List.takeWhile_sublist _).length_le
    have h2 : digs (c :: r) ≤ (c :: r).length := (List.takeWhile_sublist _).length_le
    unfold numLen
    simp only [List.length_cons] at h2 ⊢
    split <;> omega
theorem num_word (s : Str) : ∃ d, Digs d ∧ (s.take (numLen s) = d ∨ s.take (numLen s) = 45 :: d) := by
  cases s with
  | nil => exact ⟨[], (fun c hc => by cases hc), Or.inl rfl⟩
  | cons c r =>
    rw [numLen_cons]
    split
    · rename_i h
      refine ⟨r.takeWhile digB, (fun c hc => tw_mem _ c hc), Or.inr ?_⟩
      rw [h, Nat.add_comm, List.take_succ_cons]; unfold digs; rw [take_tw]
    · refine ⟨(c :: r).takeWhile digB, (fun c hc => tw_mem _ c hc), Or.inl ?_⟩
      unfold digs; exact take_tw _ _
theorem numLen_more {s : Str} {k : Nat} (hj : numJ s ≤ k) (hk : k ≤ numLen s) (hl : k < s.length) : k + 1 ≤ numLen s ↔ digB s[k] = true := by
  cases s with
  | nil => simp at hl
  | cons c r =>
    unfold numJ at hj
    rw [numLen_cons] at hk ⊢
    simp only [List.head?_cons, Option.some.injEq] at hj
    by_cases h : c = 45
    · rw [if_pos h] at hj hk ⊢
      cases k with
      | zero => omega
      | succ k =>
        rw [List.getElem_cons_succ]
        have := takeWhile_len (p := digB) r k (by simpa using hl) (by unfold digs at hk; omega)
        unfold digs
        rw [← this]; omega
    · rw [if_neg h] at hk ⊢
      exact takeWhile_len (p := digB) (c :: r) k hl hk
theorem numJ_le {s : Str} : numJ s ≤ numLen s := by
  cases s with
  | nil => simp [numJ, numLen]
  | cons c r =>
    rw [numLen_cons]
    unfold numJ
    simp only [List.head?_cons, Option.some.injEq]
    split <;> omega
theorem dig_iff {c : UInt8} : digB c = true ↔ 48 ≤ (c.toNat : Int) ∧ (c.toNat : Int) ≤ 57 := by unfold digB; simp; omega
def numF (s : Str) : Option Int := valueF (s.take (numLen s))
theorem numF_eq (s : Str) : numF s = atoiF (s.take (numLen s)) := by
  obtain ⟨d, hd, ht⟩ := num_word s
  exact num_law hd ht
theorem atoiF_err {t : Str} (h : ∀ k, Lib.atoiAll t ≠ .ok k) : atoiF t = none := by
  unfold atoiF
  split
  · rename_i k hk; exact absurd hk (h k)
  · rfl
theorem atoiF_ok {t : Str} {k : Int} (h : Lib.atoiAll t = .ok k) : atoiF t = if Lib.itoa k = t ∧ -1099511627776 ≤ k ∧ k ≤ 1099511627776 then some k else none := by
  unfold atoiF; rw [h]
theorem atoi_bounds {t : Str} {k : Int} (h : Lib.atoiAll t = .ok k) : I64 k := Lib.atoiAll_bounds h
section
variable {B base g : Nat} {vv : Value} {r : Rd} {w : World}
def RNumPost (B base g : Nat) (vv : Value) (r : Rd) (s : Str) (w : World) (e : Ending) (w' : World) : Prop :=
  match numF s with
  | some k => e = .returned (.tuple #[.int .i64 k, .bool true]) ∧ RdStep B base g vv { r with s := s.drop (numLen s) } w w'
  | none => e = .returned (.tuple #[.int .i64 0, .bool false]) ∧ RdStep B base g vv { r with s := s } w w'
theorem nend {s : Str} {S : ByteArray} {k : Nat} (hS : S = bs s) (hk : k = numLen s) : S.extract k S.size = bs (s.drop (numLen s)) := by
  rw [hS, bs_extract, bs_size, hk, List.take_of_length_le (by simp)]
theorem nend2 {s : Str} {S : ByteArray} {k : Nat} (hS : S = bs s) (hk : k = numLen s) : S.extract 0 k = bs (s.take (numLen s)) := by
  rw [hS, bs_extract, hk]; simp
theorem nset {s : Str} (h : RdI B base g vv { r with s := s } w) : RdStep B base g vv { r with s := s.drop (numLen s) } w (w.setCell ⟨g, 0, none⟩ (.string (bs (s.drop (numLen s))))) :=
  h.setS (s.drop (numLen s)) (by show _ ≤ s.length; rw [List.length_drop]; exact Nat.sub_le _ _)
set_option maxHeartbeats 8000000 in
theorem rnum_ok (c : UInt8) (rest : Str) (hc : c = 45 ∨ digB c = true) (hs : spaceF r.s = c :: rest) (h : RdI B base g vv r w) : Calls Tryd.prog 43 #[.pointer (some ⟨g, 0, none⟩)] w (RNumPost B base g vv r (c :: rest) w) := by
  have HU := hid h
  have HSS := hid hs
  have HSP := hid (rspace_ok h)
  obtain ⟨s, hsc⟩ : ∃ s, s = c :: rest := ⟨_, rfl⟩
  rw [← hsc]
  have hpos : 1 ≤ numLen s := by
    rw [hsc]
    rw [numLen_tok hc]; omega
  have hs0 : 0 < s.length := by rw [hsc]; simp
  have hh : s[0] = c := by subst hsc; rfl
  have hJ : numJ s = if c = 45 then 1 else 0 := by rw [hsc]; unfold numJ; simp
  have HSC := hid hsc
  have HPOS := hid hpos
  have HJ := hid hJ
  have HC := hid hc
  have HH := hid hh
  clear h hs hsc hpos hJ hc hh
  go_enter Tryd.func43, Tryd.ntmps43
  go_wp2_with fail
  refine HSP.out.mono ?_
  rintro e w1 ⟨rfl, v1, h1, c1, o1⟩
  have h1' : RdI B base g v1 { r with s := s } w1 := by
    have e : r.space = { r with s := s } := by unfold Rd.space; rw [HSS.out, HSC.out]
    rw [← e]; exact h1
  have HI := hid h1'
  have HCH := hid c1
  have HV := hid o1
  obtain ⟨b0, b1, b2, bf⟩ := h1'.cells
  have hgl := h1.lt.1
  have hlen := h1'.len
  simp only at b0 b2 hlen
  obtain ⟨S, hS⟩ : ∃ S, S = bs s := ⟨_, rfl⟩
  rw [← hS] at b0
  have hz1 : S.size = s.length := by rw [hS, bs_size]
  have HS := hid hS
  have HZ := hid hz1
  have hz2 : S.size ≤ 2000 := by omega
  have hsl : s.length ≤ 2000 := by omega
  have hz0 : 0 < S.size := by omega
  have t1 : S.toList.isEmpty = false := by rw [hS, bs_toList, HSC.out]; rfl
  have t2 : ¬ S.toList = [] := by rw [hS, bs_toList, HSC.out]; simp
  have hg0 : S[0] = c := by
    have e := HS.out
    subst e
    rw [bs_get s 0 (by rw [bs_size]; exact hs0)]; exact HH.out
  have HG0 := hid hg0
  clear h1 h1' c1 o1 hlen hS hz1 hg0
  by_cases h45 : c = 45
  · have hq : ((S[0].toNat : Int) == (45 : Int)) = true := by rw [HG0.out]; rw [h45]; rfl
    have HJ0 := hid (HJ.out.trans (if_pos h45))
    clear h45
    go_wp2_with fail
    go_loopw [4] (fun i wr => ∃ k : Nat, 1 ≤ k ∧ k ≤ numLen s ∧ i = .int .i64 (k : Int) ∧ wr = w1) (fun i _ => s.length - (intOf i).toNat)
    case atStart => exact ⟨1, Nat.le_refl _, by have := numJ_le (s := s); rw [HJ0.out] at this; exact this, rfl, rfl⟩
    case round =>
      obtain ⟨k, hj, hk, rfl, rfl⟩ := hrel
      have hks := Nat.le_trans hk (numLen_le s)
      have hk0 : (0 : Int) ≤ (k : Int) := Int.natCast_nonneg _
      clear hq
      by_cases hlt : k < s.length
      · have hd : decide (k < S.size) = true := by rw [HZ.out]; simpa using hlt
        have hd' : k < S.size := by rw [HZ.out]; exact hlt
        have hg1 : S[k] = s[k] := by
          have e := HS.out
          subst e
          exact bs_get s k hd'
        have HG := hid hg1
        have HM := hid (numLen_more (by rw [HJ0.out]; exact hj) hk hlt)
        clear hg1
        have hcs : (48 ≤ (s[k].toNat : Int) ∧ (s[k].toNat : Int) ≤ 57) ∨ (s[k].toNat : Int) < 48 ∨ 57 < (s[k].toNat : Int) := by omega
        rcases hcs with h1 | h1 | h1
        · obtain ⟨h1, h2⟩ := h1
          have f1 : decide ((48 : Int) ≤ (S[k].toNat : Int)) = true := by rw [HG.out]; exact decide_eq_true (by omega)
          have f2 : decide ((S[k].toNat : Int) ≤ (57 : Int)) = true := by rw [HG.out]; exact decide_eq_true (by omega)
          have hgo := HM.out.2 (dig_iff.2 ⟨h1, h2⟩)
          have hle := Nat.lt_of_lt_of_le (Nat.lt_of_succ_le hgo) (numLen_le s)
          have HGO := hid hgo
          have hj2 : 1 ≤ k + 1 := by omega
          clear hgo hle h1 h2
          go_wp2_with fail
          go_roundw
          case rel => exact ⟨k + 1, hj2, HGO.out, by go_num, by first | rfl | trivial⟩
          case measure => simp [intOf]; omega
        · have f1 : decide ((48 : Int) ≤ (S[k].toNat : Int)) = false := by rw [HG.out]; exact decide_eq_false (by omega)
          have hno : ¬ k + 1 ≤ numLen s := fun e => by have := dig_iff.1 (HM.out.1 e); omega
          have hkw : k = numLen s := by omega
          clear h1
          have HKW := hid hkw
          have hkp : 0 < k := by rw [hkw]; exact HPOS.out
          have hle : k ≤ S.size := by rw [HZ.out]; exact hks
          clear hno hkw
          go_wp2_with fail
          obtain ⟨Tt, hT⟩ : ∃ Tt, Tt = S.extract 0 k := ⟨_, rfl⟩
          rw [← hT]
          have HT := hid (hT.trans (nend2 HS.out HKW.out))
          have HTL := hid (show Tt.data.toList = s.take (numLen s) by rw [HT.out]; exact bs_data _)
          have hts : Tt.size ≤ 2000 := by rw [HT.out, bs_size, List.length_take]; omega
          have HTAB := hid HI.out.tab.now
          clear hT
          refine (atoi_ok Tt (by omega) _ HTAB.out.syn HTAB.out.rng).mono ?_
          rintro e w2 ⟨hb2, hres⟩
          rw [HTL.out] at hres
          have HB2 := hid hb2
          have HI2 := hid (HI.out.below hb2)
          have HCH2 := hid (HCH.out.then_below hb2)
          obtain ⟨b0, b1, b2, bf⟩ := (HI.out.below hb2).cells
          have hgl := (HI.out.below hb2).lt.1
          simp only at b0 b2
          rw [← HS.out] at b0
          rcases hres with ⟨v, rfl, hv⟩ | ⟨v, tp, p, rfl, hv⟩
          · have HVV := hid hv
            have hvb := atoi_bounds hv
            have HVB := hid hvb
            clear hb2 hv
            go_wp2_with fail
            refine (itoa_ok v HVB.out _ HI2.out.tab.now.pow).mono ?_
            rintro e w3 ⟨rfl, hb3⟩
            have HI3 := hid (HI2.out.below hb3)
            have HCH3 := hid (HCH2.out.then_below hb3)
            obtain ⟨b0, b1, b2, bf⟩ := (HI2.out.below hb3).cells
            have hgl := (HI2.out.below hb3).lt.1
            simp only at b0 b2
            rw [← HS.out] at b0
            have HF := hid ((numF_eq s).trans (atoiF_ok HVV.out))
            have hvb0 := HVB.out.1
            have hvb1 := HVB.out.2
            by_cases hi : Lib.itoa v = s.take (numLen s)
            · have hE : (Lib.itoa v == Tt.toList) = true := by rw [HT.out, bs_toList, hi]; simp
              have HIT := hid hi
              clear hi hb3
              by_cases hlo : v < -1099511627776
              · have g1 : decide (v < -1099511627776) = true := by simpa using hlo
                have HN := hid (show numF s = none by rw [HF.out, if_neg (fun h => by have := h.2.1; omega)])
                clear hlo
                go_wp2_with fail
                go_ret2
                unfold RNumPost
                rw [HN.out]
                exact ⟨rfl, v1, HI3.out, HCH3.out, HV.out⟩
              · have g1 : decide (v < -1099511627776) = false := by simpa using hlo
                by_cases hhi : 1099511627776 < v
                · have g2 : decide (1099511627776 < v) = true := by simpa using hhi
                  have HN := hid (show numF s = none by rw [HF.out, if_neg (fun h => by have := h.2.2; omega)])
                  clear hlo hhi
                  go_wp2_with fail
                  go_ret2
                  unfold RNumPost
                  rw [HN.out]
                  exact ⟨rfl, v1, HI3.out, HCH3.out, HV.out⟩
                · have g2 : decide (1099511627776 < v) = false := by simpa using hhi
                  have HN := hid (show numF s = some v by rw [HF.out, if_pos ⟨HIT.out, by omega, by omega⟩])
                  clear hlo hhi
                  go_wp2_with fail
                  go_ret2
                  unfold RNumPost
                  rw [HN.out, nend HS.out HKW.out]
                  exact ⟨rfl, RdStep.trans HCH3.out HV.out (nset HI3.out)⟩
            · have hE : (Lib.itoa v == Tt.toList) = false := by rw [HT.out, bs_toList]; simpa using hi
              have HN := hid (show numF s = none by rw [HF.out, if_neg (fun h => hi h.1)])
              clear hi hb3
              go_wp2_with fail
              go_ret2
              unfold RNumPost
              rw [HN.out]
              exact ⟨rfl, v1, HI3.out, HCH3.out, HV.out⟩
          · have HN := hid (show numF s = none from (numF_eq s).trans (atoiF_err hv))
            clear hb2 hv
            go_wp2_with fail
            go_ret2
            unfold RNumPost
            rw [HN.out]
            exact ⟨rfl, v1, HI2.out, HCH2.out, HV.out⟩
        · have f1 : decide ((48 : Int) ≤ (S[k].toNat : Int)) = true := by rw [HG.out]; exact decide_eq_true (by omega)
          have f2 : decide ((S[k].toNat : Int) ≤ (57 : Int)) = false := by rw [HG.out]; exact decide_eq_false (by omega)
          have hno : ¬ k + 1 ≤ numLen s := fun e => by have := dig_iff.1 (HM.out.1 e); omega
          have hkw : k = numLen s := by omega
          clear h1
          have HKW := hid hkw
          have hkp : 0 < k := by rw [hkw]; exact HPOS.out
          have hle : k ≤ S.size := by rw [HZ.out]; exact hks
          clear hno hkw
          go_wp2_with fail
          obtain ⟨Tt, hT⟩ : ∃ Tt, Tt = S.extract 0 k := ⟨_, rfl⟩
          rw [← hT]
          have HT := hid (hT.trans (nend2 HS.out HKW.out))
          have HTL := hid (show Tt.data.toList = s.take (numLen s) by rw [HT.out]; exact bs_data _)
          have hts : Tt.size ≤ 2000 := by rw [HT.out, bs_size, List.length_take]; omega
          have HTAB := hid HI.out.tab.now
          clear hT
          refine (atoi_ok Tt (by omega) _ HTAB.out.syn HTAB.out.rng).mono ?_
          rintro e w2 ⟨hb2, hres⟩
          rw [HTL.out] at hres
          have HB2 := hid hb2
          have HI2 := hid (HI.out.below hb2)
          have HCH2 := hid (HCH.out.then_below hb2)
          obtain ⟨b0, b1, b2, bf⟩ := (HI.out.below hb2).cells
          have hgl := (HI.out.below hb2).lt.1
          simp only at b0 b2
          rw [← HS.out] at b0
          rcases hres with ⟨v, rfl, hv⟩ | ⟨v, tp, p, rfl, hv⟩
          · have HVV := hid hv
            have hvb := atoi_bounds hv
            have HVB := hid hvb
            clear hb2 hv
            go_wp2_with fail
            refine (itoa_ok v HVB.out _ HI2.out.tab.now.pow).mono ?_
            rintro e w3 ⟨rfl, hb3⟩
            have HI3 := hid (HI2.out.below hb3)
            have HCH3 := hid (HCH2.out.then_below hb3)
            obtain ⟨b0, b1, b2, bf⟩ := (HI2.out.below hb3).cells
            have hgl := (HI2.out.below hb3).lt.1
            simp only at b0 b2
            rw [← HS.out] at b0
            have HF := hid ((numF_eq s).trans (atoiF_ok HVV.out))
            have hvb0 := HVB.out.1
            have hvb1 := HVB.out.2
            by_cases hi : Lib.itoa v = s.take (numLen s)
            · have hE : (Lib.itoa v == Tt.toList) = true := by rw [HT.out, bs_toList, hi]; simp
              have HIT := hid hi
              clear hi hb3
              by_cases hlo : v < -1099511627776
              · have g1 : decide (v < -1099511627776) = true := by simpa using hlo
                have HN := hid (show numF s = none by rw [HF.out, if_neg (fun h => by have := h.2.1; omega)])
                clear hlo
                go_wp2_with fail
                go_ret2
                unfold RNumPost
                rw [HN.out]
                exact ⟨rfl, v1, HI3.out, HCH3.out, HV.out⟩
              · have g1 : decide (v < -1099511627776) = false := by simpa using hlo
                by_cases hhi : 1099511627776 < v
                · have g2 : decide (1099511627776 < v) = true := by simpa using hhi
                  have HN := hid (show numF s = none by rw [HF.out, if_neg (fun h => by have := h.2.2; omega)])
                  clear hlo hhi
                  go_wp2_with fail
                  go_ret2
                  unfold RNumPost
                  rw [HN.out]
                  exact ⟨rfl, v1, HI3.out, HCH3.out, HV.out⟩
                · have g2 : decide (1099511627776 < v) = false := by simpa using hhi
                  have HN := hid (show numF s = some v by rw [HF.out, if_pos ⟨HIT.out, by omega, by omega⟩])
                  clear hlo hhi
                  go_wp2_with fail
                  go_ret2
                  unfold RNumPost
                  rw [HN.out, nend HS.out HKW.out]
                  exact ⟨rfl, RdStep.trans HCH3.out HV.out (nset HI3.out)⟩
            · have hE : (Lib.itoa v == Tt.toList) = false := by rw [HT.out, bs_toList]; simpa using hi
              have HN := hid (show numF s = none by rw [HF.out, if_neg (fun h => hi h.1)])
              clear hi hb3
              go_wp2_with fail
              go_ret2
              unfold RNumPost
              rw [HN.out]
              exact ⟨rfl, v1, HI3.out, HCH3.out, HV.out⟩
          · have HN := hid (show numF s = none from (numF_eq s).trans (atoiF_err hv))
            clear hb2 hv
            go_wp2_with fail
            go_ret2
            unfold RNumPost
            rw [HN.out]
            exact ⟨rfl, v1, HI2.out, HCH2.out, HV.out⟩
      · have hd : decide (k < S.size) = false := by rw [HZ.out]; simpa using hlt
        have hno : True := trivial
        have hkw : k = numLen s := by have := numLen_le s; omega
        have HKW := hid hkw
        have hkp : 0 < k := by rw [hkw]; exact HPOS.out
        have hle : k ≤ S.size := by rw [HZ.out]; exact hks
        clear hno hkw
        go_wp2_with fail
        obtain ⟨Tt, hT⟩ : ∃ Tt, Tt = S.extract 0 k := ⟨_, rfl⟩
        rw [← hT]
        have HT := hid (hT.trans (nend2 HS.out HKW.out))
        have HTL := hid (show Tt.data.toList = s.take (numLen s) by rw [HT.out]; exact bs_data _)
        have hts : Tt.size ≤ 2000 := by rw [HT.out, bs_size, List.length_take]; omega
        have HTAB := hid HI.out.tab.now
        clear hT
        refine (atoi_ok Tt (by omega) _ HTAB.out.syn HTAB.out.rng).mono ?_
        rintro e w2 ⟨hb2, hres⟩
        rw [HTL.out] at hres
        have HB2 := hid hb2
        have HI2 := hid (HI.out.below hb2)
        have HCH2 := hid (HCH.out.then_below hb2)
        obtain ⟨b0, b1, b2, bf⟩ := (HI.out.below hb2).cells
        have hgl := (HI.out.below hb2).lt.1
        simp only at b0 b2
        rw [← HS.out] at b0
        rcases hres with ⟨v, rfl, hv⟩ | ⟨v, tp, p, rfl, hv⟩
        · have HVV := hid hv
          have hvb := atoi_bounds hv
          have HVB := hid hvb
          clear hb2 hv
          go_wp2_with fail
          refine (itoa_ok v HVB.out _ HI2.out.tab.now.pow).mono ?_
          rintro e w3 ⟨rfl, hb3⟩
          have HI3 := hid (HI2.out.below hb3)
          have HCH3 := hid (HCH2.out.then_below hb3)
          obtain ⟨b0, b1, b2, bf⟩ := (HI2.out.below hb3).cells
          have hgl := (HI2.out.below hb3).lt.1
          simp only at b0 b2
          rw [← HS.out] at b0
          have HF := hid ((numF_eq s).trans (atoiF_ok HVV.out))
          have hvb0 := HVB.out.1
          have hvb1 := HVB.out.2
          by_cases hi : Lib.itoa v = s.take (numLen s)
          · have hE : (Lib.itoa v == Tt.toList) = true := by rw [HT.out, bs_toList, hi]; simp
            have HIT := hid hi
            clear hi hb3
            by_cases hlo : v < -1099511627776
            · have g1 : decide (v < -1099511627776) = true := by simpa using hlo
              have HN := hid (show numF s = none by rw [HF.out, if_neg (fun h => by have := h.2.1; omega)])
              clear hlo
              go_wp2_with fail
              go_ret2
              unfold RNumPost
              rw [HN.out]
              exact ⟨rfl, v1, HI3.out, HCH3.out, HV.out⟩
            · have g1 : decide (v < -1099511627776) = false := by simpa using hlo
              by_cases hhi : 1099511627776 < v
              · have g2 : decide (1099511627776 < v) = true := by simpa using hhi
                have HN := hid (show numF s = none by rw [HF.out, if_neg (fun h => by have := h.2.2; omega)])
                clear hlo hhi
                go_wp2_with fail
                go_ret2
                unfold RNumPost
                rw [HN.out]
                exact ⟨rfl, v1, HI3.out, HCH3.out, HV.out⟩
              · have g2 : decide (1099511627776 < v) = false := by simpa using hhi
                have HN := hid (show numF s = some v by rw [HF.out, if_pos ⟨HIT.out, by omega, by omega⟩])
                clear hlo hhi
                go_wp2_with fail
                go_ret2
                unfold RNumPost
                rw [HN.out, nend HS.out HKW.out]
                exact ⟨rfl, RdStep.trans HCH3.out HV.out (nset HI3.out)⟩
          · have hE : (Lib.itoa v == Tt.toList) = false := by rw [HT.out, bs_toList]; simpa using hi
            have HN := hid (show numF s = none by rw [HF.out, if_neg (fun h => hi h.1)])
            clear hi hb3
            go_wp2_with fail
            go_ret2
            unfold RNumPost
            rw [HN.out]
            exact ⟨rfl, v1, HI3.out, HCH3.out, HV.out⟩
        · have HN := hid (show numF s = none from (numF_eq s).trans (atoiF_err hv))
          clear hb2 hv
          go_wp2_with fail
          go_ret2
          unfold RNumPost
          rw [HN.out]
          exact ⟨rfl, v1, HI2.out, HCH2.out, HV.out⟩
  · have hq : ((S[0].toNat : Int) == (45 : Int)) = false := by rw [HG0.out]; rw [beq_eq_false_iff_ne]; intro e; apply h45; exact UInt8.toNat_inj.1 (by have e45 : (45 : UInt8).toNat = 45 := rfl; omega)
    have HJ0 := hid (HJ.out.trans (if_neg h45))
    clear h45
    go_wp2_with fail
    go_loopw [4] (fun i wr => ∃ k : Nat, 0 ≤ k ∧ k ≤ numLen s ∧ i = .int .i64 (k : Int) ∧ wr = w1) (fun i _ => s.length - (intOf i).toNat)
    case atStart => exact ⟨0, Nat.le_refl _, by have := numJ_le (s := s); rw [HJ0.out] at this; exact this, rfl, rfl⟩
    case round =>
      obtain ⟨k, hj, hk, rfl, rfl⟩ := hrel
      have hks := Nat.le_trans hk (numLen_le s)
      have hk0 : (0 : Int) ≤ (k : Int) := Int.natCast_nonneg _
      clear hq
      by_cases hlt : k < s.length
      · have hd : decide (k < S.size) = true := by rw [HZ.out]; simpa using hlt
        have hd' : k < S.size := by rw [HZ.out]; exact hlt
        have hg1 : S[k] = s[k] := by
          have e := HS.out
          subst e
          exact bs_get s k hd'
        have HG := hid hg1
        have HM := hid (numLen_more (by rw [HJ0.out]; exact hj) hk hlt)
        clear hg1
        have hcs : (48 ≤ (s[k].toNat : Int) ∧ (s[k].toNat : Int) ≤ 57) ∨ (s[k].toNat : Int) < 48 ∨ 57 < (s[k].toNat : Int) := by omega
        rcases hcs with h1 | h1 | h1
        · obtain ⟨h1, h2⟩ := h1
          have f1 : decide ((48 : Int) ≤ (S[k].toNat : Int)) = true := by rw [HG.out]; exact decide_eq_true (by omega)
          have f2 : decide ((S[k].toNat : Int) ≤ (57 : Int)) = true := by rw [HG.out]; exact decide_eq_true (by omega)
          have hgo := HM.out.2 (dig_iff.2 ⟨h1, h2⟩)
          have hle := Nat.lt_of_lt_of_le (Nat.lt_of_succ_le hgo) (numLen_le s)
          have HGO := hid hgo
          have hj2 : 0 ≤ k + 1 := by omega
          clear hgo hle h1 h2
          go_wp2_with fail
          go_roundw
          case rel => exact ⟨k + 1, hj2, HGO.out, by go_num, by first | rfl | trivial⟩
          case measure => simp [intOf]; omega
        · have f1 : decide ((48 : Int) ≤ (S[k].toNat : Int)) = false := by rw [HG.out]; exact decide_eq_false (by omega)
          have hno : ¬ k + 1 ≤ numLen s := fun e => by have := dig_iff.1 (HM.out.1 e); omega
          have hkw : k = numLen s := by omega
          clear h1
          have HKW := hid hkw
          have hkp : 0 < k := by rw [hkw]; exact HPOS.out
          have hle : k ≤ S.size := by rw [HZ.out]; exact hks
          clear hno hkw
          go_wp2_with fail
          obtain ⟨Tt, hT⟩ : ∃ Tt, Tt = S.extract 0 k := ⟨_, rfl⟩
          rw [← hT]
          have HT := hid (hT.trans (nend2 HS.out HKW.out))
          have HTL := hid (show Tt.data.toList = s.take (numLen s) by rw [HT.out]; exact bs_data _)
          have hts : Tt.size ≤ 2000 := by rw [HT.out, bs_size, List.length_take]; omega
          have HTAB := hid HI.out.tab.now
          clear hT
          refine (atoi_ok Tt (by omega) _ HTAB.out.syn HTAB.out.rng).mono ?_
          rintro e w2 ⟨hb2, hres⟩
          rw [HTL.out] at hres
          have HB2 := hid hb2
          have HI2 := hid (HI.out.below hb2)
          have HCH2 := hid (HCH.out.then_below hb2)
          obtain ⟨b0, b1, b2, bf⟩ := (HI.out.below hb2).cells
          have hgl := (HI.out.below hb2).lt.1
          simp only at b0 b2
          rw [← HS.out] at b0
          rcases hres with ⟨v, rfl, hv⟩ | ⟨v, tp, p, rfl, hv⟩
          · have HVV := hid hv
            have hvb := atoi_bounds hv
            have HVB := hid hvb
            clear hb2 hv
            go_wp2_with fail
            refine (itoa_ok v HVB.out _ HI2.out.tab.now.pow).mono ?_
            rintro e w3 ⟨rfl, hb3⟩
            have HI3 := hid (HI2.out.below hb3)
            have HCH3 := hid (HCH2.out.then_below hb3)
            obtain ⟨b0, b1, b2, bf⟩ := (HI2.out.below hb3).cells
            have hgl := (HI2.out.below hb3).lt.1
            simp only at b0 b2
            rw [← HS.out] at b0
            have HF := hid ((numF_eq s).trans (atoiF_ok HVV.out))
            have hvb0 := HVB.out.1
            have hvb1 := HVB.out.2
            by_cases hi : Lib.itoa v = s.take (numLen s)
            · have hE : (Lib.itoa v == Tt.toList) = true := by rw [HT.out, bs_toList, hi]; simp
              have HIT := hid hi
              clear hi hb3
              by_cases hlo : v < -1099511627776
              · have g1 : decide (v < -1099511627776) = true := by simpa using hlo
                have HN := hid (show numF s = none by rw [HF.out, if_neg (fun h => by have := h.2.1; omega)])
                clear hlo
                go_wp2_with fail
                go_ret2
                unfold RNumPost
                rw [HN.out]
                exact ⟨rfl, v1, HI3.out, HCH3.out, HV.out⟩
              · have g1 : decide (v < -1099511627776) = false := by simpa using hlo
                by_cases hhi : 1099511627776 < v
                · have g2 : decide (1099511627776 < v) = true := by simpa using hhi
                  have HN := hid (show numF s = none by rw [HF.out, if_neg (fun h => by have := h.2.2; omega)])
                  clear hlo hhi
                  go_wp2_with fail
                  go_ret2
                  unfold RNumPost
                  rw [HN.out]
                  exact ⟨rfl, v1, HI3.out, HCH3.out, HV.out⟩
                · have g2 : decide (1099511627776 < v) = false := by simpa using hhi
                  have HN := hid (show numF s = some v by rw [HF.out, if_pos ⟨HIT.out, by omega, by omega⟩])
                  clear hlo hhi
                  go_wp2_with fail
                  go_ret2
                  unfold RNumPost
                  rw [HN.out, nend HS.out HKW.out]
                  exact ⟨rfl, RdStep.trans HCH3.out HV.out (nset HI3.out)⟩
            · have hE : (Lib.itoa v == Tt.toList) = false := by rw [HT.out, bs_toList]; simpa using hi
              have HN := hid (show numF s = none by rw [HF.out, if_neg (fun h => hi h.1)])
              clear hi hb3
              go_wp2_with fail
              go_ret2
              unfold RNumPost
              rw [HN.out]
              exact ⟨rfl, v1, HI3.out, HCH3.out, HV.out⟩
          · have HN := hid (show numF s = none from (numF_eq s).trans (atoiF_err hv))
            clear hb2 hv
            go_wp2_with fail
            go_ret2
            unfold RNumPost
            rw [HN.out]
            exact ⟨rfl, v1, HI2.out, HCH2.out, HV.out⟩
        · have f1 : decide ((48 : Int) ≤ (S[k].toNat : Int)) = true := by rw [HG.out]; exact decide_eq_true (by omega)
          have f2 : decide ((S[k].toNat : Int) ≤ (57 : Int)) = false := by rw [HG.out]; exact decide_eq_false (by omega)
          have hno : ¬ k + 1 ≤ numLen s := fun e => by have := dig_iff.1 (HM.out.1 e); omega
          have hkw : k = numLen s := by omega
          clear h1
          have HKW := hid hkw
          have hkp : 0 < k := by rw [hkw]; exact HPOS.out
          have hle : k ≤ S.size := by rw [HZ.out]; exact hks
          clear hno hkw
          go_wp2_with fail
          obtain ⟨Tt, hT⟩ : ∃ Tt, Tt = S.extract 0 k := ⟨_, rfl⟩
          rw [← hT]
          have HT := hid (hT.trans (nend2 HS.out HKW.out))
          have HTL := hid (show Tt.data.toList = s.take (numLen s) by rw [HT.out]; exact bs_data _)
          have hts : Tt.size ≤ 2000 := by rw [HT.out, bs_size, List.length_take]; omega
          have HTAB := hid HI.out.tab.now
          clear hT
          refine (atoi_ok Tt (by omega) _ HTAB.out.syn HTAB.out.rng).mono ?_
          rintro e w2 ⟨hb2, hres⟩
          rw [HTL.out] at hres
          have HB2 := hid hb2
          have HI2 := hid (HI.out.below hb2)
          have HCH2 := hid (HCH.out.then_below hb2)
          obtain ⟨b0, b1, b2, bf⟩ := (HI.out.below hb2).cells
          have hgl := (HI.out.below hb2).lt.1
          simp only at b0 b2
          rw [← HS.out] at b0
          rcases hres with ⟨v, rfl, hv⟩ | ⟨v, tp, p, rfl, hv⟩
          · have HVV := hid hv
            have hvb := atoi_bounds hv
            have HVB := hid hvb
            clear hb2 hv
            go_wp2_with fail
            refine (itoa_ok v HVB.out _ HI2.out.tab.now.pow).mono ?_
            rintro e w3 ⟨rfl, hb3⟩
            have HI3 := hid (HI2.out.below hb3)
            have HCH3 := hid (HCH2.out.then_below hb3)
            obtain ⟨b0, b1, b2, bf⟩ := (HI2.out.below hb3).cells
            have hgl := (HI2.out.below hb3).lt.1
            simp only at b0 b2
            rw [← HS.out] at b0
            have HF := hid ((numF_eq s).trans (atoiF_ok HVV.out))
            have hvb0 := HVB.out.1
            have hvb1 := HVB.out.2
            by_cases hi : Lib.itoa v = s.take (numLen s)
            · have hE : (Lib.itoa v == Tt.toList) = true := by rw [HT.out, bs_toList, hi]; simp
              have HIT := hid hi
              clear hi hb3
              by_cases hlo : v < -1099511627776
              · have g1 : decide (v < -1099511627776) = true := by simpa using hlo
                have HN := hid (show numF s = none by rw [HF.out, if_neg (fun h => by have := h.2.1; omega)])
                clear hlo
                go_wp2_with fail
                go_ret2
                unfold RNumPost
                rw [HN.out]
                exact ⟨rfl, v1, HI3.out, HCH3.out, HV.out⟩
              · have g1 : decide (v < -1099511627776) = false := by simpa using hlo
                by_cases hhi : 1099511627776 < v
                · have g2 : decide (1099511627776 < v) = true := by simpa using hhi
                  have HN := hid (show numF s = none by rw [HF.out, if_neg (fun h => by have := h.2.2; omega)])
                  clear hlo hhi
                  go_wp2_with fail
                  go_ret2
                  unfold RNumPost
                  rw [HN.out]
                  exact ⟨rfl, v1, HI3.out, HCH3.out, HV.out⟩
                · have g2 : decide (1099511627776 < v) = false := by simpa using hhi
                  have HN := hid (show numF s = some v by rw [HF.out, if_pos ⟨HIT.out, by omega, by omega⟩])
                  clear hlo hhi
                  go_wp2_with fail
                  go_ret2
                  unfold RNumPost
                  rw [HN.out, nend HS.out HKW.out]
                  exact ⟨rfl, RdStep.trans HCH3.out HV.out (nset HI3.out)⟩
            · have hE : (Lib.itoa v == Tt.toList) = false := by rw [HT.out, bs_toList]; simpa using hi
              have HN := hid (show numF s = none by rw [HF.out, if_neg (fun h => hi h.1)])
              clear hi hb3
              go_wp2_with fail
              go_ret2
              unfold RNumPost
              rw [HN.out]
              exact ⟨rfl, v1, HI3.out, HCH3.out, HV.out⟩
          · have HN := hid (show numF s = none from (numF_eq s).trans (atoiF_err hv))
            clear hb2 hv
            go_wp2_with fail
            go_ret2
            unfold RNumPost
            rw [HN.out]
            exact ⟨rfl, v1, HI2.out, HCH2.out, HV.out⟩
      · have hd : decide (k < S.size) = false := by rw [HZ.out]; simpa using hlt
        have hno : True := trivial
        have hkw : k = numLen s := by have := numLen_le s; omega
        have HKW := hid hkw
        have hkp : 0 < k := by rw [hkw]; exact HPOS.out
        have hle : k ≤ S.size := by rw [HZ.out]; exact hks
        clear hno hkw
        go_wp2_with fail
        obtain ⟨Tt, hT⟩ : ∃ Tt, Tt = S.extract 0 k := ⟨_, rfl⟩
        rw [← hT]
        have HT := hid (hT.trans (nend2 HS.out HKW.out))
        have HTL := hid (show Tt.data.toList = s.take (numLen s) by rw [HT.out]; exact bs_data _)
        have hts : Tt.size ≤ 2000 := by rw [HT.out, bs_size, List.length_take]; omega
        have HTAB := hid HI.out.tab.now
        clear hT
        refine (atoi_ok Tt (by omega) _ HTAB.out.syn HTAB.out.rng).mono ?_
        rintro e w2 ⟨hb2, hres⟩
        rw [HTL.out] at hres
        have HB2 := hid hb2
        have HI2 := hid (HI.out.below hb2)
        have HCH2 := hid (HCH.out.then_below hb2)
        obtain ⟨b0, b1, b2, bf⟩ := (HI.out.below hb2).cells
        have hgl := (HI.out.below hb2).lt.1
        simp only at b0 b2
        rw [← HS.out] at b0
        rcases hres with ⟨v, rfl, hv⟩ | ⟨v, tp, p, rfl, hv⟩
        · have HVV := hid hv
          have hvb := atoi_bounds hv
          have HVB := hid hvb
          clear hb2 hv
          go_wp2_with fail
          refine (itoa_ok v HVB.out _ HI2.out.tab.now.pow).mono ?_
          rintro e w3 ⟨rfl, hb3⟩
          have HI3 := hid (HI2.out.below hb3)
          have HCH3 := hid (HCH2.out.then_below hb3)
          obtain ⟨b0, b1, b2, bf⟩ := (HI2.out.below hb3).cells
          have hgl := (HI2.out.below hb3).lt.1
          simp only at b0 b2
          rw [← HS.out] at b0
          have HF := hid ((numF_eq s).trans (atoiF_ok HVV.out))
          have hvb0 := HVB.out.1
          have hvb1 := HVB.out.2
          by_cases hi : Lib.itoa v = s.take (numLen s)
          · have hE : (Lib.itoa v == Tt.toList) = true := by rw [HT.out, bs_toList, hi]; simp
            have HIT := hid hi
            clear hi hb3
            by_cases hlo : v < -1099511627776
            · have g1 : decide (v < -1099511627776) = true := by simpa using hlo
              have HN := hid (show numF s = none by rw [HF.out, if_neg (fun h => by have := h.2.1; omega)])
              clear hlo
              go_wp2_with fail
              go_ret2
              unfold RNumPost
              rw [HN.out]
              exact ⟨rfl, v1, HI3.out, HCH3.out, HV.out⟩
            · have g1 : decide (v < -1099511627776) = false := by simpa using hlo
              by_cases hhi : 1099511627776 < v
              · have g2 : decide (1099511627776 < v) = true := by simpa using hhi
                have HN := hid (show numF s = none by rw [HF.out, if_neg (fun h => by have := h.2.2; omega)])
                clear hlo hhi
                go_wp2_with fail
                go_ret2
                unfold RNumPost
                rw [HN.out]
                exact ⟨rfl, v1, HI3.out, HCH3.out, HV.out⟩
              · have g2 : decide (1099511627776 < v) = false := by simpa using hhi
                have HN := hid (show numF s = some v by rw [HF.out, if_pos ⟨HIT.out, by omega, by omega⟩])
                clear hlo hhi
                go_wp2_with fail
                go_ret2
                unfold RNumPost
                rw [HN.out, nend HS.out HKW.out]
                exact ⟨rfl, RdStep.trans HCH3.out HV.out (nset HI3.out)⟩
          · have hE : (Lib.itoa v == Tt.toList) = false := by rw [HT.out, bs_toList]; simpa using hi
            have HN := hid (show numF s = none by rw [HF.out, if_neg (fun h => hi h.1)])
            clear hi hb3
            go_wp2_with fail
            go_ret2
            unfold RNumPost
            rw [HN.out]
            exact ⟨rfl, v1, HI3.out, HCH3.out, HV.out⟩
        · have HN := hid (show numF s = none from (numF_eq s).trans (atoiF_err hv))
          clear hb2 hv
          go_wp2_with fail
          go_ret2
          unfold RNumPost
          rw [HN.out]
          exact ⟨rfl, v1, HI2.out, HCH2.out, HV.out⟩
end
end Go.Proofs.YtlpmfkpefoegeacDoor
