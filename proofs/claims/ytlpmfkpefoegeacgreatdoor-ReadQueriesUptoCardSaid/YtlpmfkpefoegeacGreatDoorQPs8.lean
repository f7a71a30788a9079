/-
  The document's words.
-/
import Derived.Test.YtlpmfkpefoegeacGreatDoorQPs3
import Derived.Test.YtlpmfkpefoegeacGreatDoorQIdxB
namespace Go.Proofs.YtlpmfkpefoegeacGreatDoor
set_option linter.unusedVariables false
set_option linter.unusedSimpArgs false
open Go.RowKit
theorem idx_mem (c : UInt8) : ∀ l : List UInt8, 0 ≤ Lib.indexByte l c ↔ c ∈ l
  | [] => by simp [Lib.indexByte]
  | b :: l => by
    have ih := idx_mem c l
    have hge := Lib.indexByte_ge l c
    unfold Lib.indexByte
    by_cases hb : b = c
    · subst hb; simp
    · have h1 : (b == c) = false := beq_eq_false_iff_ne.2 hb
      rw [h1]
      by_cases hx : Lib.indexByte l c = -1
      · have h2 : (Lib.indexByte l c == -1) = true := by rw [hx]; rfl
        rw [h2]
        have h3 : c ∉ l := fun h => by have := ih.2 h; omega
        simp [h3, Ne.symm hb]
      · have h2 : (Lib.indexByte l c == -1) = false := beq_eq_false_iff_ne.2 hx
        rw [h2]
        have h3 : c ∈ l := ih.1 (by omega)
        simp [h3]
        omega
theorem toNat8 (c : UInt8) : ((c.toNat : Int)).toNat.toUInt8 = c := by simp
theorem idxSp_ok (c : UInt8) (w : World) : Calls Tryz.prog 78 #[.string ⟨#[32, 10, 9, 13]⟩, .int .u8 (c.toNat : Int)] w (fun e w' => (∃ j : Int, e = .returned (.int .i64 j) ∧ decide (0 ≤ j) = spB c) ∧ w' = w) := by
  refine (indexByte_laid _ _ _).mono ?_
  rintro e w' ⟨rfl, rfl⟩
  refine ⟨⟨_, rfl, ?_⟩, rfl⟩
  rw [toNat8, Bool.eq_iff_iff, decide_eq_true_eq, idx_mem]
  unfold spB
  simp [or_assoc]
theorem idxSg_ok (c : UInt8) (w : World) : Calls Tryz.prog 78 #[.string ⟨#[40, 41, 44, 46, 33]⟩, .int .u8 (c.toNat : Int)] w (fun e w' => (∃ j : Int, e = .returned (.int .i64 j) ∧ decide (0 ≤ j) = decide (c = 40 ∨ c = 41 ∨ c = 44 ∨ c = 46 ∨ c = 33)) ∧ w' = w) := by
  refine (indexByte_laid _ _ _).mono ?_
  rintro e w' ⟨rfl, rfl⟩
  refine ⟨⟨_, rfl, ?_⟩, rfl⟩
  rw [toNat8, Bool.eq_iff_iff, decide_eq_true_eq, idx_mem]
  simp
theorem wsmall_ok (c : UInt8) (w : World) : Calls Tryz.prog 76 #[.int .u8 (c.toNat : Int)] w (fun e w' => e = .returned (.bool (lowB c)) ∧ w' = w) := by
  have hl := low_iff (c := c)
  by_cases h1 : (97 : Int) ≤ (c.toNat : Int)
  · have f1 : decide ((97 : Int) ≤ (c.toNat : Int)) = true := decide_eq_true h1
    by_cases h2 : (c.toNat : Int) ≤ 122
    · have f2 : decide ((c.toNat : Int) ≤ 122) = true := decide_eq_true h2
      have HR := hid (hl.2 ⟨h1, h2⟩)
      clear h1 h2 hl
      go_enter Tryz.func76, Tryz.ntmps76
      go_wp2_with fail
      go_ret
      rw [HR.out]; exact ⟨rfl, rfl⟩
    · have f2 : decide ((c.toNat : Int) ≤ 122) = false := decide_eq_false h2
      have HR := hid (show lowB c = false from Bool.eq_false_iff.2 fun e => h2 (hl.1 e).2)
      clear h1 h2 hl
      go_enter Tryz.func76, Tryz.ntmps76
      go_wp2_with fail
      go_ret
      rw [HR.out]; exact ⟨rfl, rfl⟩
  · have f1 : decide ((97 : Int) ≤ (c.toNat : Int)) = false := decide_eq_false h1
    have HR := hid (show lowB c = false from Bool.eq_false_iff.2 fun e => h1 (hl.1 e).1)
    clear h1 hl
    go_enter Tryz.func76, Tryz.ntmps76
    go_wp2_with fail
    go_ret
    rw [HR.out]; exact ⟨rfl, rfl⟩
theorem wdigit_ok (c : UInt8) (w : World) : Calls Tryz.prog 77 #[.int .u8 (c.toNat : Int)] w (fun e w' => e = .returned (.bool (digB c)) ∧ w' = w) := by
  have hl := dig_iff (c := c)
  by_cases h1 : (48 : Int) ≤ (c.toNat : Int)
  · have f1 : decide ((48 : Int) ≤ (c.toNat : Int)) = true := decide_eq_true h1
    by_cases h2 : (c.toNat : Int) ≤ 57
    · have f2 : decide ((c.toNat : Int) ≤ 57) = true := decide_eq_true h2
      have HR := hid (hl.2 ⟨h1, h2⟩)
      clear h1 h2 hl
      go_enter Tryz.func77, Tryz.ntmps77
      go_wp2_with fail
      go_ret
      rw [HR.out]; exact ⟨rfl, rfl⟩
    · have f2 : decide ((c.toNat : Int) ≤ 57) = false := decide_eq_false h2
      have HR := hid (show digB c = false from Bool.eq_false_iff.2 fun e => h2 (hl.1 e).2)
      clear h1 h2 hl
      go_enter Tryz.func77, Tryz.ntmps77
      go_wp2_with fail
      go_ret
      rw [HR.out]; exact ⟨rfl, rfl⟩
  · have f1 : decide ((48 : Int) ≤ (c.toNat : Int)) = false := decide_eq_false h1
    have HR := hid (show digB c = false from Bool.eq_false_iff.2 fun e => h1 (hl.1 e).1)
    clear h1 hl
    go_enter Tryz.func77, Tryz.ntmps77
    go_wp2_with fail
    go_ret
    rw [HR.out]; exact ⟨rfl, rfl⟩
def WdPost (w : World) (l : List Str) (e : Ending) (w' : World) : Prop :=
  ∃ lv, e = .returned lv ∧ Below w.heap.size w w' ∧ SlR 1 (flatR strV strOk) (fun b => w.heap.size ≤ b) w' l lv
structure WLoop (s : Str) (k : Nat) (done : List Str) (v : Value) (w wr : World) : Prop where
  eq : words s = done ++ words (s.drop k)
  len : done.length ≤ k
  own : OwnS wr w.heap.size done v
  bel : Below w.heap.size w wr
theorem tokLen_def (c : UInt8) (r : Str) : tokLen (c :: r) = if lowB c || upB c then 1 + lows r else if digB c || c == 45 then 1 + digs r else if c = 58 ∧ r.head? = some 45 then 2
    else if c = 40 ∨ c = 41 ∨ c = 44 ∨ c = 46 ∨ c = 33 then 1 else 0 := rfl
theorem WLoop.next {s : Str} {k n : Nat} {done : List Str} {v v2 : Value} {w wr w2 : World} {cells : Array Value} {c : UInt8} {r : Str} (h : WLoop s k done v w wr) (hd : s.drop k = c :: r) (hsp : spB c = false) (hn : n = tokLen (c :: r)) (h0 : n ≠ 0)
    (hown : OwnS w2 w.heap.size (done ++ [(s.drop k).take n]) v2) (hg : Grew (wr.alloc (.cells cells 9)) w2 v v2) : WLoop s (k + n) (done ++ [(s.drop k).take n]) v2 w w2 := by
  refine ⟨?_, ?_, hown, ?_⟩
  · rw [h.eq, ← List.drop_drop, hd, words_tok hsp (by rw [← hn]; exact h0), ← hn]
    simp
  · have := h.len
    simp only [List.length_append, List.length_singleton]; omega
  · exact hg.below (h.bel.alloc h.bel.size _) (by have := h.bel.size; simp only [World.size_alloc]; omega) (fun k hk => (h.own.lt k hk).1)
set_option maxRecDepth 100000 in
set_option maxHeartbeats 16000000 in
theorem words_ok (s : Str) (hs : s.length ≤ 2000) (w : World) : Calls Tryz.prog 42 #[.string (bs s)] w (WdPost w (words s)) := by
  obtain ⟨S, hS⟩ : ∃ S, S = bs s := ⟨_, rfl⟩
  rw [← hS]
  have HZ := hid (show S.size = s.length by rw [hS, bs_size])
  have hsz : S.size ≤ 2000 := by rw [HZ.out]; exact hs
  have HS := hid hS
  have HLN := hid hs
  clear hS hs
  go_enter Tryz.func42, Tryz.ntmps42
  go_wp2_with fail
  go_loopw [3, 6] (fun v i wr => ∃ (k : Nat) (done : List Str), i = .int .i64 (k : Int) ∧ k ≤ s.length ∧ WLoop s k done v w wr) (fun _ i _ => s.length - (intOf i).toNat)
  case atStart => exact ⟨0, [], rfl, Nat.zero_le _, rfl, Nat.le_refl _, OwnF.nil, Below.refl _ _⟩
  case round =>
    obtain ⟨k, done, rfl, hk, hT⟩ := hrel
    have HT := hid hT
    have HK := hid hk
    have hk0 : (0 : Int) ≤ (k : Int) := Int.natCast_nonneg _
    obtain ⟨pa, pc, rfl, hpl, hpm⟩ := hT.own.val
    unfold maxLen at hpm
    clear hT hk
    by_cases hlt : k < s.length
    · have hkS : k < S.size := by rw [HZ.out]; exact hlt
      have hd : decide (k < S.size) = true := decide_eq_true hkS
      obtain ⟨c, hc⟩ : ∃ c, c = s[k] := ⟨_, rfl⟩
      obtain ⟨r, hr⟩ : ∃ r, r = s.drop (k + 1) := ⟨_, rfl⟩
      have HD := hid (show s.drop k = c :: r by rw [hc, hr]; exact List.drop_eq_getElem_cons hlt)
      have hg : S[k] = c := by
        have e := HS.out
        subst e
        rw [hc]; exact bs_get s k hkS
      have HG := hid hg
      have HRL := hid (show r.length + k + 1 = s.length by rw [hr, List.length_drop]; omega)
      have HRG := hid (show ∀ (q : Nat) (hq : q < r.length) (m : Nat) (hm : m < S.size), m = k + q + 1 → S[m] = r[q] from fun q hq m hm e => by
        have e1 := HS.out
        subst e1 e
        rw [bs_get s _ hm]
        simp only [hr, List.getElem_drop]
        congr 1; omega)
      clear hg hc hr
      go_wp2_with fail
      refine (idxSp_ok S[k] wr).mono ?_
      rintro e w' ⟨⟨j, rfl, hj⟩, rfl⟩
      rw [HG.out] at hj
      cases hsp : spB c with
      | true =>
        rw [hsp] at hj
        have HSP := hid hsp
        clear hsp
        go_wp2_with fail
        go_roundw
        case rel => exact ⟨k + 1, done, by go_num, by omega, by have h1 := HT.out.eq; rw [HD.out, words_sp HSP.out] at h1; rw [h1, ← List.drop_drop, HD.out]; rfl, by have := HT.out.len; omega, HT.out.own, HT.out.bel⟩
        case measure => simp [intOf]; omega
      | false =>
        rw [hsp] at hj
        have HSP := hid hsp
        clear hsp
        go_upto_region 11 with fail
        go_cut [25] (fun o wx => o = .bool (lowB c || upB c) ∧ wx = w')
        case first =>
          go_wp2_with fail
          refine (wsmall_ok S[k] _).mono ?_
          rintro e w3 ⟨rfl, rfl⟩
          rw [show lowB S[k] = lowB c by rw [HG.out]]
          cases hlw : lowB c with
          | true =>
            have HLW := hid hlw
            clear hlw
            go_wp2_with fail
            go_meet
            case rel => rw [HLW.out]; exact ⟨rfl, rfl⟩
          | false =>
            have HLW := hid hlw
            clear hlw
            have hui := up_iff (c := c)
            by_cases h65 : (65 : Int) ≤ (c.toNat : Int)
            · have f1 : decide ((65 : Int) ≤ (S[k].toNat : Int)) = true := by rw [HG.out]; exact decide_eq_true (by omega)
              by_cases h90 : (c.toNat : Int) ≤ 90
              · have f2 : decide ((S[k].toNat : Int) ≤ (90 : Int)) = true := by rw [HG.out]; exact decide_eq_true (by omega)
                have HUP := hid (hui.2 ⟨h65, h90⟩)
                clear h65 h90 hui
                go_wp2_with fail
                go_meet
                case rel => rw [HLW.out, HUP.out]; exact ⟨rfl, rfl⟩
              · have f2 : decide ((S[k].toNat : Int) ≤ (90 : Int)) = false := by rw [HG.out]; exact decide_eq_false (by omega)
                have HUP := hid (show upB c = false from Bool.eq_false_iff.2 fun e => h90 (hui.1 e).2)
                clear h65 h90 hui
                go_wp2_with fail
                go_meet
                case rel => rw [HLW.out, HUP.out]; exact ⟨rfl, rfl⟩
            · have f1 : decide ((65 : Int) ≤ (S[k].toNat : Int)) = false := by rw [HG.out]; exact decide_eq_false (by omega)
              have HUP := hid (show upB c = false from Bool.eq_false_iff.2 fun e => h65 (hui.1 e).1)
              clear h65 hui
              go_wp2_with fail
              go_meet
              case rel => rw [HLW.out, HUP.out]; exact ⟨rfl, rfl⟩
        case rest =>
        obtain ⟨rfl, hwc⟩ := hcut
        subst hwc
        cases hlu : (lowB c || upB c) with
        | true =>
          have HTOK := hid (show tokLen (c :: r) = 1 + lows r by rw [tokLen_def, if_pos hlu])
          clear hlu hj
          have hcr : lows r ≤ r.length := (List.takeWhile_sublist _).length_le
          have HCR := hid hcr
          clear hcr
          go_wp2_with fail
          go_loopw [8] (fun nv wx => ∃ n : Nat, nv = .int .i64 (n : Int) ∧ 1 ≤ n ∧ n ≤ 1 + lows r ∧ wx = wc) (fun nv _ => s.length - (intOf nv).toNat)
          case atStart => exact ⟨1, rfl, Nat.le_refl _, by omega, rfl⟩
          case round =>
            obtain ⟨n, rfl, hn1, hn2, rfl⟩ := hrel
            have hn0 : (0 : Int) ≤ (n : Int) := Int.natCast_nonneg _
            obtain ⟨m, hm⟩ : ∃ m : Nat, m = k + n := ⟨_, rfl⟩
            have hkm : (k : Int) + (n : Int) = (m : Int) := by omega
            have HM := hid hm
            have HN12 := hid (And.intro hn1 hn2)
            clear hm hn1 hn2
            by_cases hmS : m < S.size
            · have hmd : decide (m < S.size) = true := decide_eq_true hmS
              have hq : n - 1 < r.length := by have h1 := HRL.out; have h2 := HM.out; have h3 := HZ.out; have h4 := HN12.out; omega
              have HGM := hid (HRG.out (n - 1) hq m hmS (by have h2 := HM.out; have h4 := HN12.out; omega))
              have HTW := hid (takeWhile_len (p := lowB) r (n - 1) hq (by have h4 := HN12.out.2; unfold lows at h4; omega))
              have HNR := hid (show m < s.length by have h3 := HZ.out; omega)
              go_wp2_with fail
              refine (wsmall_ok S[m] _).mono ?_
              rintro e w3 ⟨rfl, rfl⟩
              rw [show lowB S[m] = lowB r[n - 1] by rw [HGM.out]]
              cases hlw : lowB r[n - 1] with
              | true =>
                have HGO := hid (HTW.out.2 hlw)
                clear hlw
                go_wp2_with fail
                go_roundw
                case rel => exact ⟨n + 1, by go_num, by omega, by have h4 := HN12.out; have h5 := HGO.out; unfold lows; omega, by first | rfl | trivial⟩
                case measure => have h1 := HM.out; have h2 := HNR.out; simp [intOf]; omega
              | false =>
                have HN := hid (show n = tokLen (c :: r) by
                  have h4 := HN12.out
                  have h5 : ¬ n - 1 + 1 ≤ (r.takeWhile lowB).length := fun e => by have := HTW.out.1 e; rw [hlw] at this; cases this
                  rw [HTOK.out]
                  unfold lows at h4 ⊢; omega)
                have HNB := hid (show 1 ≤ n ∧ m ≤ s.length from ⟨HN12.out.1, Nat.le_of_lt HNR.out⟩)
                clear hlw
                have hmS2 : m ≤ S.size := by rw [HZ.out]; exact HNB.out.2
                have hkm2 : k ≤ m := by have := HM.out; omega
                have HX := hid (show S.extract k m = bs ((s.drop k).take n) by rw [HS.out, bs_extract, HM.out]; congr 2; omega)
                have HTL := hid (show ((s.drop k).take n).length ≤ 2000 by rw [List.length_take, List.length_drop]; have := HLN.out; omega)
                have HDL := hid (show done.length < 4194304 by have := HT.out.len; have := HLN.out; have := HNB.out; have := HM.out; omega)
                go_wp2_with (at_builtin; go_must (refine wpList_app1 rfl (.tmp 100) (.tmp 107) 45 rfl w.heap.size 9 1 16 tyStrs strR_lasts (A := fun _ => True) (.slice pa done.length pc) done rfl (OwnF.ownR strV_len HT.out.own _) ((s.drop k).take n) [.string (S.extract k m)] (by rfl) rfl ⟨by have := HTL.out; unfold strOk; omega, by rw [HX.out]; rfl⟩ ⟨HDL.out, HT.out.bel.size⟩ ?_); go_must (intro v2 w2 hown hgrew; obtain ⟨va2, vc2, hv2, -⟩ := OwnR.val' hown; rw [show (done ++ [(s.drop k).take n]).length = done.length + 1 by simp] at hv2; subst hv2; have HW := hid (HT.out.next HD.out HSP.out HN.out (by have := HNB.out.1; omega) (OwnF.of_ownR hown) hgrew); rw [← HM.out] at HW; clear hown hgrew))
                go_roundw
                case rel => exact ⟨m, _, rfl, HNB.out.2, HW.out⟩
                case measure => have := HM.out; have := HNB.out; simp [intOf]; omega
            · have hmd : decide (m < S.size) = false := decide_eq_false hmS
              have hmd' : ¬ (m : Int) < (S.size : Int) := by omega
              have HN := hid (show n = tokLen (c :: r) by
                have h4 := HN12.out
                have h5 := HRL.out
                have h6 := HM.out
                have h7 := HZ.out
                have h8 := HCR.out
                rw [HTOK.out]
                omega)
              have HNB := hid (show 1 ≤ n ∧ m ≤ s.length from ⟨HN12.out.1, by have h4 := HN12.out; have h5 := HRL.out; have h6 := HM.out; have h8 := HCR.out; omega⟩)
              clear hmS
              have hmS2 : m ≤ S.size := by rw [HZ.out]; exact HNB.out.2
              have hkm2 : k ≤ m := by have := HM.out; omega
              have HX := hid (show S.extract k m = bs ((s.drop k).take n) by rw [HS.out, bs_extract, HM.out]; congr 2; omega)
              have HTL := hid (show ((s.drop k).take n).length ≤ 2000 by rw [List.length_take, List.length_drop]; have := HLN.out; omega)
              have HDL := hid (show done.length < 4194304 by have := HT.out.len; have := HLN.out; have := HNB.out; have := HM.out; omega)
              go_wp2_with (at_builtin; go_must (refine wpList_app1 rfl (.tmp 100) (.tmp 107) 45 rfl w.heap.size 9 1 16 tyStrs strR_lasts (A := fun _ => True) (.slice pa done.length pc) done rfl (OwnF.ownR strV_len HT.out.own _) ((s.drop k).take n) [.string (S.extract k m)] (by rfl) rfl ⟨by have := HTL.out; unfold strOk; omega, by rw [HX.out]; rfl⟩ ⟨HDL.out, HT.out.bel.size⟩ ?_); go_must (intro v2 w2 hown hgrew; obtain ⟨va2, vc2, hv2, -⟩ := OwnR.val' hown; rw [show (done ++ [(s.drop k).take n]).length = done.length + 1 by simp] at hv2; subst hv2; have HW := hid (HT.out.next HD.out HSP.out HN.out (by have := HNB.out.1; omega) (OwnF.of_ownR hown) hgrew); rw [← HM.out] at HW; clear hown hgrew))
              go_roundw
              case rel => exact ⟨m, _, rfl, HNB.out.2, HW.out⟩
              case measure => have := HM.out; have := HNB.out; simp [intOf]; omega
        | false =>
          have HLU := hid hlu
          clear hlu hj
          go_upto_region 14 with fail
          go_cut [54] (fun o wx => o = .bool (digB c || c == 45) ∧ wx = wc)
          case first =>
            go_wp2_with fail
            refine (wdigit_ok S[k] _).mono ?_
            rintro e w3 ⟨rfl, rfl⟩
            rw [show digB S[k] = digB c by rw [HG.out]]
            cases hdg : digB c with
            | true =>
              have HDG := hid hdg
              clear hdg
              go_wp2_with fail
              go_meet
              case rel => rw [HDG.out]; exact ⟨rfl, rfl⟩
            | false =>
              have HDG := hid hdg
              clear hdg
              by_cases h45 : c = 45
              · have f1 : ((S[k].toNat : Int) == (45 : Int)) = true := by rw [HG.out, h45]; rfl
                have HE := hid (show (c == 45) = true by rw [h45]; rfl)
                clear h45
                go_wp2_with fail
                go_meet
                case rel => rw [HDG.out, HE.out]; exact ⟨rfl, rfl⟩
              · have f1 : ((S[k].toNat : Int) == (45 : Int)) = false := by rw [HG.out, beq_eq_false_iff_ne]; exact fun e => h45 (UInt8.toNat_inj.1 (by have e45 : (45 : UInt8).toNat = 45 := rfl; omega))
                have HE := hid (show (c == 45) = false from beq_eq_false_iff_ne.2 h45)
                clear h45
                go_wp2_with fail
                go_meet
                case rel => rw [HDG.out, HE.out]; exact ⟨rfl, rfl⟩
          case rest =>
          obtain ⟨rfl, hwc⟩ := hcut
          subst hwc
          cases hdn : (digB c || c == 45) with
          | true =>
            have HTOK := hid (show tokLen (c :: r) = 1 + digs r by rw [tokLen_def, if_neg (by rw [HLU.out]; simp), if_pos hdn])
            clear hdn
            have hcr : digs r ≤ r.length := (List.takeWhile_sublist _).length_le
            have HCR := hid hcr
            clear hcr
            go_wp2_with fail
            go_loopw [8] (fun nv wx => ∃ n : Nat, nv = .int .i64 (n : Int) ∧ 1 ≤ n ∧ n ≤ 1 + digs r ∧ wx = wc) (fun nv _ => s.length - (intOf nv).toNat)
            case atStart => exact ⟨1, rfl, Nat.le_refl _, by omega, rfl⟩
            case round =>
              obtain ⟨n, rfl, hn1, hn2, rfl⟩ := hrel
              have hn0 : (0 : Int) ≤ (n : Int) := Int.natCast_nonneg _
              obtain ⟨m, hm⟩ : ∃ m : Nat, m = k + n := ⟨_, rfl⟩
              have hkm : (k : Int) + (n : Int) = (m : Int) := by omega
              have HM := hid hm
              have HN12 := hid (And.intro hn1 hn2)
              clear hm hn1 hn2
              by_cases hmS : m < S.size
              · have hmd : decide (m < S.size) = true := decide_eq_true hmS
                have hq : n - 1 < r.length := by have h1 := HRL.out; have h2 := HM.out; have h3 := HZ.out; have h4 := HN12.out; omega
                have HGM := hid (HRG.out (n - 1) hq m hmS (by have h2 := HM.out; have h4 := HN12.out; omega))
                have HTW := hid (takeWhile_len (p := digB) r (n - 1) hq (by have h4 := HN12.out.2; unfold digs at h4; omega))
                have HNR := hid (show m < s.length by have h3 := HZ.out; omega)
                go_wp2_with fail
                refine (wdigit_ok S[m] _).mono ?_
                rintro e w3 ⟨rfl, rfl⟩
                rw [show digB S[m] = digB r[n - 1] by rw [HGM.out]]
                cases hlw : digB r[n - 1] with
                | true =>
                  have HGO := hid (HTW.out.2 hlw)
                  clear hlw
                  go_wp2_with fail
                  go_roundw
                  case rel => exact ⟨n + 1, by go_num, by omega, by have h4 := HN12.out; have h5 := HGO.out; unfold digs; omega, by first | rfl | trivial⟩
                  case measure => have h1 := HM.out; have h2 := HNR.out; simp [intOf]; omega
                | false =>
                  have HN := hid (show n = tokLen (c :: r) by
                    have h4 := HN12.out
                    have h5 : ¬ n - 1 + 1 ≤ (r.takeWhile digB).length := fun e => by have := HTW.out.1 e; rw [hlw] at this; cases this
                    rw [HTOK.out]
                    unfold digs at h4 ⊢; omega)
                  have HNB := hid (show 1 ≤ n ∧ m ≤ s.length from ⟨HN12.out.1, Nat.le_of_lt HNR.out⟩)
                  clear hlw
                  have hmS2 : m ≤ S.size := by rw [HZ.out]; exact HNB.out.2
                  have hkm2 : k ≤ m := by have := HM.out; omega
                  have HX := hid (show S.extract k m = bs ((s.drop k).take n) by rw [HS.out, bs_extract, HM.out]; congr 2; omega)
                  have HTL := hid (show ((s.drop k).take n).length ≤ 2000 by rw [List.length_take, List.length_drop]; have := HLN.out; omega)
                  have HDL := hid (show done.length < 4194304 by have := HT.out.len; have := HLN.out; have := HNB.out; have := HM.out; omega)
                  go_wp2_with (at_builtin; go_must (refine wpList_app1 rfl (.tmp 100) (.tmp 107) 45 rfl w.heap.size 9 1 16 tyStrs strR_lasts (A := fun _ => True) (.slice pa done.length pc) done rfl (OwnF.ownR strV_len HT.out.own _) ((s.drop k).take n) [.string (S.extract k m)] (by rfl) rfl ⟨by have := HTL.out; unfold strOk; omega, by rw [HX.out]; rfl⟩ ⟨HDL.out, HT.out.bel.size⟩ ?_); go_must (intro v2 w2 hown hgrew; obtain ⟨va2, vc2, hv2, -⟩ := OwnR.val' hown; rw [show (done ++ [(s.drop k).take n]).length = done.length + 1 by simp] at hv2; subst hv2; have HW := hid (HT.out.next HD.out HSP.out HN.out (by have := HNB.out.1; omega) (OwnF.of_ownR hown) hgrew); rw [← HM.out] at HW; clear hown hgrew))
                  go_roundw
                  case rel => exact ⟨m, _, rfl, HNB.out.2, HW.out⟩
                  case measure => have := HM.out; have := HNB.out; simp [intOf]; omega
              · have hmd : decide (m < S.size) = false := decide_eq_false hmS
                have hmd' : ¬ (m : Int) < (S.size : Int) := by omega
                have HN := hid (show n = tokLen (c :: r) by
                  have h4 := HN12.out
                  have h5 := HRL.out
                  have h6 := HM.out
                  have h7 := HZ.out
                  have h8 := HCR.out
                  rw [HTOK.out]
                  omega)
                have HNB := hid (show 1 ≤ n ∧ m ≤ s.length from ⟨HN12.out.1, by have h4 := HN12.out; have h5 := HRL.out; have h6 := HM.out; have h8 := HCR.out; omega⟩)
                clear hmS
                have hmS2 : m ≤ S.size := by rw [HZ.out]; exact HNB.out.2
                have hkm2 : k ≤ m := by have := HM.out; omega
                have HX := hid (show S.extract k m = bs ((s.drop k).take n) by rw [HS.out, bs_extract, HM.out]; congr 2; omega)
                have HTL := hid (show ((s.drop k).take n).length ≤ 2000 by rw [List.length_take, List.length_drop]; have := HLN.out; omega)
                have HDL := hid (show done.length < 4194304 by have := HT.out.len; have := HLN.out; have := HNB.out; have := HM.out; omega)
                go_wp2_with (at_builtin; go_must (refine wpList_app1 rfl (.tmp 100) (.tmp 107) 45 rfl w.heap.size 9 1 16 tyStrs strR_lasts (A := fun _ => True) (.slice pa done.length pc) done rfl (OwnF.ownR strV_len HT.out.own _) ((s.drop k).take n) [.string (S.extract k m)] (by rfl) rfl ⟨by have := HTL.out; unfold strOk; omega, by rw [HX.out]; rfl⟩ ⟨HDL.out, HT.out.bel.size⟩ ?_); go_must (intro v2 w2 hown hgrew; obtain ⟨va2, vc2, hv2, -⟩ := OwnR.val' hown; rw [show (done ++ [(s.drop k).take n]).length = done.length + 1 by simp] at hv2; subst hv2; have HW := hid (HT.out.next HD.out HSP.out HN.out (by have := HNB.out.1; omega) (OwnF.of_ownR hown) hgrew); rw [← HM.out] at HW; clear hown hgrew))
                go_roundw
                case rel => exact ⟨m, _, rfl, HNB.out.2, HW.out⟩
                case measure => have := HM.out; have := HNB.out; simp [intOf]; omega
          | false =>
            have HDN := hid hdn
            clear hdn
            obtain ⟨nk, hnk⟩ : ∃ nk, nk = decide (c = 58 ∧ r.head? = some 45) := ⟨_, rfl⟩
            have HNK := hid hnk
            clear hnk
            go_upto_region 17 with fail
            go_cut [79] (fun o wx => o = .bool nk ∧ wx = wc)
            case first =>
              by_cases h58 : c = 58
              · have f1 : ((S[k].toNat : Int) == (58 : Int)) = true := by rw [HG.out, h58]; rfl
                obtain ⟨m, hm⟩ : ∃ m : Nat, m = k + 1 := ⟨_, rfl⟩
                have hkm : (k : Int) + 1 = (m : Int) := by omega
                by_cases hmS : m < S.size
                · have hmd : decide (m < S.size) = true := decide_eq_true hmS
                  have hq : 0 < r.length := by have h1 := HRL.out; have h3 := HZ.out; omega
                  have hgm := HRG.out 0 hq m hmS (by omega)
                  by_cases h45 : r[0] = 45
                  · have f2 : ((S[m].toNat : Int) == (45 : Int)) = true := by rw [hgm, h45]; rfl
                    have HE := hid (show nk = true by rw [HNK.out]; refine decide_eq_true ⟨h58, ?_⟩; rw [← h45]; cases r with | nil => simp at hq | cons a b => rfl)
                    clear h45 h58 hgm hm hq
                    go_wp2_with fail
                    go_meet
                    case rel => rw [HE.out]; exact ⟨rfl, rfl⟩
                  · have f2 : ((S[m].toNat : Int) == (45 : Int)) = false := by rw [hgm, beq_eq_false_iff_ne]; exact fun e => h45 (UInt8.toNat_inj.1 (by have e45 : (45 : UInt8).toNat = 45 := rfl; omega))
                    have HE := hid (show nk = false by rw [HNK.out]; refine decide_eq_false fun e => h45 ?_; have := e.2; cases r with | nil => simp at hq | cons a b => simpa using this)
                    clear h45 h58 hgm hm hq
                    go_wp2_with fail
                    go_meet
                    case rel => rw [HE.out]; exact ⟨rfl, rfl⟩
                · have hmd : decide (m < S.size) = false := decide_eq_false hmS
                  have hmd' : ¬ (m : Int) < (S.size : Int) := by omega
                  have HE := hid (show nk = false by rw [HNK.out]; refine decide_eq_false fun e => ?_; have := e.2; cases r with | nil => simp at this | cons a b => have h1 := HRL.out; have h3 := HZ.out; simp only [List.length_cons] at h1; omega)
                  clear h58 hm hmS
                  go_wp2_with fail
                  go_meet
                  case rel => rw [HE.out]; exact ⟨rfl, rfl⟩
              · have f1 : ((S[k].toNat : Int) == (58 : Int)) = false := by rw [HG.out, beq_eq_false_iff_ne]; exact fun e => h58 (UInt8.toNat_inj.1 (by have e58 : (58 : UInt8).toNat = 58 := rfl; omega))
                have HE := hid (show nk = false by rw [HNK.out]; exact decide_eq_false fun e => h58 e.1)
                clear h58
                go_wp2_with fail
                go_meet
                case rel => rw [HE.out]; exact ⟨rfl, rfl⟩
            case rest =>
            obtain ⟨rfl, hwc⟩ := hcut
            subst hwc
            cases hnk : nk with
            | true =>
              have hp := of_decide_eq_true (HNK.out.symm.trans hnk)
              have HTOK := hid (show tokLen (c :: r) = 2 by rw [tokLen_def, if_neg (by rw [HLU.out]; simp), if_neg (by rw [HDN.out]; simp), if_pos hp])
              have HRP := hid (show 0 < r.length by have := hp.2; cases r with | nil => simp at this | cons a b => simp)
              clear hnk hp
              obtain ⟨n, hn⟩ : ∃ n : Nat, n = 2 := ⟨_, rfl⟩
              obtain ⟨m, hm⟩ : ∃ m : Nat, m = k + n := ⟨_, rfl⟩
              have hkm : (k : Int) + 2 = (m : Int) := by omega
              have HM := hid hm
              have HN := hid (show n = tokLen (c :: r) by rw [hn, HTOK.out])
              have HNB := hid (show 1 ≤ n ∧ m ≤ s.length from ⟨by omega, by have h1 := HRL.out; have h2 := HRP.out; omega⟩)
              clear hn hm
              have hmS2 : m ≤ S.size := by rw [HZ.out]; exact HNB.out.2
              have hkm2 : k ≤ m := by have := HM.out; omega
              have HX := hid (show S.extract k m = bs ((s.drop k).take n) by rw [HS.out, bs_extract, HM.out]; congr 2; omega)
              have HTL := hid (show ((s.drop k).take n).length ≤ 2000 by rw [List.length_take, List.length_drop]; have := HLN.out; omega)
              have HDL := hid (show done.length < 4194304 by have := HT.out.len; have := HLN.out; have := HNB.out; have := HM.out; omega)
              go_wp2_with (at_builtin; go_must (refine wpList_app1 rfl (.tmp 100) (.tmp 107) 45 rfl w.heap.size 9 1 16 tyStrs strR_lasts (A := fun _ => True) (.slice pa done.length pc) done rfl (OwnF.ownR strV_len HT.out.own _) ((s.drop k).take n) [.string (S.extract k m)] (by rfl) rfl ⟨by have := HTL.out; unfold strOk; omega, by rw [HX.out]; rfl⟩ ⟨HDL.out, HT.out.bel.size⟩ ?_); go_must (intro v2 w2 hown hgrew; obtain ⟨va2, vc2, hv2, -⟩ := OwnR.val' hown; rw [show (done ++ [(s.drop k).take n]).length = done.length + 1 by simp] at hv2; subst hv2; have HW := hid (HT.out.next HD.out HSP.out HN.out (by have := HNB.out.1; omega) (OwnF.of_ownR hown) hgrew); rw [← HM.out] at HW; clear hown hgrew))
              go_roundw
              case rel => exact ⟨m, _, rfl, HNB.out.2, HW.out⟩
              case measure => have := HM.out; have := HNB.out; simp [intOf]; omega
            | false =>
              have hp := of_decide_eq_false (HNK.out.symm.trans hnk)
              have HNP := hid hp
              clear hnk hp
              go_wp2_with fail
              refine (idxSg_ok S[k] _).mono ?_
              rintro e w3 ⟨⟨j, rfl, hj⟩, rfl⟩
              rw [HG.out] at hj
              by_cases hsg : c = 40 ∨ c = 41 ∨ c = 44 ∨ c = 46 ∨ c = 33
              · rw [decide_eq_true hsg] at hj
                have HTOK := hid (show tokLen (c :: r) = 1 by rw [tokLen_def, if_neg (by rw [HLU.out]; simp), if_neg (by rw [HDN.out]; simp), if_neg HNP.out, if_pos hsg])
                clear hsg
                obtain ⟨n, hn⟩ : ∃ n : Nat, n = 1 := ⟨_, rfl⟩
                obtain ⟨m, hm⟩ : ∃ m : Nat, m = k + n := ⟨_, rfl⟩
                have hkm : (k : Int) + 1 = (m : Int) := by omega
                have HM := hid hm
                have HN := hid (show n = tokLen (c :: r) by rw [hn, HTOK.out])
                have HNB := hid (show 1 ≤ n ∧ m ≤ s.length from ⟨by omega, by have h1 := HRL.out; skip; omega⟩)
                clear hn hm
                have hmS2 : m ≤ S.size := by rw [HZ.out]; exact HNB.out.2
                have hkm2 : k ≤ m := by have := HM.out; omega
                have HX := hid (show S.extract k m = bs ((s.drop k).take n) by rw [HS.out, bs_extract, HM.out]; congr 2; omega)
                have HTL := hid (show ((s.drop k).take n).length ≤ 2000 by rw [List.length_take, List.length_drop]; have := HLN.out; omega)
                have HDL := hid (show done.length < 4194304 by have := HT.out.len; have := HLN.out; have := HNB.out; have := HM.out; omega)
                go_wp2_with (at_builtin; go_must (refine wpList_app1 rfl (.tmp 100) (.tmp 107) 45 rfl w.heap.size 9 1 16 tyStrs strR_lasts (A := fun _ => True) (.slice pa done.length pc) done rfl (OwnF.ownR strV_len HT.out.own _) ((s.drop k).take n) [.string (S.extract k m)] (by rfl) rfl ⟨by have := HTL.out; unfold strOk; omega, by rw [HX.out]; rfl⟩ ⟨HDL.out, HT.out.bel.size⟩ ?_); go_must (intro v2 w2 hown hgrew; obtain ⟨va2, vc2, hv2, -⟩ := OwnR.val' hown; rw [show (done ++ [(s.drop k).take n]).length = done.length + 1 by simp] at hv2; subst hv2; have HW := hid (HT.out.next HD.out HSP.out HN.out (by have := HNB.out.1; omega) (OwnF.of_ownR hown) hgrew); rw [← HM.out] at HW; clear hown hgrew))
                go_roundw
                case rel => exact ⟨m, _, rfl, HNB.out.2, HW.out⟩
                case measure => have := HM.out; have := HNB.out; simp [intOf]; omega
              · rw [decide_eq_false hsg] at hj
                have HTOK := hid (show tokLen (c :: r) = 0 by rw [tokLen_def, if_neg (by rw [HLU.out]; simp), if_neg (by rw [HDN.out]; simp), if_neg HNP.out, if_neg hsg])
                clear hsg
                have HDL := hid (show done.length < 4194304 by have := HT.out.len; have := HLN.out; have := HRL.out; omega)
                go_wp2_with (at_builtin; go_must (refine wpList_app1 rfl (.tmp 16) (.tmp 17) 45 rfl w.heap.size 9 1 16 tyStrs strR_lasts (A := fun _ => True) (.slice pa done.length pc) done rfl (OwnF.ownR strV_len HT.out.own _) [] [.string ⟨#[]⟩] (by rfl) rfl ⟨by unfold strOk; simp, rfl⟩ ⟨HDL.out, HT.out.bel.size⟩ ?_); go_must (intro v2 w2 hown hgrew; have HW := hid hown; have HGR := hid hgrew; clear hown hgrew))
                go_ret
                have h1 := HT.out.eq
                rw [HD.out, words_bad HSP.out HTOK.out] at h1
                rw [h1]
                have h2 := HT.out.len
                have h3 := HLN.out
                have h4 := HRL.out
                have ho := OwnF.of_ownR HW.out
                exact ⟨_, rfl, HGR.out.below (HT.out.bel.alloc HT.out.bel.size _) (by have := HT.out.bel.size; simp only [World.size_alloc]; omega) (fun k hk => (HT.out.own.lt k hk).1), ho.sl strV_len strV_one (by simp only [List.length_append, List.length_singleton]; omega) (fun b hb => (ho.lt b hb).1)⟩
    · have hke : k = s.length := by have := HK.out; omega
      subst hke
      have hd : decide (s.length < S.size) = false := decide_eq_false (by rw [HZ.out]; omega)
      have hd' : ¬ (s.length : Int) < (S.size : Int) := by rw [HZ.out]; omega
      go_wp2_with fail
      go_ret
      have h1 := HT.out.eq
      rw [List.drop_length, words_nil, List.append_nil] at h1
      rw [h1]
      have h2 := HT.out.len
      have h3 := HLN.out
      exact ⟨_, rfl, HT.out.bel, HT.out.own.sl strV_len strV_one (by omega) (fun b hb => (HT.out.own.lt b hb).1)⟩
end Go.Proofs.YtlpmfkpefoegeacGreatDoor
