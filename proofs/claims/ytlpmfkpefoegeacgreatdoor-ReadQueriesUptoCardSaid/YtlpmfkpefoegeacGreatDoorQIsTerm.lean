/-
  Terms, as the document's own answer has them.
-/
import Derived.Test.YtlpmfkpefoegeacGreatDoorQNodes
import Derived.Test.YtlpmfkpefoegeacGreatDoorQIsName
namespace Go.Proofs.YtlpmfkpefoegeacGreatDoor
set_option linter.unusedVariables false
set_option linter.unusedSimpArgs false
open Go.RowKit
theorem good_args {v : Int} {t : Tm} (h : t.Good v) : ∀ x ∈ t.args, x.Good v := by
  cases h with
  | comp s l h h1 h2 h3 h4 => exact h4
  | _ => intro x hx; simp [Tm.args] at hx
theorem isT0 {vars n : Int} {s : ByteArray} {l : List Tm} : Tm.Good vars (.mk 0 n s l) ↔ ((l.length : Int) == 0) = true ∧ s.toList.isEmpty = true ∧ decide (0 ≤ n) = true ∧ decide (n < vars) = true := by
  rw [Tm.good0]
  constructor
  · rintro ⟨h1, h2, h3, h4⟩; exact ⟨h4, h3, h1, h2⟩
  · rintro ⟨h1, h2, h3, h4⟩; exact ⟨h3, h4, h2, h1⟩
theorem isT1 {vars n : Int} {s : ByteArray} {l : List Tm} : Tm.Good vars (.mk 1 n s l) ↔ ((l.length : Int) == 0) = true ∧ (n == 0) = true ∧ IsName s := by
  rw [Tm.good1]
  constructor
  · rintro ⟨h1, h2, h3⟩; exact ⟨h3, h1, h2⟩
  · rintro ⟨h1, h2, h3⟩; exact ⟨h2, h3, h1⟩
theorem isT2 {vars n : Int} {s : ByteArray} {l : List Tm} : Tm.Good vars (.mk 2 n s l) ↔ ((l.length : Int) == 0) = true ∧ s.toList.isEmpty = true ∧ decide (n ≤ 1099511627776) = true ∧ decide (-1099511627776 ≤ n) = true := by
  rw [Tm.good2]
  constructor
  · rintro ⟨h1, h2, h3, h4⟩; exact ⟨h4, h3, h2, h1⟩
  · rintro ⟨h1, h2, h3, h4⟩; exact ⟨h4, h3, h2, h1⟩
theorem isT3 {vars n : Int} {s : ByteArray} {l : List Tm} (hl : ∀ t ∈ l, t.Good vars) : Tm.Good vars (.mk 3 n s l) ↔ decide (0 < l.length) = true ∧ decide ((l.length : Int) < 5) = true ∧ (n == 0) = true ∧ (s.toList == [33]) = false ∧ IsName s := by
  rw [Tm.good3]
  have e : ((n != 0) = false) ↔ ((n == 0) = true) := by simp
  rw [e]
  simp only [decide_eq_true_eq, decide_eq_false_iff_not]
  constructor
  · rintro ⟨h1, h2, h3, h4, h5, h6⟩; exact ⟨by omega, by omega, h1, h3, h2⟩
  · rintro ⟨h1, h2, h3, h4, h5⟩; exact ⟨h3, h5, h4, by omega, by omega, hl⟩
def IsTermOK (t : Tm) : Prop := ∀ (vars : Int) (A : Nat → Prop) (w : World) (vs : List Value), I64 vars → Tm.rep A w t vs →
  Calls Tryz.prog 120 #[.agg vs.toArray, .int .i64 vars] w (Pure w fun v _ => ∃ r, v = .bool r ∧ (r = true ↔ t.Good vars))
set_option maxHeartbeats 8000000 in
theorem isTerm_of (k n : Int) (s : ByteArray) (l : List Tm) (ih : ∀ t ∈ l, IsTermOK t) : IsTermOK (.mk k n s l) := by
  intro vars A w vs hvars hv
  rw [Tm.rep_iff] at hv
  obtain ⟨hk, hn, hs, v, rfl, hl⟩ := hv
  obtain ⟨a, cap, b, off, rfl, hlc, hcm, hlb, ha, he⟩ := hl.at
  have HE := hid he
  have HA := hid ha
  have IH := hid ih
  have HVS := hid hvars
  clear he ha hl ih
  go_enter Tryz.func120, Tryz.ntmps120
  go_wp2_with fail
  have HX0 := hid (blk_new w (.cells #[.int .i64 k, .int .i64 n, .string s, .slice a l.length cap] 34))
  have HB0 := hid (below_pure (Below.refl _ (w.alloc (.cells #[.int .i64 k, .int .i64 n, .string s, .slice a l.length cap] 34))))
  have hz0 : w.heap.size < (w.alloc (.cells #[.int .i64 k, .int .i64 n, .string s, .slice a l.length cap] 34)).heap.size := by simp
  generalize w.alloc (.cells #[.int .i64 k, .int .i64 n, .string s, .slice a l.length cap] 34) = wa at HX0 HB0 hz0 ⊢
  go_loopw [11] (fun q wr => ∃ j : Nat, j ≤ l.length ∧ q = .int .i64 j ∧ (∀ i (hi : i < l.length), i < j → l[i].Good vars) ∧ Below wa.heap.size wa wr) (fun q _ => l.length - (intOf q).toNat)
  case atStart => exact ⟨0, Nat.zero_le _, rfl, fun i _ hi => by omega, Below.refl _ _⟩
  case round =>
    obtain ⟨j, hj, rfl, hg, hb⟩ := hrel
    have HB := hid hb
    have HG := hid hg
    have hz := hb.size
    clear hb hg
    by_cases hlt : j < l.length
    · obtain ⟨rfl, hAb⟩ := HA.out (by omega)
      obtain ⟨sa, sc, c0, c1, c2, c3, hr⟩ := tm_cells HE.out hAb ((Keeps.of_below HB0.out).trans (Keeps.of_below HB.out)) hlt
      have HC := hid (IH.out _ (List.getElem_mem hlt) vars _ (wr.alloc _) _ HVS.out (Tm.rep_lasts.1 _ _ _ _ _ hr (Keeps.alloc _ _ (.cells (#[.int .i64 l[j].kind, .int .i64 l[j].n, .string l[j].s, .slice sa l[j].args.length sc] : Array Value) 34))))
      clear hr
      go_wp2_with fail
      refine (HC.out).mono ?_
      rintro e w1 ⟨v, rfl, hb1, r, rfl, hgr⟩
      have HB1 := hid ((HB.out.alloc hz _).trans (hb1.mono (by simp; omega)))
      have HR := hid hgr
      clear hb1 HC c0 c1 c2 c3 hgr
      cases r with
      | false =>
        go_wp2_with fail
        go_ret
        refine ⟨_, rfl, HB0.out.trans (HB1.out.mono HB0.out.size), false, rfl, ?_⟩
        simp only [Bool.false_eq_true, false_iff]
        exact fun h => by
          have h1 := HR.out.2 (good_args h _ (List.getElem_mem hlt))
          cases h1
      | true =>
        have HGj := hid (HR.out.1 rfl)
        clear HR
        go_wp2_with fail
        go_roundw
        case rel =>
          refine ⟨j + 1, by omega, by go_num, fun i hi hij => ?_, HB1.out⟩
          by_cases e : i = j
          · subst e; exact HGj.out
          · exact HG.out i hi (by omega)
        case measure => simp [intOf]; omega
    · have : j = l.length := by omega
      subst this
      have HL := hid (show ∀ t ∈ l, t.Good vars from fun t ht => by
        obtain ⟨i, hi, rfl⟩ := List.mem_iff_getElem.1 ht
        exact HG.out i hi hi)
      have HX := hid (blk_below HX0.out HB.out)
      have HBf := hid (HB0.out.trans (HB.out.mono HB0.out.size))
      obtain ⟨x0, x1, x2, x3, xz⟩ := blk4 HX.out
      have hxz := blk_lt HX.out
      clear hlt HG HE HA IH hj hz hz0
      by_cases k0 : (k == 0) = true
      · have KD := hid (show k = 0 by simpa using k0)
        by_cases a0 : ((l.length : Int) == 0) = true
        · by_cases a1 : s.toList.isEmpty = true
          · by_cases a2 : decide (0 ≤ n) = true
            · by_cases a3 : decide (n < vars) = true
              · go_wp2_with fail
                go_ret
                refine ⟨_, rfl, HBf.out, true, rfl, ?_⟩
                obtain rfl := KD.out
                rw [isT0]
                simp [a0, a1, a2, a3]
              · have a3' : decide (n < vars) = false := by simpa using a3
                clear a3
                go_wp2_with fail
                go_ret
                refine ⟨_, rfl, HBf.out, false, rfl, ?_⟩
                obtain rfl := KD.out
                rw [isT0]
                simp [a0, a1, a2, a3']
            · have a2' : decide (0 ≤ n) = false := by simpa using a2
              clear a2
              go_wp2_with fail
              go_ret
              refine ⟨_, rfl, HBf.out, false, rfl, ?_⟩
              obtain rfl := KD.out
              rw [isT0]
              simp [a0, a1, a2']
          · have a1' : s.toList.isEmpty = false := by simpa using a1
            clear a1
            go_wp2_with fail
            go_ret
            refine ⟨_, rfl, HBf.out, false, rfl, ?_⟩
            obtain rfl := KD.out
            rw [isT0]
            simp [a0, a1']
        · have a0' : ((l.length : Int) == 0) = false := by simpa using a0
          clear a0
          go_wp2_with fail
          go_ret
          refine ⟨_, rfl, HBf.out, false, rfl, ?_⟩
          obtain rfl := KD.out
          rw [isT0]
          simp [a0']
      · replace k0 : (k == 0) = false := by simpa using k0
        by_cases k1 : (k == 1) = true
        · have KD := hid (show k = 1 by simpa using k1)
          by_cases a0 : ((l.length : Int) == 0) = true
          · by_cases a1 : (n == 0) = true
            · have HN := hid (isName_ok s)
              go_wp2_with fail
              refine (HN.out _ hs).mono ?_
              rintro e w2 ⟨v2, rfl, hb2, r, rfl, hr⟩
              have HBn := hid (HBf.out.trans (hb2.mono HBf.out.size))
              have HR := hid hr
              clear hb2 hr HN x0 x1 x2 x3 xz
              cases r with
              | false =>
                have HF := hid (show ¬ IsName s from fun h => by have := HR.out.2 h; cases this)
                go_wp2_with fail
                go_ret
                refine ⟨_, rfl, HBn.out, false, rfl, ?_⟩
                obtain rfl := KD.out
                rw [isT1]
                simp [a0, a1, HF.out]
              | true =>
                have HF := hid (show IsName s from HR.out.1 rfl)
                go_wp2_with fail
                go_ret
                refine ⟨_, rfl, HBn.out, true, rfl, ?_⟩
                obtain rfl := KD.out
                rw [isT1]
                simp [a0, a1, HF.out]
            · have a1' : (n == 0) = false := by simpa using a1
              clear a1
              go_wp2_with fail
              go_ret
              refine ⟨_, rfl, HBf.out, false, rfl, ?_⟩
              obtain rfl := KD.out
              rw [isT1]
              simp [a0, a1']
          · have a0' : ((l.length : Int) == 0) = false := by simpa using a0
            clear a0
            go_wp2_with fail
            go_ret
            refine ⟨_, rfl, HBf.out, false, rfl, ?_⟩
            obtain rfl := KD.out
            rw [isT1]
            simp [a0']
        · replace k1 : (k == 1) = false := by simpa using k1
          by_cases k2 : (k == 2) = true
          · have KD := hid (show k = 2 by simpa using k2)
            by_cases a0 : ((l.length : Int) == 0) = true
            · by_cases a1 : s.toList.isEmpty = true
              · by_cases a2 : decide (n ≤ 1099511627776) = true
                · by_cases a3 : decide (-1099511627776 ≤ n) = true
                  · go_wp2_with fail
                    go_ret
                    refine ⟨_, rfl, HBf.out, true, rfl, ?_⟩
                    obtain rfl := KD.out
                    rw [isT2]
                    simp [a0, a1, a2, a3]
                  · have a3' : decide (-1099511627776 ≤ n) = false := by simpa using a3
                    clear a3
                    go_wp2_with fail
                    go_ret
                    refine ⟨_, rfl, HBf.out, false, rfl, ?_⟩
                    obtain rfl := KD.out
                    rw [isT2]
                    simp [a0, a1, a2, a3']
                · have a2' : decide (n ≤ 1099511627776) = false := by simpa using a2
                  clear a2
                  go_wp2_with fail
                  go_ret
                  refine ⟨_, rfl, HBf.out, false, rfl, ?_⟩
                  obtain rfl := KD.out
                  rw [isT2]
                  simp [a0, a1, a2']
              · have a1' : s.toList.isEmpty = false := by simpa using a1
                clear a1
                go_wp2_with fail
                go_ret
                refine ⟨_, rfl, HBf.out, false, rfl, ?_⟩
                obtain rfl := KD.out
                rw [isT2]
                simp [a0, a1']
            · have a0' : ((l.length : Int) == 0) = false := by simpa using a0
              clear a0
              go_wp2_with fail
              go_ret
              refine ⟨_, rfl, HBf.out, false, rfl, ?_⟩
              obtain rfl := KD.out
              rw [isT2]
              simp [a0']
          · replace k2 : (k == 2) = false := by simpa using k2
            by_cases k3 : (k == 3) = true
            · have KD := hid (show k = 3 by simpa using k3)
              by_cases a0 : decide (0 < l.length) = true
              · by_cases a1 : decide ((l.length : Int) < 5) = true
                · by_cases a2 : (n == 0) = true
                  · by_cases a3 : (s.toList == [33]) = false
                    · have HN := hid (isName_ok s)
                      go_wp2_with fail
                      refine (HN.out _ hs).mono ?_
                      rintro e w2 ⟨v2, rfl, hb2, r, rfl, hr⟩
                      have HBn := hid (HBf.out.trans (hb2.mono HBf.out.size))
                      have HR := hid hr
                      clear hb2 hr HN x0 x1 x2 x3 xz
                      cases r with
                      | false =>
                        have HF := hid (show ¬ IsName s from fun h => by have := HR.out.2 h; cases this)
                        go_wp2_with fail
                        go_ret
                        refine ⟨_, rfl, HBn.out, false, rfl, ?_⟩
                        obtain rfl := KD.out
                        rw [isT3 HL.out]
                        simp [a0, a1, a2, a3, HF.out]
                      | true =>
                        have HF := hid (show IsName s from HR.out.1 rfl)
                        go_wp2_with fail
                        go_ret
                        refine ⟨_, rfl, HBn.out, true, rfl, ?_⟩
                        obtain rfl := KD.out
                        rw [isT3 HL.out]
                        simp [a0, a1, a2, a3, HF.out]
                    · have a3' : (s.toList == [33]) = true := by simpa using a3
                      clear a3
                      go_wp2_with fail
                      go_ret
                      refine ⟨_, rfl, HBf.out, false, rfl, ?_⟩
                      obtain rfl := KD.out
                      rw [isT3 HL.out]
                      simp [a0, a1, a2, a3']
                  · have a2' : (n == 0) = false := by simpa using a2
                    clear a2
                    go_wp2_with fail
                    go_ret
                    refine ⟨_, rfl, HBf.out, false, rfl, ?_⟩
                    obtain rfl := KD.out
                    rw [isT3 HL.out]
                    simp [a0, a1, a2']
                · have a1' : decide ((l.length : Int) < 5) = false := by simpa using a1
                  clear a1
                  go_wp2_with fail
                  go_ret
                  refine ⟨_, rfl, HBf.out, false, rfl, ?_⟩
                  obtain rfl := KD.out
                  rw [isT3 HL.out]
                  simp [a0, a1']
              · have a0' : decide (0 < l.length) = false := by simpa using a0
                clear a0
                go_wp2_with fail
                go_ret
                refine ⟨_, rfl, HBf.out, false, rfl, ?_⟩
                obtain rfl := KD.out
                rw [isT3 HL.out]
                simp [a0']
            · replace k3 : (k == 3) = false := by simpa using k3
              have KN := hid (show ¬ (k = 0 ∨ k = 1 ∨ k = 2 ∨ k = 3) by simp at k0 k1 k2 k3; omega)
              go_wp2_with fail
              go_ret
              refine ⟨_, rfl, HBf.out, false, rfl, ?_⟩
              simp only [Bool.false_eq_true, false_iff]
              exact fun h => KN.out (Tm.good_kind h)
theorem isTerm_ok : ∀ t, IsTermOK t := by
  intro t
  induction t using Tm.induct with
  | h k n s l ih => exact isTerm_of k n s l ih
end Go.Proofs.YtlpmfkpefoegeacGreatDoor
