/-
  Valid terms.
-/
import Derived.Test.YtlpmfkpefoegeacDoorQNamed
import Derived.Test.YtlpmfkpefoegeacDoorQRen
namespace Go.Proofs.YtlpmfkpefoegeacDoor
set_option linter.unusedVariables false
set_option linter.unusedSimpArgs false
open Go.RowKit
namespace Tm
inductive Good (vars : Int) : Tm → Prop where
  | var (n : Int) (h0 : 0 ≤ n) (h1 : n < vars) : Good vars (mk 0 n ByteArray.empty [])
  | atom (s : ByteArray) (h : IsName s) : Good vars (mk 1 0 s [])
  | int (n : Int) (h0 : -1099511627776 ≤ n) (h1 : n ≤ 1099511627776) : Good vars (mk 2 n ByteArray.empty [])
  | comp (s : ByteArray) (l : List Tm) (h : IsName s) (h1 : ¬ s.toList = [33]) (h2 : 1 ≤ l.length) (h3 : l.length ≤ 4) (h4 : ∀ t ∈ l, Good vars t) : Good vars (mk 3 0 s l)
end Tm
theorem toList_nil {s : ByteArray} : s.toList.isEmpty = true ↔ s = ByteArray.empty := by
  constructor
  · intro h
    refine toList_inj' ?_
    rw [List.isEmpty_iff] at h
    rw [h]; decide +kernel
  · rintro rfl; decide +kernel
theorem len0 {α : Type} {l : List α} : ((l.length : Int) == 0) = true ↔ l = [] := by
  cases l <;> simp <;> omega
namespace Tm
theorem good0 {vars n : Int} {s : ByteArray} {l : List Tm} : Good vars (mk 0 n s l) ↔ decide (0 ≤ n) = true ∧ decide (n < vars) = true ∧ s.toList.isEmpty = true ∧ ((l.length : Int) == 0) = true := by
  rw [toList_nil, len0, decide_eq_true_iff, decide_eq_true_iff]
  constructor
  · intro h; cases h with | var _ h0 h1 => exact ⟨h0, h1, rfl, rfl⟩
  · rintro ⟨h0, h1, rfl, rfl⟩; exact .var n h0 h1
theorem good1 {vars n : Int} {s : ByteArray} {l : List Tm} : Good vars (mk 1 n s l) ↔ (n == 0) = true ∧ IsName s ∧ ((l.length : Int) == 0) = true := by
  rw [len0, beq_iff_eq]
  constructor
  · intro h; cases h with | atom _ h => exact ⟨rfl, h, rfl⟩
  · rintro ⟨rfl, h, rfl⟩; exact .atom s h
theorem good2 {vars n : Int} {s : ByteArray} {l : List Tm} : Good vars (mk 2 n s l) ↔ decide (-1099511627776 ≤ n) = true ∧ decide (n ≤ 1099511627776) = true ∧ s.toList.isEmpty = true ∧ ((l.length : Int) == 0) = true := by
  rw [toList_nil, len0, decide_eq_true_iff, decide_eq_true_iff]
  constructor
  · intro h; cases h with | int _ h0 h1 => exact ⟨h0, h1, rfl, rfl⟩
  · rintro ⟨h0, h1, rfl, rfl⟩; exact .int n h0 h1
theorem good3 {vars n : Int} {s : ByteArray} {l : List Tm} : Good vars (mk 3 n s l) ↔ (n != 0) = false ∧ IsName s ∧ (s.toList == [33]) = false ∧ decide ((l.length : Int) < 1) = false ∧ decide (4 < (l.length : Int)) = false ∧ ∀ t ∈ l, Good vars t := by
  rw [bne_eq_false_iff_eq, decide_eq_false_iff_not, decide_eq_false_iff_not, beq_eq_false_iff_ne]
  constructor
  · intro h; cases h with | comp _ _ h h1 h2 h3 h4 => exact ⟨rfl, h, h1, by omega, by omega, h4⟩
  · rintro ⟨rfl, h, h1, h2, h3, h4⟩; exact .comp s l h h1 (by omega) (by omega) h4
theorem good_kind {vars : Int} {t : Tm} (h : Good vars t) : t.kind = 0 ∨ t.kind = 1 ∨ t.kind = 2 ∨ t.kind = 3 := by cases h <;> simp [kind]
end Tm
def GoodOK (t : Tm) : Prop := ∀ (vars : Int) (A : Nat → Prop) (w : World) (vs : List Value), I64 vars → Tm.rep A w t vs →
  Calls Tryd.prog 61 #[.agg vs.toArray, .int .i64 vars] w (Pure w fun v _ => ∃ r, v = .bool r ∧ (r = true ↔ t.Good vars))
set_option maxHeartbeats 4000000 in
theorem good_of (k n : Int) (s : ByteArray) (l : List Tm) (ih : ∀ t ∈ l, GoodOK t) : GoodOK (.mk k n s l) := by
  intro vars A w vs hvars hv
  rw [Tm.rep_iff] at hv
  obtain ⟨hk, hn, hs, v, rfl, hl⟩ := hv
  obtain ⟨a, cap, b, off, rfl, hlc, hcm, hlb, ha, he⟩ := hl.at
  have HE := hid he
  have HA := hid ha
  have IH := hid ih
  have HVS := hid hvars
  have HB0 := hid (show Below w.heap.size w (w.alloc (.cells #[.int .i64 k, .int .i64 n, .string s, .slice a l.length cap] 27)) from below_pure (Below.refl _ _))
  clear he ha hl ih
  by_cases k0 : k = 0
  · have k0' : (k == 0) = true := by simpa using k0
    subst k0
    clear k0'
    by_cases a0 : decide (0 ≤ n) = true
    · by_cases a1 : decide (n < vars) = true
      · by_cases a2 : s.toList.isEmpty = true
        · by_cases a3 : ((l.length : Int) == 0) = true
          · go_enter Tryd.func61, Tryd.ntmps61
            go_wp2_with fail
            go_ret
            refine ⟨_, rfl, HB0.out, true, rfl, ?_⟩
            rw [Tm.good0]
            simp [a0, a1, a2, a3]
          · have a3' : ((l.length : Int) == 0) = false := by simpa using a3
            clear a3
            go_enter Tryd.func61, Tryd.ntmps61
            go_wp2_with fail
            go_ret
            refine ⟨_, rfl, HB0.out, false, rfl, ?_⟩
            rw [Tm.good0]
            simp [a0, a1, a2, a3']
        · have a2' : s.toList.isEmpty = false := by simpa using a2
          clear a2
          go_enter Tryd.func61, Tryd.ntmps61
          go_wp2_with fail
          go_ret
          refine ⟨_, rfl, HB0.out, false, rfl, ?_⟩
          rw [Tm.good0]
          simp [a0, a1, a2']
      · have a1' : decide (n < vars) = false := by simpa using a1
        clear a1
        go_enter Tryd.func61, Tryd.ntmps61
        go_wp2_with fail
        go_ret
        refine ⟨_, rfl, HB0.out, false, rfl, ?_⟩
        rw [Tm.good0]
        simp [a0, a1']
    · have a0' : decide (0 ≤ n) = false := by simpa using a0
      clear a0
      go_enter Tryd.func61, Tryd.ntmps61
      go_wp2_with fail
      go_ret
      refine ⟨_, rfl, HB0.out, false, rfl, ?_⟩
      rw [Tm.good0]
      simp [a0']
  · have k0' : (k == 0) = false := by simpa using k0
    by_cases k1 : k = 1
    · have k1' : (k == 1) = true := by simpa using k1
      subst k1
      clear k1'
      by_cases a0 : (n == 0) = true
      · go_enter Tryd.func61, Tryd.ntmps61
        go_wp2_with fail
        refine (named_ok s _ hs).mono ?_
        rintro e w1 ⟨r, rfl, hr, rfl⟩
        have HR := hid hr
        clear hr
        cases r with
        | false =>
          go_wp2_with fail
          have hr := HR.out
          simp only [Bool.false_eq_true, false_iff] at hr
          go_ret
          refine ⟨_, rfl, HB0.out, false, rfl, ?_⟩
          rw [Tm.good1]
          simp [a0, hr]
        | true =>
          have hr := HR.out
          simp only [true_iff] at hr
          have HNM := hid hr
          clear hr HR
          by_cases a2 : ((l.length : Int) == 0) = true
          · go_wp2_with fail
            go_ret
            refine ⟨_, rfl, HB0.out, true, rfl, ?_⟩
            rw [Tm.good1]
            simp [a0, HNM.out, a2]
          · have a2' : ((l.length : Int) == 0) = false := by simpa using a2
            clear a2
            go_wp2_with fail
            go_ret
            refine ⟨_, rfl, HB0.out, false, rfl, ?_⟩
            rw [Tm.good1]
            simp [a0, HNM.out, a2']
      · have a0' : (n == 0) = false := by simpa using a0
        clear a0
        go_enter Tryd.func61, Tryd.ntmps61
        go_wp2_with fail
        go_ret
        refine ⟨_, rfl, HB0.out, false, rfl, ?_⟩
        rw [Tm.good1]
        simp [a0']
    · have k1' : (k == 1) = false := by simpa using k1
      by_cases k2 : k = 2
      · have k2' : (k == 2) = true := by simpa using k2
        subst k2
        clear k2'
        by_cases a0 : decide (-1099511627776 ≤ n) = true
        · by_cases a1 : decide (n ≤ 1099511627776) = true
          · by_cases a2 : s.toList.isEmpty = true
            · by_cases a3 : ((l.length : Int) == 0) = true
              · go_enter Tryd.func61, Tryd.ntmps61
                go_wp2_with fail
                go_ret
                refine ⟨_, rfl, HB0.out, true, rfl, ?_⟩
                rw [Tm.good2]
                simp [a0, a1, a2, a3]
              · have a3' : ((l.length : Int) == 0) = false := by simpa using a3
                clear a3
                go_enter Tryd.func61, Tryd.ntmps61
                go_wp2_with fail
                go_ret
                refine ⟨_, rfl, HB0.out, false, rfl, ?_⟩
                rw [Tm.good2]
                simp [a0, a1, a2, a3']
            · have a2' : s.toList.isEmpty = false := by simpa using a2
              clear a2
              go_enter Tryd.func61, Tryd.ntmps61
              go_wp2_with fail
              go_ret
              refine ⟨_, rfl, HB0.out, false, rfl, ?_⟩
              rw [Tm.good2]
              simp [a0, a1, a2']
          · have a1' : decide (n ≤ 1099511627776) = false := by simpa using a1
            clear a1
            go_enter Tryd.func61, Tryd.ntmps61
            go_wp2_with fail
            go_ret
            refine ⟨_, rfl, HB0.out, false, rfl, ?_⟩
            rw [Tm.good2]
            simp [a0, a1']
        · have a0' : decide (-1099511627776 ≤ n) = false := by simpa using a0
          clear a0
          go_enter Tryd.func61, Tryd.ntmps61
          go_wp2_with fail
          go_ret
          refine ⟨_, rfl, HB0.out, false, rfl, ?_⟩
          rw [Tm.good2]
          simp [a0']
      · have k2' : (k == 2) = false := by simpa using k2
        by_cases k3 : k = 3
        · have k3' : (k == 3) = true := by simpa using k3
          subst k3
          clear k3'
          by_cases a0 : (n != 0) = false
          · go_enter Tryd.func61, Tryd.ntmps61
            go_wp2_with fail
            refine (named_ok s _ hs).mono ?_
            rintro e w1 ⟨r, rfl, hr, rfl⟩
            have HR := hid hr
            clear hr
            cases r with
            | false =>
              go_wp2_with fail
              have hr := HR.out
              simp only [Bool.false_eq_true, false_iff] at hr
              go_ret
              refine ⟨_, rfl, HB0.out, false, rfl, ?_⟩
              rw [Tm.good3]
              simp [a0, hr]
            | true =>
              have hr := HR.out
              simp only [true_iff] at hr
              have HNM := hid hr
              clear hr HR
              by_cases a2 : (s.toList == [33]) = false
              · by_cases a3 : decide ((l.length : Int) < 1) = false
                · by_cases a4 : decide (4 < (l.length : Int)) = false
                  · go_wp2_with fail
                    go_loopw [99] (fun q wr => ∃ j : Nat, j ≤ l.length ∧ q = .int .i64 j ∧ Below w.heap.size w wr ∧ ∀ x (hx : x < j) (hl : j ≤ l.length), (l[x]'(by omega)).Good vars) (fun q _ => l.length - (intOf q).toNat)
                    case atStart => exact ⟨0, Nat.zero_le _, rfl, HB0.out, fun x hx => by omega⟩
                    case round =>
                      obtain ⟨j, hj, rfl, hb, hp⟩ := hrel
                      have HB := hid hb
                      have HP := hid hp
                      have hz := hb.size
                      clear hb hp
                      by_cases hlt : j < l.length
                      · obtain ⟨rfl, hAb⟩ := HA.out (by omega)
                        obtain ⟨sa, sc, c0, c1, c2, c3, hr⟩ := tm_cells HE.out hAb (Keeps.of_below HB.out) hlt
                        have HC := hid (IH.out _ (List.getElem_mem hlt) vars _ (wr.alloc _) _ HVS.out (Tm.rep_lasts.1 _ _ _ _ _ hr (Keeps.alloc _ _ (.cells (#[.int .i64 l[j].kind, .int .i64 l[j].n, .string l[j].s, .slice sa l[j].args.length sc] : Array Value) 27))))
                        clear hr
                        go_wp2_with fail
                        refine (HC.out).mono ?_
                        rintro e w1 ⟨v, rfl, hb1, r, rfl, hr⟩
                        have HR := hid hr
                        have HB1 := hid ((HB.out.alloc hz _).trans (hb1.mono (by simp; omega)))
                        clear hr hb1 HC c0 c1 c2 c3
                        cases r with
                        | false =>
                          go_wp2_with fail
                          go_ret
                          refine ⟨_, rfl, HB1.out, false, rfl, ?_⟩
                          rw [Tm.good3]
                          have hr := HR.out
                          simp only [Bool.false_eq_true, false_iff] at hr ⊢
                          exact fun ⟨_, _, _, _, _, h⟩ => hr (h _ (List.getElem_mem hlt))
                        | true =>
                          go_wp2_with fail
                          go_roundw
                          case rel =>
                            refine ⟨j + 1, by omega, by go_num, HB1.out, fun x hx _ => ?_⟩
                            by_cases hxj : x = j
                            · subst hxj; simpa using HR.out
                            · exact HP.out x (by omega) hj
                          case measure => simp [intOf]; omega
                      · have : j = l.length := by omega
                        subst this
                        go_wp2_with fail
                        go_ret
                        refine ⟨_, rfl, HB.out, true, rfl, ?_⟩
                        rw [Tm.good3]
                        simp only [true_iff]
                        refine ⟨a0, HNM.out, a2, a3, a4, fun t ht => ?_⟩
                        obtain ⟨x, hx, rfl⟩ := List.mem_iff_getElem.1 ht
                        exact HP.out x hx (Nat.le_refl _)
                  · have a4' : decide (4 < (l.length : Int)) = true := by simpa using a4
                    clear a4
                    go_wp2_with fail
                    go_ret
                    refine ⟨_, rfl, HB0.out, false, rfl, ?_⟩
                    rw [Tm.good3]
                    simp [a0, HNM.out, a2, a3, a4']
                · have a3' : decide ((l.length : Int) < 1) = true := by simpa using a3
                  clear a3
                  go_wp2_with fail
                  go_ret
                  refine ⟨_, rfl, HB0.out, false, rfl, ?_⟩
                  rw [Tm.good3]
                  simp [a0, HNM.out, a2, a3']
              · have a2' : (s.toList == [33]) = true := by simpa using a2
                clear a2
                go_wp2_with fail
                go_ret
                refine ⟨_, rfl, HB0.out, false, rfl, ?_⟩
                rw [Tm.good3]
                simp [a0, HNM.out, a2']
          · have a0' : (n != 0) = true := by simpa using a0
            clear a0
            go_enter Tryd.func61, Tryd.ntmps61
            go_wp2_with fail
            go_ret
            refine ⟨_, rfl, HB0.out, false, rfl, ?_⟩
            rw [Tm.good3]
            simp [a0']
        · have k3' : (k == 3) = false := by simpa using k3
          have K := hid (show ¬ (k = 0 ∨ k = 1 ∨ k = 2 ∨ k = 3) by simp [k0, k1, k2, k3])
          clear k0 k1 k2 k3
          go_enter Tryd.func61, Tryd.ntmps61
          go_wp2_with fail
          go_ret
          refine ⟨_, rfl, HB0.out, false, rfl, ?_⟩
          simp only [Bool.false_eq_true, false_iff]
          exact fun h => K.out (by simpa [Tm.kind] using Tm.good_kind h)
theorem goodT_ok : ∀ t, GoodOK t := by
  intro t
  induction t using Tm.induct with
  | h k n s l ih => exact good_of k n s l ih
end Go.Proofs.YtlpmfkpefoegeacDoor
