/-
  term.Goal, Builtin, fits, goals: which terms may be goals, which everybody knows.
-/
import Derived.Test.YtlpmfkpefoegeabHBis
import Derived.Test.YtlpmfkpefoegeabQRen
import Derived.Test.YtlpmfkpefoegeabHGc
import Derived.Test.YtlpmfkpefoegeabQGood
namespace Go.Proofs.Ytlpmfkpefoegeab
set_option linter.unusedVariables false
set_option linter.unusedSimpArgs false
open Go.RowKit
def BoolP (p : Prop) (r : Value) (_ : World) : Prop := ∃ t, r = .bool t ∧ (t = true ↔ p)
def OkTo (l : List Ce) (j : Nat) : Prop := ∀ k (hk : k < l.length), k < j → (l[k]).OkAt l.length k
def OkTr (l : List Ce) (t : List Int) (j : Nat) : Prop := ∀ k (hk : k < t.length), k < j → ∃ v : Nat, t[k] = (v : Int) ∧ ∃ hv : v < l.length, (l[v]).kind = 0
theorem OkTo.next {l : List Ce} {j : Nat} (h : OkTo l j) (hj : j < l.length) (ho : (l[j]).OkAt l.length j) : OkTo l (j + 1) := fun k hk hkj => by
  by_cases e : k = j
  · subst e; exact ho
  · exact h k hk (by omega)
theorem OkTr.next {l : List Ce} {t : List Int} {j : Nat} (h : OkTr l t j) (hj : j < t.length) (ho : ∃ v : Nat, t[j] = (v : Int) ∧ ∃ hv : v < l.length, (l[v]).kind = 0) : OkTr l t (j + 1) := fun k hk hkj => by
  by_cases e : k = j
  · subst e; exact ho
  · exact h k hk (by omega)
set_option maxRecDepth 100000 in
set_option maxHeartbeats 4000000 in
theorem good_ok (h : Hp) (A : Nat → Prop) (w : World) (vs : List Value) (hh : Hp.rep A w h vs) :
    Calls Try.prog 11 #[.agg vs.toArray] w (Pure w (BoolP h.Good)) := by
  obtain ⟨a, cap, b, tap, rfl, hc1, hc2, hc3, ht1, ht2, ht3, hc, ht⟩ := Hp.rep2 hh
  obtain ⟨_, _, cb, coff, e, -, -, -, ha, he⟩ := hc.at
  simp only [Value.slice.injEq, true_and] at e
  obtain ⟨rfl, rfl⟩ := e
  obtain ⟨_, _, tb, toff, e, -, -, -, hb, hf⟩ := ht.at
  simp only [Value.slice.injEq, true_and] at e
  obtain ⟨rfl, rfl⟩ := e
  have HE := hid he
  have HA := hid ha
  have HE' := hid hf
  have HA' := hid hb
  clear hh hc ht he ha hf hb
  go_enter Try.func11, Try.ntmps11
  go_wp2_with fail
  go_loopw [10] (fun i wr => ∃ j : Nat, j ≤ h.cells.length ∧ i = .int .i64 j ∧ Below (w.heap.size + 1) (w.alloc (.cells #[.slice a h.cells.length cap, .slice b h.trail.length tap] 30)) wr ∧ OkTo h.cells j) (fun i _ => h.cells.length - (intOf i).toNat)
  case atStart => exact ⟨0, Nat.zero_le _, rfl, Below.refl _ _, fun k _ hk => by omega⟩
  case round =>
    obtain ⟨j, hj, rfl, hb, hpre⟩ := hrel
    have HB := hid hb
    have HP := hid hpre
    have hz := hb.size
    simp only [World.size_alloc] at hz
    have hz' : w.heap.size < wr.heap.size := hz
    clear hb hpre
    by_cases hlt : j < h.cells.length
    · obtain ⟨rfl, hAb⟩ := HA.out (by omega)
      have hk2 : Keeps A w wr := (Keeps.alloc _ _ _).trans (Keeps.of_below (HB.out.mono (by simp)))
      obtain ⟨c0, c1, c2, i0, i1, i2⟩ := ce_cells HE.out hAb hk2 hlt
      have f0 : wr.cell? ⟨w.heap.size, 0, none⟩ = some (.slice (some ⟨cb, coff, none⟩) h.cells.length cap) := by
        rw [HB.out.cell (by simp)]; simp
      clear hk2
      have hlb : cb < wr.heap.size := World.block_lt_of_cell? wr _ c0
      go_wp2_with fail
      all_goals first
        | (go_roundw
           case rel =>
             refine ⟨j + 1, by omega, by go_num, HB.out.alloc hz _, HP.out.next hlt ?_⟩
             clear HE HE' HA HA' HB HP
             unfold Ce.OkAt
             simp_all <;> omega
           case measure => simp [intOf]; omega)
        | (go_ret
           refine ⟨_, rfl, below_pure ((HB.out.alloc hz _).mono (by simp)), false, rfl, ?_⟩
           simp only [Bool.false_eq_true, false_iff]
           intro hg
           have := hg.1 j hlt
           clear HE HE' HA HA' HB HP
           unfold Ce.OkAt at this
           simp_all <;> omega)
        | go_ways
    · have hje : j = h.cells.length := by omega
      have HJ := hid hje
      clear hje
      have f0 : wr.cell? ⟨w.heap.size, 0, none⟩ = some (.slice a h.cells.length cap) := by
        rw [HB.out.cell (by simp)]; simp
      have f1 : wr.cell? ⟨w.heap.size, 1, none⟩ = some (.slice b h.trail.length tap) := by
        rw [HB.out.cell (by simp)]; simp
      obtain ⟨w1, rfl⟩ : ∃ x, x = wr := ⟨_, rfl⟩
      go_wp2_with fail
      go_loopw [80] (fun i ws => ∃ q : Nat, q ≤ h.trail.length ∧ i = .int .i64 q ∧ Below w1.heap.size w1 ws ∧ OkTr h.cells h.trail q) (fun i _ => h.trail.length - (intOf i).toNat)
      case atStart => exact ⟨0, Nat.zero_le _, rfl, Below.refl _ _, fun k _ hk => by omega⟩
      case round =>
        obtain ⟨q, hq, rfl, hb, hpre⟩ := hrel
        have f0' := bc hb f0
        have f1' := bc hb f1
        clear f0 f1
        have HB2 := hid hb
        have HP2 := hid hpre
        have hzz := hb.size
        clear hb hpre
        by_cases hlt2 : q < h.trail.length
        · obtain ⟨rfl, hAb2⟩ := HA'.out (by omega)
          have hk2 : Keeps A w wr := ((Keeps.alloc _ _ _).trans (Keeps.of_below (HB.out.mono (by simp)))).trans (Keeps.of_below HB2.out)
          have HK2 := hid hk2
          obtain ⟨d0, id0⟩ := num_cell HE'.out hAb2 hk2 hlt2
          have hq0 : (0 : Int) ≤ (q : Int) := Int.natCast_nonneg _
          have hq1 : (q : Int) < (h.trail.length : Int) := by omega
          clear hk2
          by_cases hin : 0 ≤ h.trail[q] ∧ h.trail[q] < h.cells.length
          · obtain ⟨v, hv⟩ := Int.eq_ofNat_of_zero_le hin.1
            have hvl : v < h.cells.length := by omega
            have HV := hid hv
            rw [hv] at d0
            clear hv hin id0
            obtain ⟨rfl, hAb⟩ := HA.out (by omega)
            obtain ⟨c0, c1, c2, i0, i1, i2⟩ := ce_cells HE.out hAb HK2.out hvl
            have hv0 : (0 : Int) ≤ (v : Int) := Int.natCast_nonneg _
            have hv1 : (v : Int) < (h.cells.length : Int) := by omega
            go_wp2_with fail
            all_goals first
              | (go_roundw
                 case rel =>
                   refine ⟨q + 1, by omega, by go_num, HB2.out, HP2.out.next hlt2 ⟨v, HV.out, hvl, ?_⟩⟩
                   clear HE HE' HA HA' HB HP HK2 HB2 HP2 HV HJ
                   simp_all <;> omega
                 case measure => simp [intOf]; omega)
              | (go_ret
                 refine ⟨_, rfl, below_pure ((HB.out.trans (HB2.out.mono hz)).mono (by simp)), false, rfl, ?_⟩
                 simp only [Bool.false_eq_true, false_iff]
                 intro hg
                 obtain ⟨v', e1, e2, e3⟩ := hg.2.1 q hlt2
                 obtain rfl : v' = v := by have := HV.out; omega
                 clear HE HE' HA HA' HB HP HK2 HB2 HP2 HV HJ
                 simp_all <;> omega)
              | go_ways
          · go_wp2_with fail
            all_goals
              go_ret
              refine ⟨_, rfl, below_pure ((HB.out.trans (HB2.out.mono hz)).mono (by simp)), false, rfl, ?_⟩
              simp only [Bool.false_eq_true, false_iff]
              intro hg
              obtain ⟨v', e1, e2, e3⟩ := hg.2.1 q hlt2
              omega
        · go_wp2_with fail
          all_goals
            go_ret
            refine ⟨_, rfl, below_pure ((HB.out.trans (HB2.out.mono hz)).mono (by simp)), _, rfl, ?_⟩
            have := HJ.out
            refine Iff.trans (b := h.cells.length ≤ 65536 ∧ h.trail.length ≤ 65536) ?_ ⟨fun h1 => ⟨fun i hi => HP.out i hi (by omega), fun i hi => HP2.out i hi (by omega), h1.1, h1.2⟩, fun hg => hg.2.2⟩
            simp <;> omega
end Go.Proofs.Ytlpmfkpefoegeab
namespace Go.Proofs.Ytlpmfkpefoegeab
set_option linter.unusedVariables false
set_option linter.unusedSimpArgs false
set_option maxRecDepth 100000
open Go.RowKit
def Tm.IsGoal (t : Tm) : Prop := t.kind = 1 ∨ t.kind = 3
def Tm.Known (t : Tm) : Prop := (t.args.length = 0 ∧ (t.s.toList = [33] ∨ t.s.toList = [116, 114, 117, 101] ∨ t.s.toList = [102, 97, 105, 108])) ∨
  (t.args.length = 2 ∧ (t.s.toList = [101, 113] ∨ t.s.toList = [108, 101, 115, 115])) ∨ (t.args.length = 3 ∧ t.s.toList = [97, 100, 100])
def Tm.Fits (v : Int) (t : Tm) : Prop := t.Good v ∧ t.nodes ≤ 24
theorem isGoal_ok (t : Tm) (A : Nat → Prop) (w : World) (vs : List Value) (hv : Tm.rep A w t vs) :
    Calls Try.prog 47 #[.agg vs.toArray] w (Pure w (BoolP t.IsGoal)) := by
  obtain ⟨k, n, s, l⟩ := t
  rw [Tm.rep_iff] at hv
  obtain ⟨hk, hn, hs, v, rfl, hl⟩ := hv
  obtain ⟨a, cap, -, -, rfl, -⟩ := hl.at
  have HB := hid (show Below w.heap.size w (w.alloc (.cells #[.int .i64 k, .int .i64 n, .string s, .slice a l.length cap] 24)) from below_pure (Below.refl _ _))
  clear hl
  by_cases e1 : k = 1
  · subst e1
    go_enter Try.func47, Try.ntmps47
    go_wp2_with fail
    go_ret
    exact ⟨_, rfl, HB.out, _, rfl, by simp [Tm.IsGoal, Tm.kind]⟩
  · have h1 : (k == 1) = false := by simpa using e1
    by_cases e3 : k = 3
    · subst e3
      go_enter Try.func47, Try.ntmps47
      go_wp2_with fail
      go_ret
      exact ⟨_, rfl, HB.out, _, rfl, by simp [Tm.IsGoal, Tm.kind]⟩
    · have h3 : (k == 3) = false := by simpa using e3
      go_enter Try.func47, Try.ntmps47
      go_wp2_with fail
      go_ret
      exact ⟨_, rfl, HB.out, _, rfl, by simp [Tm.IsGoal, Tm.kind, e1, e3]⟩
set_option maxHeartbeats 1000000 in
theorem known_ok (t : Tm) (A : Nat → Prop) (w : World) (vs : List Value) (hv : Tm.rep A w t vs) :
    Calls Try.prog 49 #[.agg vs.toArray] w (Pure w (BoolP t.Known)) := by
  obtain ⟨k, n, s, l⟩ := t
  rw [Tm.rep_iff] at hv
  obtain ⟨hk, hn, hs, v, rfl, hl⟩ := hv
  obtain ⟨a, cap, -, -, rfl, -⟩ := hl.at
  have HB := hid (show Below w.heap.size w (w.alloc (.cells #[.int .i64 k, .int .i64 n, .string s, .slice a l.length cap] 24)) from below_pure (Below.refl _ _))
  clear hl
  by_cases e0 : l.length = 0
  · rw [e0]
    by_cases s1 : s.toList = [33]
    · have q1 : (s.toList == [33]) = true := by simpa using s1
      go_enter Try.func49, Try.ntmps49
      rw [e0] at HB
      go_wp2_with fail
      go_ret
      exact ⟨_, rfl, HB.out, _, rfl, by simp [Tm.Known, Tm.args, Tm.s, e0, s1]⟩
    · have q1 : (s.toList == [33]) = false := by simpa using s1
      by_cases s2 : s.toList = [116, 114, 117, 101]
      · have q2 : (s.toList == [116, 114, 117, 101]) = true := by simpa using s2
        go_enter Try.func49, Try.ntmps49
        rw [e0] at HB
        go_wp2_with fail
        go_ret
        exact ⟨_, rfl, HB.out, _, rfl, by simp [Tm.Known, Tm.args, Tm.s, e0, s2]⟩
      · have q2 : (s.toList == [116, 114, 117, 101]) = false := by simpa using s2
        go_enter Try.func49, Try.ntmps49
        rw [e0] at HB
        go_wp2_with fail
        go_ret
        exact ⟨_, rfl, HB.out, _, rfl, by simp [Tm.Known, Tm.args, Tm.s, e0, s1, s2]⟩
  · by_cases e2 : l.length = 2
    · rw [e2]
      by_cases s1 : s.toList = [101, 113]
      · have q1 : (s.toList == [101, 113]) = true := by simpa using s1
        go_enter Try.func49, Try.ntmps49
        rw [e2] at HB
        go_wp2_with fail
        go_ret
        exact ⟨_, rfl, HB.out, _, rfl, by simp [Tm.Known, Tm.args, Tm.s, e2, s1]⟩
      · have q1 : (s.toList == [101, 113]) = false := by simpa using s1
        go_enter Try.func49, Try.ntmps49
        rw [e2] at HB
        go_wp2_with fail
        go_ret
        exact ⟨_, rfl, HB.out, _, rfl, by simp [Tm.Known, Tm.args, Tm.s, e2, s1]⟩
    · by_cases e3 : l.length = 3
      · rw [e3]
        go_enter Try.func49, Try.ntmps49
        rw [e3] at HB
        go_wp2_with fail
        go_ret
        exact ⟨_, rfl, HB.out, _, rfl, by simp [Tm.Known, Tm.args, Tm.s, e3]⟩
      · have l0 : ((l.length : Int) == 0) = false := by simpa using (show ¬ (l.length : Int) = 0 by omega)
        have l2 : ((l.length : Int) == 2) = false := by simpa using (show ¬ (l.length : Int) = 2 by omega)
        have l3 : ((l.length : Int) == 3) = false := by simpa using (show ¬ (l.length : Int) = 3 by omega)
        go_enter Try.func49, Try.ntmps49
        go_wp2_with fail
        go_ret
        refine ⟨_, rfl, HB.out, _, rfl, ?_⟩
        simp only [Tm.Known, Tm.args, Tm.s]
        exact ⟨(fun h => by cases h), fun h => by rcases h with ⟨h, -⟩ | ⟨h, -⟩ | ⟨h, -⟩ <;> omega⟩
theorem fits_ok (t : Tm) (v : Int) (hnd : t.nodes ≤ 1099511627776) (hi : I64 v) (A : Nat → Prop) (w : World) (vs : List Value) (hv : Tm.rep A w t vs) :
    Calls Try.prog 48 #[.agg vs.toArray, .int .i64 v] w (Pure w (BoolP (t.Fits v))) := by
  have HG := hid (fun w' (hk : Keeps A w w') => goodT_ok t v A w' vs hi (Tm.rep_lasts.1 _ _ _ _ _ hv hk))
  have HN := hid (fun w' (hk : Keeps A w w') => nodes_ok t A w' vs hnd (Tm.rep_lasts.1 _ _ _ _ _ hv hk))
  obtain ⟨sa, sc, rfl, -⟩ := Tm.rep4 hv
  clear hv
  go_enter Try.func48, Try.ntmps48
  go_wp2_with fail
  refine (HG.out _ (Keeps.alloc _ _ _)).mono ?_
  rintro e w1 ⟨r, rfl, hb, b, rfl, hr⟩
  have HB := hid (show Below w.heap.size w w1 from below_pure (hb.mono (by simp)))
  have HX := hid (blk_below (blk_new w (.cells #[.int .i64 t.kind, .int .i64 t.n, .string t.s, .slice sa t.args.length sc] 24)) hb)
  clear hb
  obtain ⟨x0, x1, x2, x3, xf⟩ := blk4 HX.out
  have hzz := HB.out.size
  cases b with
  | false =>
    have HNG := hid (show ¬ t.Good v from fun h => by have := hr.2 h; cases this)
    clear hr
    go_wp2_with fail
    go_ret
    exact ⟨_, rfl, HB.out, _, rfl, ⟨(fun h => by cases h), fun h => absurd h.1 HNG.out⟩⟩
  | true =>
    have HGD := hid (hr.1 rfl)
    clear hr
    go_wp2_with fail
    refine (HN.out _ (Keeps.of_below HB.out)).mono ?_
    rintro e w2 ⟨r, rfl, hb, rfl⟩
    have HB2 := hid (HB.out.trans (hb.mono HB.out.size))
    clear hb
    by_cases hn : t.nodes ≤ 24
    · have HNN := hid hn
      have hn' : (t.nodes : Int) ≤ 24 := by omega
      clear hn
      go_wp2_with fail
      go_ret
      exact ⟨_, rfl, HB2.out, _, rfl, ⟨fun _ => ⟨HGD.out, HNN.out⟩, fun _ => (by first | rfl | simp [hn'])⟩⟩
    · have HNN := hid hn
      have hn' : ¬ (t.nodes : Int) ≤ 24 := by omega
      clear hn
      go_wp2_with fail
      go_ret
      exact ⟨_, rfl, HB2.out, _, rfl, ⟨(fun h => by first | (cases h; done) | (simp at h; omega)), fun h => absurd h.2 HNN.out⟩⟩
end Go.Proofs.Ytlpmfkpefoegeab
