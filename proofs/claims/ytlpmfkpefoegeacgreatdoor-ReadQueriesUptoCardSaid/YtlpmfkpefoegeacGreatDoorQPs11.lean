/-
  The document's ReadQuery.
-/
import Derived.Test.YtlpmfkpefoegeacGreatDoorQPs9
import Derived.Test.YtlpmfkpefoegeacGreatDoorQIsQuery
namespace Go.Proofs.YtlpmfkpefoegeacGreatDoor
set_option linter.unusedVariables false
set_option linter.unusedSimpArgs false
open Go.RowKit
theorem queryP_long {s : Str} (h : s.length > 2000) : queryP s = ([], 0, 3) := by unfold queryP; rw [if_pos h]
theorem queryP_bad {s : Str} (h : ¬ s.length > 2000) (hb : (goalsP ⟨words s, [], false⟩).2.bad = true ∨ (goalsP ⟨words s, [], false⟩).2.l ≠ [] ∨ ¬ GoodQ (goalsP ⟨words s, [], false⟩).1 ((goalsP ⟨words s, [], false⟩).2.vars.length : Nat)) : queryP s = ([], 0, 1) := by
  unfold queryP; rw [if_neg h, if_pos hb]
theorem queryP_yes {s : Str} (h : ¬ s.length > 2000) (hb : ¬ ((goalsP ⟨words s, [], false⟩).2.bad = true ∨ (goalsP ⟨words s, [], false⟩).2.l ≠ [] ∨ ¬ GoodQ (goalsP ⟨words s, [], false⟩).1 ((goalsP ⟨words s, [], false⟩).2.vars.length : Nat))) :
    queryP s = ((goalsP ⟨words s, [], false⟩).1, (((goalsP ⟨words s, [], false⟩).2.vars.length : Nat) : Int), 0) := by
  unfold queryP; rw [if_neg h, if_neg hb]
set_option maxRecDepth 100000 in
set_option maxHeartbeats 8000000 in
theorem pquery_ok (s : Str) (hs : s.length ≤ 1048576) (w : World) : Calls Tryz.prog 15 #[.string (bs s)] w (QryPost w (queryP s)) := by
  have hz : (bs s).size ≤ 1048576 := by rw [bs_size]; exact hs
  clear hs
  by_cases hl : s.length > 2000
  · have hd : decide (2000 < (bs s).size) = true := by rw [bs_size]; simpa using hl
    have hd' : decide ((2000 : Int) < ((bs s).size : Int)) = true := by rw [bs_size]; simp; omega
    have HQ := hid (queryP_long hl)
    clear hl
    go_enter Tryz.func15, Tryz.ntmps15
    go_wp2_with fail
    go_ret3
    rw [HQ.out]
    exact ⟨_, rfl, Below.refl _ _, SlR.nil ..⟩
  · have hd : decide (2000 < (bs s).size) = false := by rw [bs_size]; simpa using hl
    have hd' : decide ((2000 : Int) < ((bs s).size : Int)) = false := by rw [bs_size]; simp; omega
    have HL := hid hl
    have HSL := hid (show s.length ≤ 2000 by omega)
    have HWD := hid (words_ok s (by omega) w)
    obtain ⟨G, hG⟩ : ∃ G, G = goalsP ⟨words s, [], false⟩ := ⟨_, rfl⟩
    have HG := hid hG
    have HND := hid (show Tm.nodesL G.1 ≤ 2001 by rw [hG]; have := goalsP_nodes ⟨words s, [], false⟩; have := words_len s; have e : (⟨words s, [], false⟩ : Ps).l.length = (words s).length := rfl; omega)
    clear hl hG
    go_enter Tryz.func15, Tryz.ntmps15
    go_wp2_with fail
    refine HWD.out.mono ?_
    rintro e w1 ⟨lv0, rfl, hb1, hl1⟩
    have HB1 := hid (hb1.alloc hb1.size (.cells #[lv0, .slice none 0 0, .bool false] 84))
    have HI := hid (ps_new HSL.out hb1.size hl1)
    have HGN := hid hb1.size
    obtain ⟨la0, lc0, lb0, lo0, rfl, -⟩ := SlR.at hl1
    have HGO := hid (pgoals_ok HI.out)
    rw [← HG.out] at HGO
    clear hb1 hl1 HWD
    go_wp2_with fail
    refine HGO.out.mono ?_
    rintro e w2 ⟨lv, l2, v2, rfl, k1, k2, k3, k4, k5⟩
    obtain ⟨la, lc, lb, lo, rfl, hl1, hl2, hl3, -⟩ := k4.at
    have HI2 := hid k1
    have HB3 := hid (HI.out.below_of HGN.out HB1.out k2)
    have HR3 := hid (show TmsR (fun b => w.heap.size ≤ b) w2 G.1 (.slice la G.1.length lc) from SlR.mono (A' := fun b => w.heap.size ≤ b) Tm.rep_lasts (by omega) k4 fun b _ hb => Nat.le_trans HB1.out.size hb.1)
    obtain ⟨b0, b1, b2, bf⟩ := k1.cells
    have hgl := k1.lt.1
    obtain ⟨va, vc, hv, hvl, hvm⟩ := k1.vars.val
    have hlen := k1.len
    obtain ⟨pa, pc, pb, po, hpv, -⟩ := SlR.at k1.wd
    subst hv hpv
    unfold maxLen at hvm
    clear k1 k2 k3 k4 k5 HGO
    have HBAD := hid (fun hb => queryP_bad (s := s) HL.out hb)
    have HOK := hid (fun hb => queryP_yes (s := s) HL.out hb)
    rw [← HG.out] at HBAD HOK
    obtain ⟨g, hg⟩ : ∃ g, g = w1.heap.size := ⟨_, rfl⟩
    rw [← hg] at b0 b1 b2 bf hgl HI2 ⊢
    clear hg
    cases hbd : G.2.bad with
    | true =>
      rw [hbd] at b2
      have HQ := hid (HBAD.out (.inl hbd))
      clear hbd
      go_wp2_with fail
      go_ret3
      rw [HQ.out]
      exact ⟨_, rfl, HB3.out, SlR.nil ..⟩
    | false =>
      have HBD := hid hbd
      rw [hbd] at b2
      clear hbd
      by_cases hpl : G.2.l = []
      · have hl0 : ¬ (0 : Int) < (G.2.l.length : Int) := by rw [hpl]; simp
        have hl0d : decide ((0 : Int) < (G.2.l.length : Int)) = false := decide_eq_false hl0
        have HS := hid hpl
        have hv64 : I64 (G.2.vars.length : Int) := by unfold I64; omega
        have HGQ := hid (isQuery_ok G.1 (G.2.vars.length : Int) (by have := HND.out; omega) hv64 _ w2 _ HR3.out)
        clear hpl hv64
        go_wp2_with fail
        refine HGQ.out.mono ?_
        rintro e w4 ⟨v, rfl, hb4, t, rfl, hgt⟩
        have HB4 := hid (HB3.out.trans (hb4.mono HB3.out.size))
        have HR4 := hid (SlR.keeps Tm.rep_lasts HR3.out (Keeps.of_below hb4))
        obtain ⟨b0, b1, b2, bf⟩ := (HI2.out.below hb4).cells
        have hgl4 := (HI2.out.below hb4).lt.1
        have HGT := hid hgt
        clear hb4 hgt
        cases t with
        | false =>
          have HQ := hid (HBAD.out (.inr (.inr (fun h => by have := HGT.out.2 h; cases this))))
          clear HBAD HOK
          go_wp2_with fail
          go_ret3
          rw [HQ.out]
          exact ⟨_, rfl, HB4.out, SlR.nil ..⟩
        | true =>
          have HQ := hid (HOK.out (by
            rintro (h | h | h)
            · rw [HBD.out] at h; cases h
            · exact h HS.out
            · exact h (HGT.out.1 rfl)))
          clear HBAD HOK
          go_wp2_with fail
          go_quiet (fail)
          have HB5 := hid (show Below w.heap.size w (w4.drewN nq) from HB4.out.trans ⟨rfl, rfl, rfl, Nat.le_refl _, fun _ _ => rfl⟩)
          have HR5 := hid (SlR.keeps (w' := w4.drewN nq) Tm.rep_lasts HR4.out ⟨Nat.le_refl _, fun _ _ _ => rfl⟩)
          generalize w4.drewN nq = W5 at *
          go_wp2_with fail
          go_ret3
          rw [HQ.out]
          exact ⟨_, rfl, HB5.out, HR5.out⟩
      · have hl0 : (0 : Int) < (G.2.l.length : Int) := by have := List.length_pos_iff.2 hpl; omega
        have hl0d : decide ((0 : Int) < (G.2.l.length : Int)) = true := decide_eq_true hl0
        have hl0n : decide (0 < G.2.l.length) = true := decide_eq_true (List.length_pos_iff.2 hpl)
        have HQ := hid (HBAD.out (.inr (.inl hpl)))
        clear hpl
        go_wp2_with fail
        go_ret3
        rw [HQ.out]
        exact ⟨_, rfl, HB3.out, SlR.nil ..⟩
end Go.Proofs.YtlpmfkpefoegeacGreatDoor
