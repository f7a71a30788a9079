/-
  The machine: step.
-/
import Derived.Test.YtlpmfkpefoegeabQMach9
namespace Go.Proofs.Ytlpmfkpefoegeab
set_option linter.unusedVariables false
set_option linter.unusedSimpArgs false
open Go.RowKit
structure StPre (P : List Cl) (m : Mv) : Prop where
  now0 : 0 ≤ m.now
  nowl : m.now.toNat < m.goals.length
  good : m.h.Good
  inb : Inb m.h.cells (goalM m m.now.toNat).at_
  n0 : 0 ≤ (cellAt m.h.cells (goalM m m.now.toNat).at_).n
  n4 : (cellAt m.h.cells (goalM m m.now.toNat).at_).n ≤ 4
  lk : KnownC (cellAt m.h.cells (goalM m m.now.toNat).at_) → ¬ (cellAt m.h.cells (goalM m m.now.toNat).at_).s.toList = [33] → ¬ (cellAt m.h.cells (goalM m m.now.toNat).at_).s.toList = [116, 114, 117, 101] → ¬ (cellAt m.h.cells (goalM m m.now.toNat).at_).s.toList = [102, 97, 105, 108] → ¬ (cellAt m.h.cells (goalM m m.now.toNat).at_).s.toList = [101, 113] → 0 ≤ look m.h.cells ((goalM m m.now.toNat).at_ + 1) ∧ 0 ≤ look m.h.cells ((goalM m m.now.toNat).at_ + 2) ∧
      ((cellAt m.h.cells (look m.h.cells ((goalM m m.now.toNat).at_ + 1))).kind = 2 → (cellAt m.h.cells (look m.h.cells ((goalM m m.now.toNat).at_ + 2))).kind = 2 → I64 ((cellAt m.h.cells (look m.h.cells ((goalM m m.now.toNat).at_ + 1))).n + (cellAt m.h.cells (look m.h.cells ((goalM m m.now.toNat).at_ + 2))).n))
  bk1 : ∀ m', KnownC (cellAt m.h.cells (goalM m m.now.toNat).at_) → knownM (goalM m m.now.toNat) { m with fuel := m.fuel - 1 } = (some false, m') → BkPre P m'.choices m' ∧ m'.choices.length < 900 ∧ m'.goals.length ≤ 5900 ∧ m'.out.length + 1 ≤ 20
  bk2 : ∀ m', ¬ KnownC (cellAt m.h.cells (goalM m m.now.toNat).at_) → callM P m.now.toNat (goalM m m.now.toNat) P.length 0 { m with fuel := m.fuel - 1 } = (.no, m') → BkPre P m'.choices m'
section
variable {base : Nat} {P : List Cl} {q g : Nat} {pv hc ht : Value} {o : Mo} {m : Mv} {w : World}
theorem MvI.size_s (h : MvI base P q g pv hc ht o m w) {a : Int} (ha : Inb m.h.cells a) : (cellAt m.h.cells a).s.size ≤ 1048576 := by
  obtain ⟨k, hka, hkl, hce⟩ := cellAt_eq ha
  rw [hce]
  obtain ⟨c, t, e0, hcs0, -⟩ := h.heap
  obtain ⟨_, _, hb0, hoff, e9, hh1, hh2, hh3, hha, hhe⟩ := SlR.at hcs0
  exact (ce_cells hhe (hha (by omega)).2 (Keeps.refl _ _) hkl).2.2.2.2.2
set_option maxRecDepth 100000 in
set_option maxHeartbeats 8000000 in
theorem mstep_ok (h : MvI base P q g pv hc ht o m w) (hP : GoodP P) (hpre : m.fuel ≠ 0 → StPre P m) (hfew : m.choices.length < 900) (hfit : m.goals.length ≤ 5900) (hout : m.out.length + 1 ≤ 20) :
    Calls Try.prog 54 #[.pointer (some ⟨g, 0, none⟩)] w (MBackPost base P q g pv o (stepM P m) w) := by
  have HU := hid h
  have HP := hid hP
  have HFEW := hid hfew
  have HFIT := hid hfit
  have HOUT := hid hout
  obtain ⟨hl1, hl2⟩ := h.lt
  obtain ⟨gv, cv, ov⟩ := o
  obtain ⟨pa, pc, ga, gc, ca, cc, oa, oc, ha, hac, hb, hbc, rfl, rfl, rfl, rfl, rfl, rfl, -, -, g1, g2, -⟩ := h.vals
  obtain ⟨b0, b1, b2, b3, b4, b5, b6, b7, b8, b9, bf⟩ := box10 h.box
  simp only at b3 b4 b9
  have hfu := h.fu
  by_cases hf0 : m.fuel = 0
  · have hres := hid (show stepM P m = (.off, m.put 3) by unfold stepM; rw [if_pos hf0])
    rw [hf0] at b8
    have HEN := hid (mend_ok 3 (by unfold I64; omega) h hout)
    clear h hP hpre hfew hfit hout hf0
    go_enter Try.func54, Try.ntmps54
    go_wp2_with fail
    refine HEN.out.mono ?_
    rintro e w1 ⟨rfl, hst⟩
    have HST := hid hst
    clear hst
    go_wp2_with fail
    go_ret
    rw [hres.out]
    exact ⟨rfl, HST.out⟩
  have HPRE := hid (hpre hf0)
  have HF0 := hid hf0
  obtain ⟨f, hf⟩ : ∃ f, m.fuel = f + 1 := ⟨m.fuel - 1, by omega⟩
  obtain ⟨n, hn⟩ : ∃ n, n = m.now.toNat := ⟨_, rfl⟩
  have hnow : m.now = (n : Int) := by have := (hpre hf0).now0; omega
  have hnl : n < m.goals.length := by rw [hn]; exact (hpre hf0).nowl
  have hnlz : (n : Int) < (m.goals.length : Int) := by omega
  have hnlz0 : (0 : Int) ≤ (n : Int) := Int.natCast_nonneg _
  obtain ⟨gm, hgm⟩ : ∃ gm, gm = goalM m n := ⟨_, rfl⟩
  obtain ⟨m1, hm1⟩ : ∃ m1 : Mv, m1 = { m with fuel := m.fuel - 1 } := ⟨_, rfl⟩
  have HM1 := hid hm1
  have HN := hid hn
  have HGM := hid hgm
  have hf' : m1.fuel = f := by rw [hm1]; simp only; omega
  have HST1 := hid (show MaStep base P q g (.slice pa P.length pc) ⟨.slice ga m.goals.length gc, .slice ca m.choices.length cc, .slice oa m.out.length oc⟩ m1 w (w.setCell ⟨g, 8, none⟩ (.int .i64 (f : Int))) from
    h.setI (m' := m1) 8 _ (by rw [hm1]; exact ⟨rfl, rfl, rfl, rfl⟩) (by rw [hf']; rw [hm1]; exact (blk_set h.box 8 _).trans rfl) (by rw [hm1]; exact h.nowb) (by rw [hm1]; exact h.qb) (by omega))
  rw [hf] at b8
  have hf9 : (f : Int) ≤ 150 := by omega
  have hf90 : (0 : Int) ≤ (f : Int) := Int.natCast_nonneg _
  have hf91 : ((f : Int) + 1 == 0) = false := by simpa using (show ¬ (f : Int) + 1 = 0 by omega)
  unfold maxLen at g2
  rw [hnow] at b5
  clear h hP hpre hfew hfit hout hf0 hf hn hgm hm1 hfu
  go_enter Try.func54, Try.ntmps54
  go_wp2_with fail
  obtain ⟨W1, hW1⟩ : ∃ W1, W1 = w.setCell ⟨g, 8, none⟩ (.int .i64 (f : Int)) := ⟨_, rfl⟩
  rw [← hW1]
  rw [← hW1] at HST1
  clear hW1 b0 b1 b2 b3 b4 b5 b6 b7 b8 b9 bf g1 g2
  obtain ⟨hc1, ht1, o1, hmv1, hch1, hgr1⟩ := HST1.out
  have HV1 := hid hmv1
  have HCH1 := hid hch1
  have HGR1 := hid hgr1
  obtain ⟨gv1, cv1, ov1⟩ := o1
  obtain ⟨-, -, ga1, gc1, ca1, cc1, oa1, oc1, ha1, hac1, hb1, hbc1, -, rfl, rfl, rfl, rfl, rfl, -, -, g1, g2, -⟩ := hmv1.vals
  obtain ⟨b0, b1, b2, b3, b4, b5, b6, b7, b8, b9, bf⟩ := box10 hmv1.box
  simp only at b3 b4 b9
  have hm1g : m1.goals = m.goals := by rw [HM1.out]
  have hnl1 : n < m1.goals.length := by rw [hm1g]; exact hnl
  have hnlz1 : (n : Int) < (m1.goals.length : Int) := by omega
  obtain ⟨gb, rfl, -, hgbl, -, -, d0, d1, d2, gok⟩ := OwnG.cells hmv1.goals hnl1
  have hge : m1.goals[n] = gm := by rw [HGM.out]; unfold goalM; rw [← hm1g, List.getElem?_eq_getElem hnl1]; rfl
  replace d0 : W1.cell? ⟨gb, n * 3, none⟩ = some (.int .i64 gm.at_) := by rw [← hge]; exact d0
  replace d1 : W1.cell? ⟨gb, n * 3 + 1, none⟩ = some (.int .i64 (gm.bar : Int)) := by rw [← hge]; exact d1
  replace d2 : W1.cell? ⟨gb, n * 3 + 2, none⟩ = some (.int .i64 gm.next) := by rw [← hge]; exact d2
  replace gok : gmOk gm := by rw [← hge]; exact gok
  have HGK := hid gok
  have hb5' : W1.cell? ⟨g, 5, none⟩ = some (.int .i64 (n : Int)) := by rw [b5, HM1.out]; simp only; rw [hnow]
  have hgl1 : g < W1.heap.size := hmv1.lt.1
  have hz1 : w.heap.size ≤ W1.heap.size := hch1.size
  have HA0 := hid (fun (W : World) (hbw : Below W1.heap.size W1 W) => (show W.cell? ⟨g, 3, none⟩ = some (.slice (some ⟨gb, 0, none⟩) m1.goals.length gc1) ∧ W.cell? ⟨g, 5, none⟩ = some (.int .i64 (n : Int)) ∧ W.cell? ⟨gb, n * 3, none⟩ = some (.int .i64 gm.at_) ∧ W.cell? ⟨gb, n * 3 + 1, none⟩ = some (.int .i64 (gm.bar : Int)) ∧ W.cell? ⟨gb, n * 3 + 2, none⟩ = some (.int .i64 gm.next) ∧ gb < W.heap.size from
    ⟨bc hbw b3, bc hbw hb5', bc hbw d0, bc hbw d1, bc hbw d2, by have := hbw.size; omega⟩))
  clear hmv1 hch1 hgr1 b0 b1 b2 b3 b4 b5 b6 b7 b8 b9 bf hb5' d0 d1 d2 gok hge hm1g HST1
  refine wp_region_front 11 (Inv := fun w' => Below W1.heap.size W1 w') (Po := posts [IsV (.pointer (some ⟨g, 0, none⟩)), IsV (.pointer (some ⟨g, 0, none⟩)), IsV (.pointer (some ⟨g, 3, none⟩)), IsV (.slice (some ⟨gb, 0, none⟩) m1.goals.length gc1), IsV (.pointer (some ⟨g, 0, none⟩)), IsV (.pointer (some ⟨g, 0, none⟩)), IsV (.pointer (some ⟨g, 5, none⟩)), IsV (.int .i64 (n : Int)), IsV (.pointer (some ⟨gb, n * 3, none⟩)), IsV (.agg #[.int .i64 gm.at_, .int .i64 (gm.bar : Int), .int .i64 gm.next]), IsBox W1.heap.size 130 #[.int .i64 0, .int .i64 0, .int .i64 0]]) (Rl := fun w w' => Below w.heap.size w w') (by kernel_rfl) (by kernel_rfl) (by kernel_rfl) (by kernel_rfl) ((Below.refl _ _).drew) ?_ ?_ ?_ ?_
  · refine posts_stay fun R hR => ?_
    simp only [List.mem_cons, List.not_mem_nil, or_false] at hR
    rcases hR with rfl | rfl | rfl | rfl | rfl | rfl | rfl | rfl | rfl | rfl | rfl <;> first | exact stays_V _ | exact stays_any | exact stays_B _ | exact stays_Tm _ | exact stays_Tms _ | exact stays_Cs _ | exact stays_Ns _ | exact stays_Bs _ | exact stays_Hp _ | exact stays_OC _ _ | exact stays_ON _ _ | exact stays_Box _ _ _
  · exact fun w1 w2 h h' => h.trans (h'.mono h.size)
  · intro i o ho f ac ww hinv hpo hdst hold
    match i, ho with
      | 0, ho =>
        obtain rfl : _ = o := Option.some.inj ho
        have t0 := hold 0 (by kernel_rfl)
        refine Or.inl ⟨want0 rfl, ?_⟩
        clear hdst hpo hold ho
        clear hinv
        unfold Ans
        go_simp
        exact ⟨rfl, Below.refl _ _⟩
      | 1, ho =>
        obtain rfl : _ = o := Option.some.inj ho
        have t24 : ac.tmps[24]? = some (f 0) := hdst 0 24 (by kernel_rfl) (by kernel_rfl)
        have p0 : (IsV (.pointer (some ⟨g, 0, none⟩))) (f 0) ww := hpo 0 (by kernel_rfl)
        refine Or.inl ⟨want0 rfl, ?_⟩
        clear hdst hpo hold ho
        rw [show f 0 = _ from p0] at t24
        clear hinv
        unfold Ans
        go_simp
        exact ⟨rfl, Below.refl _ _⟩
      | 2, ho =>
        obtain rfl : _ = o := Option.some.inj ho
        have t25 : ac.tmps[25]? = some (f 1) := hdst 1 25 (by kernel_rfl) (by kernel_rfl)
        have p1 : (IsV (.pointer (some ⟨g, 0, none⟩))) (f 1) ww := hpo 1 (by kernel_rfl)
        refine Or.inl ⟨want0 rfl, ?_⟩
        clear hdst hpo hold ho
        rw [show f 1 = _ from p1] at t25
        clear hinv
        unfold Ans
        go_simp
        exact ⟨rfl, Below.refl _ _⟩
      | 3, ho =>
        obtain rfl : _ = o := Option.some.inj ho
        have t26 : ac.tmps[26]? = some (f 2) := hdst 2 26 (by kernel_rfl) (by kernel_rfl)
        have p2 : (IsV (.pointer (some ⟨g, 3, none⟩))) (f 2) ww := hpo 2 (by kernel_rfl)
        refine Or.inl ⟨want0 rfl, ?_⟩
        clear hdst hpo hold ho
        rw [show f 2 = _ from p2] at t26
        obtain ⟨b3, b5, d0, d1, d2, hgbl⟩ := HA0.out ww hinv
        unfold Ans
        go_simp
        exact ⟨rfl, Below.refl _ _⟩
      | 4, ho =>
        obtain rfl : _ = o := Option.some.inj ho
        have t0 := hold 0 (by kernel_rfl)
        refine Or.inl ⟨want0 rfl, ?_⟩
        clear hdst hpo hold ho
        clear hinv
        unfold Ans
        go_simp
        exact ⟨rfl, Below.refl _ _⟩
      | 5, ho =>
        obtain rfl : _ = o := Option.some.inj ho
        have t28 : ac.tmps[28]? = some (f 4) := hdst 4 28 (by kernel_rfl) (by kernel_rfl)
        have p4 : (IsV (.pointer (some ⟨g, 0, none⟩))) (f 4) ww := hpo 4 (by kernel_rfl)
        refine Or.inl ⟨want0 rfl, ?_⟩
        clear hdst hpo hold ho
        rw [show f 4 = _ from p4] at t28
        clear hinv
        unfold Ans
        go_simp
        exact ⟨rfl, Below.refl _ _⟩
      | 6, ho =>
        obtain rfl : _ = o := Option.some.inj ho
        have t29 : ac.tmps[29]? = some (f 5) := hdst 5 29 (by kernel_rfl) (by kernel_rfl)
        have p5 : (IsV (.pointer (some ⟨g, 0, none⟩))) (f 5) ww := hpo 5 (by kernel_rfl)
        refine Or.inl ⟨want0 rfl, ?_⟩
        clear hdst hpo hold ho
        rw [show f 5 = _ from p5] at t29
        clear hinv
        unfold Ans
        go_simp
        exact ⟨rfl, Below.refl _ _⟩
      | 7, ho =>
        obtain rfl : _ = o := Option.some.inj ho
        have t30 : ac.tmps[30]? = some (f 6) := hdst 6 30 (by kernel_rfl) (by kernel_rfl)
        have p6 : (IsV (.pointer (some ⟨g, 5, none⟩))) (f 6) ww := hpo 6 (by kernel_rfl)
        refine Or.inl ⟨want0 rfl, ?_⟩
        clear hdst hpo hold ho
        rw [show f 6 = _ from p6] at t30
        obtain ⟨b3, b5, d0, d1, d2, hgbl⟩ := HA0.out ww hinv
        unfold Ans
        go_simp
        exact ⟨rfl, Below.refl _ _⟩
      | 8, ho =>
        obtain rfl : _ = o := Option.some.inj ho
        have t27 : ac.tmps[27]? = some (f 3) := hdst 3 27 (by kernel_rfl) (by kernel_rfl)
        have p3 : (IsV (.slice (some ⟨gb, 0, none⟩) m1.goals.length gc1)) (f 3) ww := hpo 3 (by kernel_rfl)
        have t31 : ac.tmps[31]? = some (f 7) := hdst 7 31 (by kernel_rfl) (by kernel_rfl)
        have p7 : (IsV (.int .i64 (n : Int))) (f 7) ww := hpo 7 (by kernel_rfl)
        refine Or.inl ⟨want0 rfl, ?_⟩
        clear hdst hpo hold ho
        rw [show f 3 = _ from p3] at t27
        rw [show f 7 = _ from p7] at t31
        clear hinv
        unfold Ans
        go_simp
        exact ⟨rfl, Below.refl _ _⟩
      | 9, ho =>
        obtain rfl : _ = o := Option.some.inj ho
        have t32 : ac.tmps[32]? = some (f 8) := hdst 8 32 (by kernel_rfl) (by kernel_rfl)
        have p8 : (IsV (.pointer (some ⟨gb, n * 3, none⟩))) (f 8) ww := hpo 8 (by kernel_rfl)
        refine Or.inl ⟨want0 rfl, ?_⟩
        clear hdst hpo hold ho
        rw [show f 8 = _ from p8] at t32
        obtain ⟨b3, b5, d0, d1, d2, hgbl⟩ := HA0.out ww hinv
        unfold Ans
        go_simp
        exact ⟨rfl, Below.refl _ _⟩
      | 10, ho =>
        obtain rfl : _ = o := Option.some.inj ho
        refine Or.inl ⟨want0 rfl, ?_⟩
        clear hdst hpo hold ho
        unfold Ans
        go_simp
        exact ⟨⟨_, rfl, hinv.size, blk_new _ _⟩, (Below.refl _ _).alloc (Nat.le_refl _) _⟩
      | i + 11, ho => simp at ho
  · intro f ww hinv hpo
    have p9 : (IsV (.agg #[.int .i64 gm.at_, .int .i64 (gm.bar : Int), .int .i64 gm.next])) (f 9) ww := hpo 9 (by decide)
    have p10 : (IsBox W1.heap.size 130 #[.int .i64 0, .int .i64 0, .int .i64 0]) (f 10) ww := hpo 10 (by decide)
    obtain ⟨xb, e10, hxb, hxx⟩ := p10
    simp only [fillT, List.take_succ_cons, List.take_zero, List.setIfInBounds_toArray, List.set_cons_succ, List.set_cons_zero]
    rw [show f 9 = _ from p9, e10]
    have HBW := hid hinv
    have HXX := hid hxx
    have hxl := blk_lt hxx
    obtain ⟨y0, y1, y2, yf⟩ := box3 hxx
    clear hinv hpo p9 e10 hxx HA0
    refine wpAny_only (i := 11) (by kernel_rfl) (wpOp_run rfl (by rfl) ?_)
    go_simp
    refine wpAny_all (by kernel_rfl) ?_ _
    obtain ⟨W2, hW2⟩ : ∃ W2, W2 = ((ww.setCell ⟨xb, 0, none⟩ (.int .i64 gm.at_)).setCell ⟨xb, 1, none⟩ (.int .i64 (gm.bar : Int))).setCell ⟨xb, 2, none⟩ (.int .i64 gm.next) := ⟨_, rfl⟩
    have HB2 := hid (show Below W1.heap.size W1 W2 by rw [hW2]; exact ((HBW.out.setCell hxb _).setCell hxb _).setCell hxb _)
    have HX2 := hid (show W2.heap[xb]? = some (.cells #[.int .i64 gm.at_, .int .i64 (gm.bar : Int), .int .i64 gm.next] 130 (0, 0)) by rw [hW2]; exact (blk_set (blk_set (blk_set HXX.out 0 _) 1 _) 2 _).trans rfl)
    rw [← hW2]
    clear hW2 y0 y1 y2 yf HXX HBW
    have HV2 := hid (HV1.out.below HB2.out)
    have HCH2 := hid (HCH1.out.then_below HB2.out)
    have hz2 : w.heap.size ≤ W2.heap.size := HCH2.out.size
    obtain ⟨x0, x1, x2, xf⟩ := box3 HX2.out
    have hxl2 := blk_lt HX2.out
    have HPR := HPRE.out
    have hinb : Inb m1.h.cells gm.at_ := by rw [HM1.out, HGM.out, HN.out]; exact HPR.inb
    have hce : cellAt m1.h.cells gm.at_ = cellAt m.h.cells (goalM m m.now.toNat).at_ := by rw [HM1.out, HGM.out, HN.out]
    have HINB := hid hinb
    have HCE := hid hce
    have HBI := hid (mbuiltin_ok gm hinb (by rw [hce]; exact HPR.n0) (by rw [hce]; exact HPR.n4) (HV2.out.size_s hinb) HV2.out)
    have HGO := hid (show goalM m1 n = gm by rw [HGM.out, HM1.out]; rfl)
    have hstep : stepM P m = @ite _ (KnownC (cellAt m1.h.cells gm.at_)) (Classical.propDecidable _)
        (match knownM gm m1 with
          | (none, m') => (.off, m')
          | (some true, m') => (.next, { m' with now := gm.next })
          | (some false, m') => backM P m'.choices m')
        (if nextM P (cellAt m1.h.cells gm.at_) P.length 0 = P.length then (.off, m1.put 5)
        else match callM P n gm P.length 0 m1 with
          | (.no, m') => backM P m'.choices m'
          | r => r) := by
      unfold stepM
      rw [if_neg HF0.out, HGM.out, HM1.out, HN.out]
      rfl
    have HSTEP := hid hstep
    clear hinb hce HPR hstep
    go_wp2_with fail
    refine HBI.out.mono ?_
    rintro e w3 ⟨t, rfl, hb3, hkn⟩
    have HV3 := hid (HV2.out.below hb3)
    have HCH3 := hid (HCH2.out.then_below hb3)
    have HX3 := hid (blk_below HX2.out hb3)
    clear hb3 x0 x1 x2 xf
    obtain ⟨x0, x1, x2, xf⟩ := box3 HX3.out
    have hxl3 := blk_lt HX3.out
    have hmo : m1.out = m.out := by rw [HM1.out]
    have hmc : m1.choices = m.choices := by rw [HM1.out]
    have hmg : m1.goals = m.goals := by rw [HM1.out]
    have hmh : m1.h = m.h := by rw [HM1.out]
    have HOUT1 := hid (show m1.out.length + 1 ≤ 20 by rw [hmo]; exact HOUT.out)
    have HFEW1 := hid (show m1.choices.length < 900 by rw [hmc]; exact HFEW.out)
    have HFIT1 := hid (show m1.goals.length ≤ 5900 by rw [hmg]; exact HFIT.out)
    have HGOOD1 := hid (show m1.h.Good by rw [hmh]; exact HPRE.out.good)
    clear hmo hmc hmg hmh
    cases t with
    | true =>
      have HKN := hid (hkn.1 rfl)
      have HS1 := hid (HSTEP.out.trans (if_pos HKN.out))
      have hlk := HPRE.out.lk (by rw [← HCE.out]; exact HKN.out)
      rw [← HCE.out, ← HN.out, ← HGM.out, show m.h = m1.h by rw [HM1.out]] at hlk
      have HKO := hid (mknown_ok gm HINB.out HGK.out HGOOD1.out hlk HV3.out HOUT1.out)
      have HBK1 := hid (show ∀ m', knownM gm m1 = (some false, m') → BkPre P m'.choices m' ∧ m'.choices.length < 900 ∧ m'.goals.length ≤ 5900 ∧ m'.out.length + 1 ≤ 20 from fun m' e => HPRE.out.bk1 m' (by rw [← HCE.out]; exact HKN.out) (by rw [← HN.out, ← HGM.out, ← HM1.out]; exact e))
      clear hkn hlk HSTEP HKN
      go_wp2_with fail
      refine HKO.out.mono ?_
      rintro e w4 ⟨rfl, hst⟩
      have HX4 := hid (show w4.heap[xb]? = some (.cells #[.int .i64 gm.at_, .int .i64 (gm.bar : Int), .int .i64 gm.next] 130 (0, 0)) by
        obtain ⟨_, _, _, -, hch, -⟩ := hst
        exact (hch.block xb hxl3 (fun hm => by have := (HV1.out.mm_lt xb hm).2; omega)).trans HX3.out)
      have HST4 := hid (MaStep.trans HCH3.out HGR1.out hst)
      clear hst HKO x0 x1 x2 xf
      obtain ⟨x0, x1, x2, xf⟩ := box3 HX4.out
      have hxl4 := blk_lt HX4.out
      generalize knownM gm m1 = r at *
      obtain ⟨r1, m4⟩ := r
      cases r1 with
      | none =>
        try simp only [optV]
        have hres := hid (show stepM P m = (.off, m4) from HS1.out)
        go_wp2_with fail
        go_ret
        rw [hres.out]
        exact ⟨rfl, HST4.out⟩
      | some b =>
        cases b with
        | true =>
          try simp only [optV]
          have hres := hid (show stepM P m = (.next, { m4 with now := gm.next }) from HS1.out)
          obtain ⟨hc5, ht5, o5, hmv5, hch5, hgr5⟩ := HST4.out
          have HV5 := hid hmv5
          have HCH5 := hid hch5
          have HGR5 := hid hgr5
          obtain ⟨b0, b1, b2, b3, b4, b5, b6, b7, b8, b9, bf⟩ := box10 hmv5.box
          have hgl5 := hmv5.lt.1
          clear hmv5 hch5 hgr5
          go_wp2_with fail
          go_ret
          rw [hres.out]
          refine ⟨rfl, MaStep.trans HCH5.out HGR5.out ?_⟩
          exact HV5.out.setI (m' := { m4 with now := gm.next }) 5 _ ⟨rfl, rfl, rfl, rfl⟩ ((blk_set HV5.out.box 5 _).trans rfl) HGK.out.2.1 HV5.out.qb HV5.out.fu
        | false =>
          try simp only [optV]
          have hres := hid (show stepM P m = backM P m4.choices m4 from HS1.out)
          have HBP := hid (HBK1.out m4 rfl)
          obtain ⟨hcK, htK, oK, hmvK, hchK, hgrK⟩ := HST4.out
          have HVK := hid hmvK
          have HCHK := hid hchK
          have HGRK := hid hgrK
          clear hmvK hchK hgrK
          obtain ⟨bp1, bp2, bp3, bp4⟩ := HBP.out
          have HBACK := hid (mback_ok HVK.out HP.out bp1 bp2 bp3 bp4)
          clear bp1 bp2 bp3 bp4
          go_wp2_with fail
          refine HBACK.out.mono ?_
          rintro e wz ⟨rfl, hst⟩
          have HSTZ := hid (MaStep.trans HCHK.out HGRK.out hst)
          clear hst HBACK
          go_wp2_with fail
          go_ret
          rw [hres.out]
          exact ⟨rfl, HSTZ.out⟩
    | false =>
      have HKN := hid (show ¬ KnownC (cellAt m1.h.cells gm.at_) from fun h => by have := hkn.2 h; cases this)
      have HS1 := hid (HSTEP.out.trans (if_neg HKN.out))
      have HHD := hid (mhead_ok gm HINB.out HV3.out)
      have HBK2 := hid (show ∀ m', callM P n gm P.length 0 m1 = (.no, m') → BkPre P m'.choices m' from fun m' e => HPRE.out.bk2 m' (by rw [← HCE.out]; exact HKN.out) (by rw [← HN.out, ← HGM.out, ← HM1.out]; exact e))
      have HNO := hid (callM_no (P := P) (n := n) (g := gm) P.length 0 m1)
      have HMC := hid (by have := mcall_ok n 0 HV3.out HP.out HGOOD1.out hnl1 (by rw [HGO.out]; exact HINB.out) (Nat.zero_le _) HFEW1.out HFIT1.out HOUT1.out; rw [HGO.out, Nat.sub_zero] at this; exact this)
      have hnow1 : m1.now = (n : Int) := by rw [HM1.out]; exact hnow
      have HNOW1 := hid hnow1
      obtain ⟨cx, hcx⟩ : ∃ cx, cx = cellAt m1.h.cells gm.at_ := ⟨_, rfl⟩
      have HCX := hid hcx
      rw [← hcx] at HHD HS1
      clear hkn HSTEP HKN hcx hnow1
      go_wp2_with fail
      refine HHD.out.mono ?_
      rintro e w5 ⟨rfl, hb5⟩
      have HV5 := hid (HV3.out.below hb5)
      have HCH5 := hid (HCH3.out.then_below hb5)
      clear hb5 HHD x0 x1 x2 xf
      go_wp2_with fail
      refine (mfind_ok cx 0 (Nat.zero_le _) HV5.out).mono ?_
      rintro e w6 ⟨rfl, hb6⟩
      rw [Nat.sub_zero]
      have HV6 := hid (HV5.out.below hb6)
      have HCH6 := hid (HCH5.out.then_below hb6)
      have hkb := nextM_bd P cx P.length 0
      clear hb6
      by_cases hnx : nextM P cx P.length 0 = P.length
      · have hres := hid (show stepM P m = (.off, m1.put 5) from HS1.out.trans (if_pos hnx))
        rw [show findV P (nextM P cx P.length 0) = -1 by unfold findV; rw [if_neg (by omega)]]
        have HEN := hid (mend_ok 5 (by unfold I64; omega) HV6.out HOUT1.out)
        clear hnx hkb HS1
        go_wp2_with fail
        refine HEN.out.mono ?_
        rintro e w7 ⟨rfl, hst⟩
        have HST := hid (MaStep.trans HCH6.out HGR1.out hst)
        clear hst
        go_wp2_with fail
        go_ret
        rw [hres.out]
        exact ⟨rfl, HST.out⟩
      · have hres0 := hid (HS1.out.trans (if_neg hnx))
        rw [show findV P (nextM P cx P.length 0) = (nextM P cx P.length 0 : Int) by unfold findV; rw [if_pos (by omega)]]
        have hnp : (0 : Int) ≤ (nextM P cx P.length 0 : Int) := Int.natCast_nonneg _
        generalize nextM P cx P.length 0 = kz at hnp ⊢
        obtain ⟨b0, b1, b2, b3, b4, b5, b6, b7, b8, b9, bf⟩ := box10 HV6.out.box
        rw [HNOW1.out] at b5
        have hgl6 := HV6.out.lt.1
        have HMC6 := hid (by have := mcall_ok n 0 HV6.out HP.out HGOOD1.out hnl1 (by rw [HGO.out]; exact HINB.out) (Nat.zero_le _) HFEW1.out HFIT1.out HOUT1.out; rw [HGO.out, Nat.sub_zero] at this; exact this)
        clear hnx hkb HS1 HMC
        go_wp2_with fail
        refine HMC6.out.mono ?_
        rintro e w7 ⟨rfl, hst⟩
        have HST7 := hid (MaStep.trans HCH6.out HGR1.out hst)
        clear hst HMC6 b0 b1 b2 b3 b4 b5 b6 b7 b8 b9 bf
        generalize callM P n gm P.length 0 m1 = r at *
        obtain ⟨r1, m7⟩ := r
        cases r1 with
        | next =>
          try simp only [resV]
          have hres := hid (show stepM P m = (.next, m7) from hres0.out)
          go_wp2_with fail
          go_ret
          rw [hres.out]
          exact ⟨rfl, HST7.out⟩
        | off =>
          try simp only [resV]
          have hres := hid (show stepM P m = (.off, m7) from hres0.out)
          go_wp2_with fail
          go_ret
          rw [hres.out]
          exact ⟨rfl, HST7.out⟩
        | no =>
          try simp only [resV]
          have hm7 := HNO.out m7 rfl
          subst hm7
          have hres := hid (show stepM P m = backM P m7.choices m7 from hres0.out)
          have HBP := hid (show BkPre P m7.choices m7 ∧ m7.choices.length < 900 ∧ m7.goals.length ≤ 5900 ∧ m7.out.length + 1 ≤ 20 from ⟨HBK2.out m7 rfl, HFEW1.out, HFIT1.out, HOUT1.out⟩)
          obtain ⟨hcK, htK, oK, hmvK, hchK, hgrK⟩ := HST7.out
          have HVK := hid hmvK
          have HCHK := hid hchK
          have HGRK := hid hgrK
          clear hmvK hchK hgrK
          obtain ⟨bp1, bp2, bp3, bp4⟩ := HBP.out
          have HBACK := hid (mback_ok HVK.out HP.out bp1 bp2 bp3 bp4)
          clear bp1 bp2 bp3 bp4
          go_wp2_with fail
          refine HBACK.out.mono ?_
          rintro e wz ⟨rfl, hst⟩
          have HSTZ := hid (MaStep.trans HCHK.out HGRK.out hst)
          clear hst HBACK
          go_wp2_with fail
          go_ret
          rw [hres.out]
          exact ⟨rfl, HSTZ.out⟩
end
end Go.Proofs.Ytlpmfkpefoegeab
