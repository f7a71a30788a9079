/-
  The machine: known.
-/
import Derived.Test.YtlpmfkpefoegeabQMach8
namespace Go.Proofs.Ytlpmfkpefoegeab
set_option linter.unusedVariables false
set_option linter.unusedSimpArgs false
open Go.RowKit
section
variable {base : Nat} {P : List Cl} {q g : Nat} {pv hc ht : Value} {o : Mo} {m : Mv} {w : World}
theorem strEq {s : ByteArray} {l : List UInt8} (h : s.toList = l) : (s.toList == l) = true := by simpa using h
theorem strNe {s : ByteArray} {l : List UInt8} (h : ¬ s.toList = l) : (s.toList == l) = false := by simpa using h
set_option maxRecDepth 100000 in
set_option maxHeartbeats 8000000 in
theorem mknown_ok (x : Gm) (hx : Inb m.h.cells x.at_) (hgx : gmOk x) (hg : m.h.Good)
    (hlk : ¬ (cellAt m.h.cells x.at_).s.toList = [33] → ¬ (cellAt m.h.cells x.at_).s.toList = [116, 114, 117, 101] → ¬ (cellAt m.h.cells x.at_).s.toList = [102, 97, 105, 108] → ¬ (cellAt m.h.cells x.at_).s.toList = [101, 113] → 0 ≤ look m.h.cells (x.at_ + 1) ∧ 0 ≤ look m.h.cells (x.at_ + 2) ∧
      ((cellAt m.h.cells (look m.h.cells (x.at_ + 1))).kind = 2 → (cellAt m.h.cells (look m.h.cells (x.at_ + 2))).kind = 2 → I64 ((cellAt m.h.cells (look m.h.cells (x.at_ + 1))).n + (cellAt m.h.cells (look m.h.cells (x.at_ + 2))).n)))
    (h : MvI base P q g pv hc ht o m w) (hout : m.out.length + 1 ≤ 20) :
    Calls Try.prog 70 #[.pointer (some ⟨g, 0, none⟩), .agg #[.int .i64 x.at_, .int .i64 (x.bar : Int), .int .i64 x.next]] w (MOptPost base P q g pv o (knownM x m) w) := by
  have HU := hid h
  have HG := hid hg
  have HGX := hid hgx
  have HLK := hid hlk
  have HOUT := hid hout
  obtain ⟨hl1, hl2⟩ := h.lt
  obtain ⟨gv, cv, ov⟩ := o
  obtain ⟨pa, pc, ga, gc, ca, cc, oa, oc, ha, hac, hb, hbc, rfl, rfl, rfl, rfl, rfl, rfl, -, -, -, -, c1, c2, -⟩ := h.vals
  obtain ⟨k, hka, hkl, hce⟩ := cellAt_eq hx
  have HCE := hid hce
  obtain ⟨c, t, e0, hcs0, -⟩ := h.heap
  simp only [List.cons.injEq, and_true] at e0
  obtain ⟨rfl, rfl⟩ := e0
  obtain ⟨_, _, hb0, hoff, e9, hh1, hh2, hh3, hha, hhe⟩ := SlR.at hcs0
  simp only [Value.slice.injEq, true_and] at e9
  obtain ⟨rfl, rfl⟩ := e9
  obtain ⟨rfl, hAb⟩ := hha (by omega)
  have HE := hid hhe
  have HA := hid hAb
  have HKA := hid hka
  have hk0 : (0 : Int) ≤ (k : Int) := Int.natCast_nonneg _
  have hk1 : (k : Int) < (m.h.cells.length : Int) := by omega
  have hk2 : (k : Int) ≤ 65536 := by have := hg.2.2.1; omega
  have hkw : (k : Int) + 3 ≤ 70000 := by omega
  unfold maxLen at hh2 c2
  obtain ⟨bar, hbar⟩ : ∃ bar, bar = x.bar := ⟨_, rfl⟩
  have hb6 : (bar : Int) ≤ 1000000 := by have := hgx.2.2; omega
  have hb60 : (0 : Int) ≤ (bar : Int) := Int.natCast_nonneg _
  have HBAR := hid hbar
  rw [← hbar]
  rw [hka]
  clear h hg hgx hlk hcs0 hha hhe hx hce hout hka hbar
  go_enter Try.func70, Try.ntmps70
  go_wp2_with fail
  obtain ⟨W1, hW1⟩ : ∃ W1, W1 = w.alloc (.cells #[.int .i64 (k : Int), .int .i64 (bar : Int), .int .i64 x.next] 130) := ⟨_, rfl⟩
  have HB1 := hid (show Below w.heap.size w W1 by rw [hW1]; exact (Below.refl _ _).alloc (Nat.le_refl _) _)
  have HX1 := hid (show W1.heap[w.heap.size]? = some (.cells #[.int .i64 (k : Int), .int .i64 (bar : Int), .int .i64 x.next] 130 (0, 0)) by rw [hW1]; exact blk_new _ _)
  rw [← hW1]
  clear hW1
  have hz1 := HB1.out.size
  obtain ⟨b0, b1, b2, b3, b4, b5, b6, b7, b8, b9, bf⟩ := box10 (HU.out.below HB1.out).box
  simp only at b3 b4 b9
  obtain ⟨d0, d1, d2, -⟩ := ce_cells HE.out HA.out (Keeps.of_below HB1.out) hkl
  have x0 : W1.cell? ⟨w.heap.size, 0, none⟩ = some (.int .i64 (k : Int)) := (blk_cell HX1.out 0).trans rfl
  have hbl := World.block_lt_of_cell? W1 _ d0
  have hxl := blk_lt HX1.out
  have hgl : g < W1.heap.size := by omega
  simp only at hbl
  go_quiet (fail)
  have HB2 := hid (show Below w.heap.size w (W1.drewN nq) from HB1.out.trans ⟨rfl, rfl, rfl, Nat.le_refl _, fun _ _ => rfl⟩)
  have HX2 := hid (show (W1.drewN nq).heap[w.heap.size]? = _ from HX1.out)
  generalize W1.drewN nq = W2 at *
  clear b0 b1 b2 b3 b4 b5 b6 b7 b8 b9 bf d0 d1 d2 x0 hbl hxl hgl HB1 HX1 hz1
  have HS := hid (show (cellAt m.h.cells x.at_).s = (m.h.cells[k]).s by rw [HCE.out])
  generalize (m.h.cells[k]).s = s at *
  have HU2 := hid (HU.out.below HB2.out)
  have hz2 := HB2.out.size
  obtain ⟨b0, b1, b2, b3, b4, b5, b6, b7, b8, b9, bf⟩ := box10 HU2.out.box
  simp only at b3 b4 b9
  obtain ⟨x0, x1, x2, xf⟩ := box3 HX2.out
  have hxl := blk_lt HX2.out
  have hgl := HU2.out.lt.1
  have hKN := HS.out
  by_cases s1 : s.toList = [33]
  · have e1 := strEq s1
    have hres := hid (show knownM x m = (some true, { m with choices := m.choices.drop (m.choices.length - min x.bar m.choices.length) }) by
      unfold knownM; simp only [HS.out]; rw [if_pos s1])
    clear s1 hKN
    have hcl := HU2.out.cl
    obtain ⟨kk, hkk⟩ : ∃ kk, kk = min bar m.choices.length := ⟨_, rfl⟩
    have HKK := hid hkk
    by_cases hbm : bar ≤ m.choices.length
    · obtain rfl : kk = bar := by omega
      have hbm2 : ¬ m.choices.length < kk := by omega
      have hkc : kk ≤ cc := by omega
      clear hkk hbm
      go_wp2_with fail
      go_still_tail 16, (by kernel_rfl)
      change wpList _ _ _ _ _ W2.drew
      have HSd := hid (show MaStep base P q g (.slice pa P.length pc) ⟨.slice ga m.goals.length gc, .slice ca m.choices.length cc, .slice oa m.out.length oc⟩ { m with choices := m.choices.drop (m.choices.length - kk) } W2.drew (W2.drew.setCell ⟨g, 4, none⟩ (.slice ca kk cc)) from (HU2.out.below (Below.refl _ _).drew).cutC (by omega) rfl)
      have HBd := hid (HB2.out.drew)
      have hgld : g < W2.drew.heap.size := hgl
      have hbd := box10 (HU2.out.below (Below.refl _ _).drew).box
      generalize W2.drew = Wd at *
      clear b0 b1 b2 b3 b4 b5 b6 b7 b8 b9 bf
      obtain ⟨b0, b1, b2, b3, b4, b5, b6, b7, b8, b9, bf⟩ := hbd
      simp only at b3 b4 b9
      go_wp2_with fail
      go_ret2
      rw [hres.out, ← HBAR.out, ← HKK.out]
      exact ⟨rfl, MaStep.trans (Ch.of_below HBd.out) (MGrow.refl _ _) HSd.out⟩
    · have hbm2 : m.choices.length < bar := by omega
      obtain rfl : kk = m.choices.length := by omega
      have hkc : m.choices.length ≤ cc := by omega
      clear hkk hbm
      go_wp2_with fail
      go_still_tail 16, (by kernel_rfl)
      change wpList _ _ _ _ _ W2.drew
      have HSd := hid (show MaStep base P q g (.slice pa P.length pc) ⟨.slice ga m.goals.length gc, .slice ca m.choices.length cc, .slice oa m.out.length oc⟩ { m with choices := m.choices.drop (m.choices.length - m.choices.length) } W2.drew (W2.drew.setCell ⟨g, 4, none⟩ (.slice ca m.choices.length cc)) from (HU2.out.below (Below.refl _ _).drew).cutC (by omega) rfl)
      have HBd := hid (HB2.out.drew)
      have hgld : g < W2.drew.heap.size := hgl
      have hbd := box10 (HU2.out.below (Below.refl _ _).drew).box
      generalize W2.drew = Wd at *
      clear b0 b1 b2 b3 b4 b5 b6 b7 b8 b9 bf
      obtain ⟨b0, b1, b2, b3, b4, b5, b6, b7, b8, b9, bf⟩ := hbd
      simp only at b3 b4 b9
      go_wp2_with fail
      go_ret2
      rw [hres.out, ← HBAR.out, ← HKK.out]
      exact ⟨rfl, MaStep.trans (Ch.of_below HBd.out) (MGrow.refl _ _) HSd.out⟩
  have e1 := strNe s1
  have HS1 := hid s1
  by_cases s2 : s.toList = [116, 114, 117, 101]
  · have e2 := strEq s2
    have hres := hid (show knownM x m = (some true, m) by
      unfold knownM; simp only [HS.out]; rw [if_neg s1, if_pos s2])
    clear s1 s2 hKN
    go_wp2_with fail
    go_ret2
    rw [hres.out]
    exact ⟨rfl, MaStep.trans (Ch.of_below HB2.out) (MGrow.refl _ _) (MaStep.refl HU2.out)⟩
  have e2 := strNe s2
  have HS2 := hid s2
  by_cases s3 : s.toList = [102, 97, 105, 108]
  · have e3 := strEq s3
    have hres := hid (show knownM x m = (some false, m) by
      unfold knownM; simp only [HS.out]; rw [if_neg s1, if_neg s2, if_pos s3])
    clear s1 s2 s3 hKN
    go_wp2_with fail
    go_ret2
    rw [hres.out]
    exact ⟨rfl, MaStep.trans (Ch.of_below HB2.out) (MGrow.refl _ _) (MaStep.refl HU2.out)⟩
  have e3 := strNe s3
  have HS3 := hid s3
  have hres0 : knownM x m = if s.toList = [101, 113] then uniMa m (x.at_ + 1) (x.at_ + 2) else
      (if (cellAt m.h.cells (look m.h.cells (x.at_ + 1))).kind ≠ 2 ∨ (cellAt m.h.cells (look m.h.cells (x.at_ + 2))).kind ≠ 2 then (none, m.put 5)
      else if s.toList = [108, 101, 115, 115] then (some (decide ((cellAt m.h.cells (look m.h.cells (x.at_ + 1))).n < (cellAt m.h.cells (look m.h.cells (x.at_ + 2))).n)), m)
      else if (cellAt m.h.cells (look m.h.cells (x.at_ + 1))).n + (cellAt m.h.cells (look m.h.cells (x.at_ + 2))).n > 1099511627776 ∨ (cellAt m.h.cells (look m.h.cells (x.at_ + 1))).n + (cellAt m.h.cells (look m.h.cells (x.at_ + 2))).n < -1099511627776 then (none, m.put 5)
      else if (loadF m.h [⟨2, (cellAt m.h.cells (look m.h.cells (x.at_ + 1))).n + (cellAt m.h.cells (look m.h.cells (x.at_ + 2))).n, ByteArray.empty⟩]).2.2 ≠ 0 then (none, m.put 4)
      else uniMa { m with h := (loadF m.h [⟨2, (cellAt m.h.cells (look m.h.cells (x.at_ + 1))).n + (cellAt m.h.cells (look m.h.cells (x.at_ + 2))).n, ByteArray.empty⟩]).1 } (x.at_ + 3) (loadF m.h [⟨2, (cellAt m.h.cells (look m.h.cells (x.at_ + 1))).n + (cellAt m.h.cells (look m.h.cells (x.at_ + 2))).n, ByteArray.empty⟩]).2.1) := by
    unfold knownM
    simp only [HS.out]
    rw [if_neg s1, if_neg s2, if_neg s3]
    rfl
  by_cases s4 : s.toList = [101, 113]
  · have e4 := strEq s4
    have hres := hid (hres0.trans (if_pos s4))
    clear s1 s2 s3 s4 hKN hres0
    go_wp2_with fail
    refine (munify_ok ((k : Int) + 1) ((k : Int) + 2) (by unfold I64; omega) (by unfold I64; omega) HU2.out HOUT.out).mono ?_
    rintro e w3 ⟨rfl, hst⟩
    have HST := hid (MaStep.trans (Ch.of_below HB2.out) (MGrow.refl _ _) hst)
    have HR1 := hid (show knownM x m = uniMa m ((k : Int) + 1) ((k : Int) + 2) by rw [hres.out, HKA.out])
    clear hst hres
    generalize uniMa m ((k : Int) + 1) ((k : Int) + 2) = r at *
    obtain ⟨r1, m3⟩ := r
    cases r1 with
    | none =>
      try simp only [optV]
      go_wp2_with fail
      go_ret2
      rw [HR1.out]
      exact ⟨rfl, HST.out⟩
    | some b =>
      try simp only [optV]
      go_wp2_with fail
      go_ret2
      rw [HR1.out]
      exact ⟨rfl, HST.out⟩
  have e4 := strNe s4
  obtain ⟨hk1a, hk1b, hk1c⟩ := HLK.out (by rw [HS.out]; exact s1) (by rw [HS.out]; exact s2) (by rw [HS.out]; exact s3) (by rw [HS.out]; exact s4)
  rw [if_neg s4] at hres0
  rw [HKA.out] at hres0 hk1a hk1b hk1c
  have HN1 := hid (fun (W : World) (hb : Below W2.heap.size W2 W) => mnumber_ok ((k : Int) + 1) (by unfold I64; omega) hk1a (HU2.out.below hb))
  have HN2 := hid (fun (W : World) (hb : Below W2.heap.size W2 W) => mnumber_ok ((k : Int) + 2) (by unfold I64; omega) hk1b (HU2.out.below hb))
  generalize cellAt m.h.cells (look m.h.cells ((k : Int) + 1)) = a at *
  generalize cellAt m.h.cells (look m.h.cells ((k : Int) + 2)) = b at *
  have HSUM := hid hk1c
  clear s1 s2 s3 hKN hk1a hk1b hk1c
  by_cases s5 : s.toList = [108, 101, 115, 115]
  · have e5 := strEq s5
    rw [if_pos s5] at hres0
    have HR0 := hid hres0
    clear s4 s5 hres0
    go_wp2_with fail
    refine (HN1.out W2 (Below.refl _ _)).mono ?_
    rintro e w3 ⟨rfl, hb3⟩
    have HB3 := hid hb3
    have HX3 := hid (blk_below HX2.out hb3)
    clear hb3 x0 x1 x2 xf b0 b1 b2 b3 b4 b5 b6 b7 b8 b9 bf
    obtain ⟨x0, x1, x2, xf⟩ := box3 HX3.out
    have hxl3 := blk_lt HX3.out
    go_wp2_with fail
    refine (HN2.out w3 HB3.out).mono ?_
    rintro e w4 ⟨rfl, hb4⟩
    have HB4 := hid (HB3.out.trans (hb4.mono HB3.out.size))
    have HX4 := hid (blk_below HX3.out hb4)
    have HU4 := hid (HU2.out.below HB4.out)
    have HB4w := hid (HB2.out.trans (HB4.out.mono hz2))
    clear hb4 x0 x1 x2 xf
    have HFA := hid (mend_ok 5 (by unfold I64; omega) HU4.out HOUT.out)
    by_cases ka : a.kind = 2
    · by_cases kb : b.kind = 2
      · have hres := hid (HR0.out.trans (if_neg (fun h => h.elim (fun h => h ka) (fun h => h kb))))
        rw [show decide (a.kind = 2) = true by simpa using ka, show decide (b.kind = 2) = true by simpa using kb]
        clear HR0 HFA ka kb
        go_wp2_with fail
        go_ret2
        rw [hres.out]
        exact ⟨rfl, MaStep.trans (Ch.of_below HB4w.out) (MGrow.refl _ _) (MaStep.refl HU4.out)⟩
      · rw [show decide (a.kind = 2) = true by simpa using ka, show decide (b.kind = 2) = false by simpa using kb]
        have hres := hid (HR0.out.trans (if_pos (.inr kb)))
        clear HR0
        go_wp2_with fail
        refine HFA.out.mono ?_
        rintro e w5 ⟨rfl, hst⟩
        have HST := hid (MaStep.trans (Ch.of_below HB4w.out) (MGrow.refl _ _) hst)
        clear hst
        go_wp2_with fail
        go_ret2
        rw [hres.out]
        exact ⟨rfl, HST.out⟩
    · rw [show decide (a.kind = 2) = false by simpa using ka]
      have hres := hid (HR0.out.trans (if_pos (.inl ka)))
      clear HR0
      go_wp2_with fail
      refine HFA.out.mono ?_
      rintro e w5 ⟨rfl, hst⟩
      have HST := hid (MaStep.trans (Ch.of_below HB4w.out) (MGrow.refl _ _) hst)
      clear hst
      go_wp2_with fail
      go_ret2
      rw [hres.out]
      exact ⟨rfl, HST.out⟩
  · have e5 := strNe s5
    rw [if_neg s5] at hres0
    have HR0 := hid hres0
    clear s4 s5 hres0
    go_wp2_with fail
    refine (HN1.out W2 (Below.refl _ _)).mono ?_
    rintro e w3 ⟨rfl, hb3⟩
    have HB3 := hid hb3
    have HX3 := hid (blk_below HX2.out hb3)
    clear hb3 x0 x1 x2 xf b0 b1 b2 b3 b4 b5 b6 b7 b8 b9 bf
    obtain ⟨x0, x1, x2, xf⟩ := box3 HX3.out
    have hxl3 := blk_lt HX3.out
    go_wp2_with fail
    refine (HN2.out w3 HB3.out).mono ?_
    rintro e w4 ⟨rfl, hb4⟩
    have HB4 := hid (HB3.out.trans (hb4.mono HB3.out.size))
    have HX4 := hid (blk_below HX3.out hb4)
    have HU4 := hid (HU2.out.below HB4.out)
    have HB4w := hid (HB2.out.trans (HB4.out.mono hz2))
    clear hb4 x0 x1 x2 xf
    have HFA := hid (mend_ok 5 (by unfold I64; omega) HU4.out HOUT.out)
    by_cases ka : a.kind = 2
    · by_cases kb : b.kind = 2
      · rw [show decide (a.kind = 2) = true by simpa using ka, show decide (b.kind = 2) = true by simpa using kb]
        have hres1 := HR0.out.trans (if_neg (fun h => h.elim (fun h => h ka) (fun h => h kb)))
        have hi := HSUM.out ka kb
        have hwr : IntKind.i64.wrap (a.n + b.n) = a.n + b.n := IntWalk.i64_in _ hi
        have HWR := hid hwr
        have HI := hid hi
        clear HR0 ka kb hi HSUM
        by_cases hgt : a.n + b.n > 1099511627776
        · have hres := hid (hres1.trans (if_pos (.inl hgt)))
          have hgt' : decide (1099511627776 < a.n + b.n) = true := by simpa using hgt
          clear hres1 hgt
          go_wp2_with fail
          refine HFA.out.mono ?_
          rintro e w5 ⟨rfl, hst⟩
          have HST := hid (MaStep.trans (Ch.of_below HB4w.out) (MGrow.refl _ _) hst)
          clear hst
          go_wp2_with fail
          go_ret2
          rw [hres.out]
          exact ⟨rfl, HST.out⟩
        · by_cases hlt : a.n + b.n < -1099511627776
          · have hres := hid (hres1.trans (if_pos (.inr hlt)))
            have hgt' : decide (1099511627776 < a.n + b.n) = false := by simpa using hgt
            have hlt' : decide (a.n + b.n < -1099511627776) = true := by simpa using hlt
            clear hres1 hgt hlt
            go_wp2_with fail
            refine HFA.out.mono ?_
            rintro e w5 ⟨rfl, hst⟩
            have HST := hid (MaStep.trans (Ch.of_below HB4w.out) (MGrow.refl _ _) hst)
            clear hst
            go_wp2_with fail
            go_ret2
            rw [hres.out]
            exact ⟨rfl, HST.out⟩
          · have hres1' := hid (hres1.trans (if_neg (fun h => h.elim hgt hlt)))
            have hgt' : decide (1099511627776 < a.n + b.n) = false := by simpa using hgt
            have hlt' : decide (a.n + b.n < -1099511627776) = false := by simpa using hlt
            have HS12 := hid (show a.n + b.n ≤ 1099511627776 ∧ -1099511627776 ≤ a.n + b.n from ⟨by omega, by omega⟩)
            clear hres1 hgt hlt HFA
            obtain ⟨b0, b1, b2, b3, b4, b5, b6, b7, b8, b9, bf⟩ := box10 HU4.out.box
            simp only at b3 b4 b9
            have hgl4 := HU4.out.lt.1
            have HMM4 := hid HU4.out.mm_lt
            go_upto_region 22 with (fail)
            clear hgt' hlt'
            go_wp2_with fail
            obtain ⟨W5, hW5⟩ : ∃ W5, W5 = w4.alloc (.cells #[.int .i64 2, .int .i64 (a.n + b.n), .string ⟨#[]⟩] 71) := ⟨_, rfl⟩
            have HBa := hid (show Below w4.heap.size w4 W5 by rw [hW5]; exact (Below.refl _ _).alloc (Nat.le_refl _) _)
            have HCV := hid (show CesR (fun b => MA g ⟨.slice ga m.goals.length gc, .slice ca m.choices.length cc, .slice oa m.out.length oc⟩ b ∨ b = w4.heap.size) W5 [⟨2, a.n + b.n, ByteArray.empty⟩] (.slice (some ⟨w4.heap.size, 0, none⟩) 1 1) by
              rw [hW5]
              exact ⟨w4.heap.size, 0, ⟨by simp, .inr ⟨by simp, .inr rfl, 1, rfl, by simp, by unfold maxLen; omega⟩⟩, elems_one Ce.rep_lasts (vs := [.int .i64 2, .int .i64 (a.n + b.n), .string ⟨#[]⟩]) 71 rfl ⟨⟨by show I64 2; unfold I64; omega, HI.out, by show (0 : Nat) ≤ _; omega⟩, rfl⟩⟩)
            rw [← hW5]
            have HX5 := hid (blk_below HX4.out HBa.out)
            have HU5 := hid (HU4.out.below HBa.out)
            have HB5 := hid (HB4w.out.trans (HBa.out.mono HB4w.out.size))
            clear hW5 hwr b0 b1 b2 b3 b4 b5 b6 b7 b8 b9 bf
            refine (load_ok m.h [⟨2, a.n + b.n, ByteArray.empty⟩] _ W5 _ _ (HU5.out.heap.mono fun b _ h => .inl h) HCV.out).mono ?_
            rintro e w6 ⟨v6, rfl, hb6, us6, rfl, hr6⟩
            have HLB := hid (loadF_base m.h [⟨2, a.n + b.n, ByteArray.empty⟩])
            generalize loadF m.h [⟨2, a.n + b.n, ByteArray.empty⟩] = L at *
            obtain ⟨lh, ln, le⟩ := L
            simp only at hr6 HLB hres1'
            have hr6' : Hp.rep (MA g ⟨.slice ga m.goals.length gc, .slice ca m.choices.length cc, .slice oa m.out.length oc⟩) w6 lh us6 := hr6.mono fun b _ hb hm => by
              have hm4 := (HMM4.out b hm).2
              have hs5 := HBa.out.size
              rcases hb with (hb | hb) | hb
              · exact hb hm
              · omega
              · have : W5.heap.size ≤ b := hb; omega
            obtain ⟨xa, xac, xb, xbc, rfl, -⟩ := Hp.rep2 hr6
            have HR6 := hid hr6'
            have HB6 := hid (HB5.out.trans (hb6.mono HB5.out.size))
            have HX6 := hid (blk_below HX5.out hb6)
            have HU6 := hid (HU5.out.below hb6)
            have hg6 := HU6.out.lt.1
            have hgne6 : g ≠ w6.heap.size := by omega
            have hxne6 : w.heap.size ≠ w6.heap.size := by have := blk_lt HX6.out; omega
            have hxl6 := blk_lt HX6.out
            have hcs := cell_set
            clear hr6 hr6' hb6 HCV HX5 HU5
            obtain ⟨b0, b1, b2, b3, b4, b5, b6, b7, b8, b9, bf⟩ := box10 HU6.out.box
            simp only at b3 b4 b9
            obtain ⟨x0, x1, x2, xf⟩ := box3 HX6.out
            obtain ⟨W7, hW7⟩ : ∃ W7, W7 = w6.alloc (.cells #[.slice xa lh.cells.length xac, .slice xb lh.trail.length xbc] 30) := ⟨_, rfl⟩
            have HB7 := hid (show Below w6.heap.size w6 W7 by rw [hW7]; exact (Below.refl _ _).alloc (Nat.le_refl _) _)
            by_cases hle : le ≠ 0
            · have hled : (le != 0) = true := by simpa using hle
              have hres := hid (hres1'.out.trans (if_pos hle))
              have HFB := hid (mend_ok 4 (by unfold I64; omega) (HU6.out.below HB7.out) HOUT.out)
              have HBb := hid (HB6.out.trans (HB7.out.mono HB6.out.size))
              clear hle
              go_wp2_with fail
              rw [← hW7]
              refine HFB.out.mono ?_
              rintro e w8 ⟨rfl, hst⟩
              have HST := hid (MaStep.trans (Ch.of_below HBb.out) (MGrow.refl _ _) hst)
              clear hst
              go_wp2_with fail
              go_ret2
              rw [hres.out]
              exact ⟨rfl, HST.out⟩
            have hle0 : le = 0 := Classical.not_not.1 hle
            subst hle0
            have hres2 := hid (hres1'.out.trans (if_neg (by simp)))
            obtain ⟨-, hln⟩ := HLB.out rfl
            subst hln
            have HSH := hid (HU6.out.setH HR6.out)
            have hcl6 : m.h.cells.length ≤ 65536 := HG.out.2.2.1
            clear hle hres1' hW7
            go_wp2_with fail
            obtain ⟨W8, hW8⟩ : ∃ W8, W8 = ((w6.setCell ⟨g, 1, none⟩ (.slice xa lh.cells.length xac)).setCell ⟨g, 2, none⟩ (.slice xb lh.trail.length xbc)).alloc (.cells #[.slice xa lh.cells.length xac, .slice xb lh.trail.length xbc] 30) := ⟨_, rfl⟩
            have HS8 := hid (show MaStep base P q g (.slice pa P.length pc) ⟨.slice ga m.goals.length gc, .slice ca m.choices.length cc, .slice oa m.out.length oc⟩ { m with h := lh } w6 W8 from HSH.out.below (by rw [hW8]; exact (Below.refl _ _).alloc (Nat.le_refl _) _))
            rw [← hW8]
            obtain ⟨hc8, ht8, o8, hmv8, hch8, hgr8⟩ := HS8.out
            have HV8 := hid hmv8
            have HCH8 := hid ((Ch.of_below (M := MM g ⟨.slice ga m.goals.length gc, .slice ca m.choices.length cc, .slice oa m.out.length oc⟩) HB6.out).trans hch8 (fun b h => .inl h))
            have HGR8 := hid ((MGrow.refl w ⟨.slice ga m.goals.length gc, .slice ca m.choices.length cc, .slice oa m.out.length oc⟩).trans hgr8 HB6.out.size)
            clear hW8 hmv8 hch8 hgr8 HSH HS8 b0 b1 b2 b3 b4 b5 b6 b7 b8 b9 bf x0 x1 x2 xf hcs
            refine (munify_ok ((k : Int) + 3) (m.h.cells.length : Int) (by unfold I64; omega) (by unfold I64; omega) HV8.out HOUT.out).mono ?_
            rintro e w9 ⟨rfl, hst⟩
            have HST := hid (MaStep.trans HCH8.out HGR8.out hst)
            have HR9 := hid (show knownM x m = uniMa { m with h := lh } ((k : Int) + 3) (m.h.cells.length : Int) from hres2.out)
            clear hst hres2
            generalize uniMa { m with h := lh } ((k : Int) + 3) (m.h.cells.length : Int) = r at *
            obtain ⟨r1, m9⟩ := r
            cases r1 with
            | none =>
              try simp only [optV]
              go_wp2_with fail
              go_ret2
              rw [HR9.out]
              exact ⟨rfl, HST.out⟩
            | some b =>
              try simp only [optV]
              go_wp2_with fail
              go_ret2
              rw [HR9.out]
              exact ⟨rfl, HST.out⟩
      · rw [show decide (a.kind = 2) = true by simpa using ka, show decide (b.kind = 2) = false by simpa using kb]
        have hres := hid (HR0.out.trans (if_pos (.inr kb)))
        clear HR0
        go_wp2_with fail
        refine HFA.out.mono ?_
        rintro e w5 ⟨rfl, hst⟩
        have HST := hid (MaStep.trans (Ch.of_below HB4w.out) (MGrow.refl _ _) hst)
        clear hst
        go_wp2_with fail
        go_ret2
        rw [hres.out]
        exact ⟨rfl, HST.out⟩
    · rw [show decide (a.kind = 2) = false by simpa using ka]
      have hres := hid (HR0.out.trans (if_pos (.inl ka)))
      clear HR0
      go_wp2_with fail
      refine HFA.out.mono ?_
      rintro e w5 ⟨rfl, hst⟩
      have HST := hid (MaStep.trans (Ch.of_below HB4w.out) (MGrow.refl _ _) hst)
      clear hst
      go_wp2_with fail
      go_ret2
      rw [hres.out]
      exact ⟨rfl, HST.out⟩
end
end Go.Proofs.Ytlpmfkpefoegeab
