/-
  SolveMore: with more fuel there are the same answers, and perhaps more.
-/
import Derived.Test.YtlpmfkpefoegeabQSolvesK
import Derived.Test.YtlpmfkpefoegeabQNamed
namespace Go.Proofs.Ytlpmfkpefoegeab
set_option linter.unusedVariables false
set_option linter.unusedSimpArgs false
open Go.RowKit

theorem clsNodes_sum : ∀ l : List Cl, clsNodes l = (l.map Cl.nodes).sum
  | [] => rfl
  | c :: r => by simp [clsNodes, clsNodes_sum r]

theorem SlR.takeS {α : Type} {size : Nat} {R : (Nat → Prop) → World → α → List Value → Prop} {A : Nat → Prop} {w : World} {l : List α} {a : Option Addr} {len cap : Nat} (h : SlR size R A w l (.slice a len cap)) {k : Nat} (hk : k ≤ l.length) :
    SlR size R A w (l.take k) (.slice a k cap) := by
  obtain ⟨b, off, hs, he⟩ := h
  have hl : (l.take k).length = k := by rw [List.length_take]; omega
  refine ⟨b, off, ?_, fun i x hx => ?_⟩
  · obtain ⟨h1, ⟨h0, a', c', e, hc⟩ | ⟨h0, hA, c', e, hc, hm⟩⟩ := hs
    · simp only [Value.slice.injEq] at e
      obtain ⟨rfl, rfl, rfl⟩ := e
      exact ⟨by omega, .inl ⟨by omega, a, cap, by rw [show k = 0 by omega], hc⟩⟩
    · simp only [Value.slice.injEq] at e
      obtain ⟨rfl, rfl, rfl⟩ := e
      by_cases hk0 : k = 0
      · exact ⟨by omega, .inl ⟨by omega, _, cap, by rw [hk0], hm⟩⟩
      · exact ⟨by omega, .inr ⟨by omega, hA, cap, by rw [hl], by omega, hm⟩⟩
  · have hi : i < k := by have := (List.getElem?_eq_some_iff.1 hx).1; omega
    rw [List.getElem?_take_of_lt hi] at hx
    exact he i x hx

theorem Ends.ne {q d : Nat} {l : List Ev} (h : Ends q d l) : 0 < l.length := by
  obtain ⟨ans, k, rfl, _⟩ := h; simp
theorem MoreOf.len {a b : List Ev} (h : MoreOf a b) : a.length ≤ b.length := by
  rcases h with rfl | ⟨o, more, rfl, rfl, hm⟩
  · exact Nat.le_refl _
  · have := List.length_pos_iff.2 hm
    simp; omega
theorem MoreOf.last {a b : List Ev} (h : MoreOf a b) (h0 : 0 < a.length) (hk : (a[a.length - 1]'(by omega)).kind ≠ 3) : a = b := by
  rcases h with rfl | ⟨o, more, rfl, rfl, hm⟩
  · rfl
  · exact absurd (by simp) hk
theorem MoreOf.front {a b : List Ev} (h : MoreOf a b) : a.take (a.length - 1) = b.take (a.length - 1) := by
  rcases h with rfl | ⟨o, more, rfl, rfl, hm⟩
  · rfl
  · simp

set_option maxRecDepth 100000 in
set_option maxHeartbeats 4000000 in
theorem solveMore_walk (P : List Cl) (Q : List Tm) (vars fuel more : Int) (hnp : (P.map Cl.nodes).sum ≤ 1099511627776) (hnq : Tm.nodesL Q ≤ 1099511627776) (hv : I64 vars) (hf : I64 fuel) (hm : I64 more) (w : World) (pv qv : Value) (hpv : ClsR (fun _ => True) w P pv) (hqv : TmsR (fun _ => True) w Q qv) :
    Calls Try.prog 6 #[pv, qv, .int .i64 vars, .int .i64 fuel, .int .i64 more] w (Pure w (fun r _ => r = .bool true)) := by
  rw [← clsNodes_sum] at hnp
  have HSV := hid (fun w => solvesK_ok w)
  by_cases hr0 : fuel < 0
  · have hd : decide (fuel < 0) = true := by simpa using hr0
    clear hpv hqv
    go_enter Try.func6, Try.ntmps6
    go_wp2_with fail
    refine (HSV.out _).mono ?_
    rintro e w1 ⟨r, rfl, hb1, rfl⟩
    have HB1 := hid hb1
    clear hb1
    go_wp2_with fail
    go_ret
    exact ⟨_, rfl, HB1.out, rfl⟩
  by_cases hr1 : 150 < fuel
  · have hd : decide (fuel < 0) = false := by simpa using hr0
    have hd1 : decide (150 < fuel) = true := by simpa using hr1
    clear hpv hqv
    go_enter Try.func6, Try.ntmps6
    go_wp2_with fail
    refine (HSV.out _).mono ?_
    rintro e w1 ⟨r, rfl, hb1, rfl⟩
    have HB1 := hid hb1
    clear hb1
    go_wp2_with fail
    go_ret
    exact ⟨_, rfl, HB1.out, rfl⟩
  have hd : decide (fuel < 0) = false := by simpa using hr0
  have hd1 : decide (150 < fuel) = false := by simpa using hr1
  obtain ⟨d, hdd⟩ : ∃ d, d = more % (150 - fuel + 1) := ⟨_, rfl⟩
  have hd0 : 0 ≤ d := by rw [hdd]; exact Int.emod_nonneg _ (by omega)
  have hd2 : d < 150 - fuel + 1 := by rw [hdd]; exact Int.emod_lt_of_pos _ (by omega)
  have HPK := hid (fun w => pick_ok more (150 - fuel + 1) hm (by omega) (by omega) w)
  rw [← hdd] at HPK
  clear hdd
  have HA := hid (fun (W : World) (hb : Below w.heap.size w W) => sall_ok (P := P) (Q := Q) (vars := vars) (fuel := fuel) hnp hnq hv hf W pv qv (SlR.mono Cl.rep_lasts (by omega) (SlR.keeps Cl.rep_lasts hpv (Keeps.of_below hb)) (fun b hb _ => hb)) (SlR.mono Tm.rep_lasts (by omega) (SlR.keeps Tm.rep_lasts hqv (Keeps.of_below hb)) (fun b hb _ => hb)))
  have HB := hid (fun (W : World) (hb : Below w.heap.size w W) => sall_ok (P := P) (Q := Q) (vars := vars) (fuel := fuel + d) hnp hnq hv (by unfold I64; omega) W pv qv (SlR.mono Cl.rep_lasts (by omega) (SlR.keeps Cl.rep_lasts hpv (Keeps.of_below hb)) (fun b hb _ => hb)) (SlR.mono Tm.rep_lasts (by omega) (SlR.keeps Tm.rep_lasts hqv (Keeps.of_below hb)) (fun b hb _ => hb)))
  obtain ⟨hme, hmo⟩ := solveF_more (P := P) (Q := Q) (vars := vars) (fuel := fuel) (fuel' := fuel + d) (by omega) (by omega) (by omega)
  have hen := solveF_ends (P := P) (Q := Q) (vars := vars) (fuel := fuel)
  generalize solveF P Q vars fuel = ra at *
  generalize solveF P Q vars (fuel + d) = rb at *
  obtain ⟨la, ea⟩ := ra
  obtain ⟨lb, eb⟩ := rb
  simp only at hme hmo hen
  subst hme
  have HMO := hid hmo
  have HEN := hid hen
  obtain ⟨pa, pc, -, -, rfl, -⟩ := SlR.at hpv
  obtain ⟨qa, qc, -, -, rfl, -⟩ := SlR.at hqv
  clear hpv hqv hmo hen
  go_enter Try.func6, Try.ntmps6
  go_wp2_with fail
  refine (HA.out w (Below.refl _ _)).mono ?_
  rintro e w1 ⟨av, rfl, hb1, hav⟩
  have HB1 := hid hb1
  have HAV := hid hav
  clear hb1 hav
  go_wp2_with fail
  refine (HPK.out w1).mono ?_
  rintro e w1' ⟨rfl, rfl⟩
  have hi1 : -9223372036854775808 ≤ fuel + d := by omega
  have hi2 : fuel + d ≤ 9223372036854775807 := by omega
  go_wp2_with fail
  refine (HB.out w1 HB1.out).mono ?_
  rintro e w2 ⟨bv, rfl, hb2, hbv⟩
  have HB2 := hid (HB1.out.trans (hb2.mono HB1.out.size))
  have HAV2 := hid (SlR.keeps evR_lasts HAV.out (Keeps.of_below hb2))
  have HBV := hid hbv
  obtain ⟨aa, ac, ab, ao, rfl, hac1, hac2, hac3, haa, hae⟩ := SlR.at HAV2.out
  obtain ⟨ba, bc, bb, bo, rfl, hbc1, hbc2, hbc3, hba, hbe⟩ := SlR.at hbv
  have hbz := HB2.out.size
  clear hb2 hbv HA HB
  by_cases he : ea = 0
  · subst he
    have hen := HEN.out rfl
    have hmo := HMO.out rfl
    have hpos := hen.ne
    have hle := hmo.len
    have HM := hid hmo
    have hpn : ¬ la.length = 0 := by omega
    have hpz : ((la.length : Int) == 0) = false := by rw [beq_eq_false_iff_ne]; omega
    have hgt : ¬ (lb.length : Int) < (la.length : Int) := by omega
    have hgd : decide ((lb.length : Int) < (la.length : Int)) = false := by simpa using hgt
    obtain ⟨n, hn⟩ : ∃ n, la.length = n + 1 := ⟨la.length - 1, by omega⟩
    have hnl : n < la.length := by omega
    obtain ⟨rfl, hAb⟩ := haa (by omega)
    obtain ⟨ta, tc, c0, c1, -, -⟩ := ev_cells hae hAb (Keeps.refl _ _) hnl
    have hlast : (la[la.length - 1]'(Nat.sub_lt hpos Nat.one_pos)) = la[n] := by congr 1; omega
    have HL := hid hlast
    have hn0 : (0 : Int) ≤ (n : Int) := Int.natCast_nonneg _
    have hnn : (la.length : Int) - 1 = (n : Int) := by omega
    have hnn1 : (n : Int) < (la.length : Int) := by omega
    have hn3 : la.length - 1 = n := by omega
    have HN3 := hid hn3
    have hnlb : n ≤ lb.length := by omega
    clear hn3 hn
    unfold maxLen at hac2 hbc2
    clear hen hmo hae haa hba hbe hlast hgt
    go_wp2_with fail
    refine (HSV.out w2).mono ?_
    rintro e w3 ⟨r, rfl, hb3, rfl⟩
    have HB3 := hid (HB2.out.trans (hb3.mono hbz))
    have HAV3 := hid (SlR.keeps evR_lasts HAV2.out (Keeps.of_below hb3))
    have HBV3 := hid (SlR.keeps evR_lasts HBV.out (Keeps.of_below hb3))
    have k3 := Keeps.of_below (A := fun _ => True) hb3
    have d0 := k3.cell trivial c0
    have d1 := k3.cell trivial c1
    have hl3 := World.block_lt_of_cell? w3 _ d0
    simp only at hl3
    clear hb3 c0 c1 k3
    have hnz : ¬ (la.length : Int) = 0 := by omega
    by_cases hk : (la[n]).kind = 3
    · rw [hk] at d0
      have hF := HM.out.front
      rw [HN3.out] at hF
      have HF := hid hF
      clear hF
      have HSE := hid (sameEvents_ok (la.take n) (lb.take n) (fun _ => True) w3.drew _ _ (SlR.keeps evR_lasts (HAV3.out.takeS (k := n) (by omega)) (Keeps.drew _ _)) (SlR.keeps evR_lasts (HBV3.out.takeS (k := n) (by omega)) (Keeps.drew _ _)))
      have hlac : (n : Int) ≤ (ac : Int) := by omega
      have hlbc : (n : Int) ≤ (bc : Int) := by omega
      have hz3 := HB3.out.size
      go_wp2_with fail
      refine wp_region_F (F := fun _ _ => True) (by kernel_rfl) ?_
      refine wpAnyF_take (i := 0) (v := ?_) rfl (by kernel_rfl) (by kernel_rfl) (by kernel_rfl) (fun _ _ _ h => h) (Or.inl ⟨by rfl, ?_⟩) trivial ?_
      rotate_left
      · (intro w' hw; clear hw; go_simp <;> with_reducible rfl)
      try simp only [Act.put, List.setIfInBounds_toArray, List.set_cons_zero, List.set_cons_succ]
      refine wpAnyF_take (i := 1) (v := ?_) rfl (by kernel_rfl) (by kernel_rfl) (by kernel_rfl) (fun _ _ _ h => h) (Or.inl ⟨by rfl, ?_⟩) trivial ?_
      rotate_left
      · (intro w' hw; clear hw; go_simp <;> with_reducible rfl)
      try simp only [Act.put, List.setIfInBounds_toArray, List.set_cons_zero, List.set_cons_succ]
      refine wpAnyF_take (i := 2) (v := ?_) rfl (by kernel_rfl) (by kernel_rfl) (by kernel_rfl) (fun _ _ _ h => h) (Or.inl ⟨by rfl, ?_⟩) trivial ?_
      rotate_left
      · (intro w' hw; clear hw; go_simp <;> with_reducible rfl)
      try simp only [Act.put, List.setIfInBounds_toArray, List.set_cons_zero, List.set_cons_succ]
      refine wpAnyF_take (i := 3) (v := .int .i64 (n : Int)) rfl (by kernel_rfl) (by kernel_rfl) (by kernel_rfl) (fun _ _ _ h => h) (Or.inl ⟨by rfl, ?_⟩) trivial ?_
      · (intro w' hw; clear hw; go_simp; rw [IntKind.wrap_i64]; omega)
      try simp only [Act.put, List.setIfInBounds_toArray, List.set_cons_zero, List.set_cons_succ]
      refine wpAnyF_take (i := 4) (v := .slice (some ⟨ab, ao, none⟩) n ac) rfl (by kernel_rfl) (by kernel_rfl) (by kernel_rfl) (fun _ _ _ h => h) (Or.inl ⟨by rfl, ?_⟩) trivial ?_
      · (intro w' hw; clear hw; go_simp <;> first | omega | (intro h9; omega))
      try simp only [Act.put, List.setIfInBounds_toArray, List.set_cons_zero, List.set_cons_succ]
      refine wpAnyF_take (i := 5) (v := ?_) rfl (by kernel_rfl) (by kernel_rfl) (by kernel_rfl) (fun _ _ _ h => h) (Or.inl ⟨by rfl, ?_⟩) trivial ?_
      rotate_left
      · (intro w' hw; clear hw; go_simp <;> with_reducible rfl)
      try simp only [Act.put, List.setIfInBounds_toArray, List.set_cons_zero, List.set_cons_succ]
      refine wpAnyF_take (i := 6) (v := ?_) rfl (by kernel_rfl) (by kernel_rfl) (by kernel_rfl) (fun _ _ _ h => h) (Or.inl ⟨by rfl, ?_⟩) trivial ?_
      rotate_left
      · (intro w' hw; clear hw; go_simp <;> with_reducible rfl)
      try simp only [Act.put, List.setIfInBounds_toArray, List.set_cons_zero, List.set_cons_succ]
      refine wpAnyF_take (i := 7) (v := ?_) rfl (by kernel_rfl) (by kernel_rfl) (by kernel_rfl) (fun _ _ _ h => h) (Or.inl ⟨by rfl, ?_⟩) trivial ?_
      rotate_left
      · (intro w' hw; clear hw; go_simp <;> with_reducible rfl)
      try simp only [Act.put, List.setIfInBounds_toArray, List.set_cons_zero, List.set_cons_succ]
      refine wpAnyF_take (i := 8) (v := .int .i64 (n : Int)) rfl (by kernel_rfl) (by kernel_rfl) (by kernel_rfl) (fun _ _ _ h => h) (Or.inl ⟨by rfl, ?_⟩) trivial ?_
      · (intro w' hw; clear hw; go_simp; rw [IntKind.wrap_i64]; omega)
      try simp only [Act.put, List.setIfInBounds_toArray, List.set_cons_zero, List.set_cons_succ]
      refine wpAnyF_take (i := 9) (v := .slice ba n bc) rfl (by kernel_rfl) (by kernel_rfl) (by kernel_rfl) (fun _ _ _ h => h) (Or.inl ⟨by rfl, ?_⟩) trivial ?_
      · (intro w' hw; clear hw; go_simp <;> first | omega | (intro h9; omega))
      try simp only [Act.put, List.setIfInBounds_toArray, List.set_cons_zero, List.set_cons_succ]
      have HBd := hid (show Below w.heap.size w w3.drew from HB3.out.drew)
      generalize w3.drew = w4 at *
      refine wpAnyF_one (i := 10) (by kernel_rfl) (wpOp_run rfl (by rfl) ?_)
      go_simp
      refine (HSE.out).mono ?_
      rintro e w5 ⟨v, rfl, hb5, r, rfl, hr⟩
      obtain rfl : r = true := hr.2 HF.out
      have HB5 := hid (HBd.out.trans (hb5.mono HBd.out.size))
      clear hb5 hr
      refine ⟨fun _ _ h => h, ?_⟩
      refine wpAnyF_one (i := 11) (by kernel_rfl) (wpOp_run rfl (by rfl) ?_)
      go_simp
      refine ⟨fun _ _ h => h, wpAnyF_done (by kernel_rfl) ?_ _⟩
      go_wp2_with fail
      go_ret
      exact ⟨_, rfl, HB5.out, rfl⟩
    · have hk' : ((la[n]).kind != 3) = true := by simpa using hk
      have hF := HM.out.last hpos (by rw [HL.out]; exact hk)
      have HF := hid hF
      clear hF hk
      have HSE := hid (sameEvents_ok la lb (fun _ => True) w3 _ _ HAV3.out HBV3.out)
      have hz3 := HB3.out.size
      go_wp2_with fail
      refine (HSE.out).mono ?_
      rintro e w5 ⟨v, rfl, hb5, r, rfl, hr⟩
      obtain rfl : r = true := hr.2 HF.out
      have HB5 := hid (HB3.out.trans (hb5.mono HB3.out.size))
      clear hb5 hr
      go_wp2_with fail
      go_ret
      exact ⟨_, rfl, HB5.out, rfl⟩
  · have he' : (ea != 0) = true := by simpa using he
    have hee : (ea == ea) = true := by simp
    clear he haa hae hba hbe
    go_wp2_with fail
    refine (HSV.out w2).mono ?_
    rintro e w3 ⟨r, rfl, hb3, rfl⟩
    have HB3 := hid (HB2.out.trans (hb3.mono hbz))
    clear hb3
    go_wp2_with fail
    go_ret
    exact ⟨_, rfl, HB3.out, rfl⟩
end Go.Proofs.Ytlpmfkpefoegeab
