/-
  RunWhenever: it does not matter when the heap is collected.
-/
import Derived.Test.YtlpmfkpefoegeabQSolvesK
import Derived.Test.YtlpmfkpefoegeabQMach13
import Derived.Test.YtlpmfkpefoegeabQNamed
namespace Go.Proofs.Ytlpmfkpefoegeab
set_option linter.unusedVariables false
set_option linter.unusedSimpArgs false
open Go.RowKit
set_option maxRecDepth 100000 in
set_option maxHeartbeats 4000000 in
theorem runsK_ok (w : World) : Calls Try.prog 27 #[] w (Pure w (fun r _ => r = .bool true)) := by
  have i0 : I64 0 := by unfold I64; omega
  have i2 : I64 2 := by unfold I64; omega
  have i3 : I64 3 := by unfold I64; omega
  have i4 : I64 4 := by unfold I64; omega
  have hcs := cell_set
  have HQ := hid (fun (W : World) (pv qv : Value) hp hq => mall_ok (P := [c4]) (Q := [pV]) (vars := 1) (fuel := 9) (every := 1) (by decide) (by decide) (by unfold I64; omega) (by unfold I64; omega) (by unfold I64; omega) W pv qv hp hq)
  rw [mach_same _ _ _ _ _ (by omega), solve_p] at HQ
  go_enter Try.func27, Try.ntmps27
  go_wp2_with fail
  have hW := solves_world w
  have HW := hid hW
  clear hW
  refine (HQ.out _ _ _ HW.out.1 HW.out.2.1).mono ?_
  rintro e w1 ⟨ev, rfl, hb1, hev⟩
  have HB1 := hid (HW.out.2.2.trans (hb1.mono HW.out.2.2.size))
  clear hb1 HW HQ
  obtain ⟨ea, ec, eb, eo, rfl, -, -, -, hea, hee⟩ := SlR.at hev
  obtain ⟨rfl, hAe⟩ := hea (by simp)
  obtain ⟨ta, tc, c0, c1, hr0, -⟩ := ev_cells hee hAe (Keeps.refl _ _) (k := 0) (by simp)
  obtain ⟨ta1, tc1, d0, d1, -, -⟩ := ev_cells hee hAe (Keeps.refl _ _) (k := 1) (by simp)
  simp only [List.getElem_cons_zero, List.getElem_cons_succ, Nat.zero_mul, Nat.add_zero, Nat.one_mul, List.length_cons, List.length_nil] at c0 c1 d0 d1 hr0
  obtain ⟨_, _, tb, tof, e9, -, -, -, hta, hte⟩ := SlR.at hr0
  simp only [Value.slice.injEq, List.length_cons, List.length_nil, true_and] at e9
  obtain ⟨rfl, rfl⟩ := e9
  obtain ⟨rfl, hAt⟩ := hta (by simp)
  obtain ⟨xa, xc, f0, f1, f2, f3, -⟩ := tm_cells hte hAt (Keeps.refl _ _) (k := 0) (by simp)
  simp only [List.getElem_cons_zero, Nat.zero_mul, Nat.add_zero] at f0 f1 f2 f3
  have l1 := World.block_lt_of_cell? w1 _ c0
  have l2 := World.block_lt_of_cell? w1 _ f0
  simp only at l1 l2
  have hn4 : n4.n = 4 := rfl
  rw [hn4] at f1
  clear hev hea hee hr0 hta hte hAe hAt
  simp only [List.length_cons, List.length_nil]
  go_wp2_with fail
  go_ret
  exact ⟨_, rfl, HB1.out, rfl⟩
theorem clsNodes_sumW : ∀ l : List Cl, clsNodes l = (l.map Cl.nodes).sum
  | [] => rfl
  | c :: r => by simp [clsNodes, clsNodes_sumW r]
set_option maxRecDepth 100000 in
set_option maxHeartbeats 4000000 in
theorem runWhenever_walk (P : List Cl) (Q : List Tm) (vars fuel x y : Int) (hnp : (P.map Cl.nodes).sum ≤ 1099511627776) (hnq : Tm.nodesL Q ≤ 1099511627776) (hv : I64 vars) (hf : I64 fuel) (hx : I64 x) (hy : I64 y) (w : World) (pv qv : Value) (hpv : ClsR (fun _ => True) w P pv) (hqv : TmsR (fun _ => True) w Q qv) :
    Calls Try.prog 8 #[pv, qv, .int .i64 vars, .int .i64 fuel, .int .i64 x, .int .i64 y] w (Pure w (fun r _ => r = .bool true)) := by
  rw [← clsNodes_sumW] at hnp
  have HSV := hid (fun w => runsK_ok w)
  have HPX := hid (fun w => pick_ok x 1000 hx (by omega) (by omega) w)
  have HPY := hid (fun w => pick_ok y 1000 hy (by omega) (by omega) w)
  have HRUN := hid (fun (W : World) (hb : Below w.heap.size w W) (k : Int) (h0 : 0 ≤ k) (h1 : k < 1000) => (show Calls _ _ _ _ (MAllPost W (solveF P Q vars fuel)) from mach_same P Q vars fuel k h0 ▸ mall_ok (P := P) (Q := Q) (vars := vars) (fuel := fuel) (every := k) hnp hnq hv hf (by unfold I64; omega) W pv qv (SlR.mono Cl.rep_lasts (by omega) (SlR.keeps Cl.rep_lasts hpv (Keeps.of_below hb)) (fun b hb _ => hb)) (SlR.mono Tm.rep_lasts (by omega) (SlR.keeps Tm.rep_lasts hqv (Keeps.of_below hb)) (fun b hb _ => hb))))
  generalize solveF P Q vars fuel = ra at *
  obtain ⟨la, ea⟩ := ra
  have hx0 : 0 ≤ x % 1000 := Int.emod_nonneg _ (by omega)
  have hx1 : x % 1000 < 1000 := Int.emod_lt_of_pos _ (by omega)
  have hy0 : 0 ≤ y % 1000 := Int.emod_nonneg _ (by omega)
  have hy1 : y % 1000 < 1000 := Int.emod_lt_of_pos _ (by omega)
  have HX := hid (And.intro hx0 hx1)
  have HY := hid (And.intro hy0 hy1)
  obtain ⟨pa, pc, -, -, rfl, -⟩ := SlR.at hpv
  obtain ⟨qa, qc, -, -, rfl, -⟩ := SlR.at hqv
  clear hpv hqv hx0 hx1 hy0 hy1
  go_enter Try.func8, Try.ntmps8
  go_wp2_with fail
  refine (HPX.out _).mono ?_
  rintro e w1' ⟨rfl, rfl⟩
  go_wp2_with fail
  refine (HRUN.out _ (Below.refl _ _) _ HX.out.1 HX.out.2).mono ?_
  rintro e w1 ⟨av, rfl, hb1, hav⟩
  have HB1 := hid hb1
  have HAV := hid hav
  clear hb1 hav
  go_wp2_with fail
  refine (HPY.out _).mono ?_
  rintro e w2' ⟨rfl, rfl⟩
  go_wp2_with fail
  refine (HRUN.out _ HB1.out _ HY.out.1 HY.out.2).mono ?_
  rintro e w2 ⟨bv, rfl, hb2, hbv⟩
  have HB2 := hid (HB1.out.trans (hb2.mono HB1.out.size))
  have HAV2 := hid (SlR.keeps evR_lasts HAV.out (Keeps.of_below hb2))
  have HBV := hid hbv
  clear hb2 hbv
  have HSE := hid (sameEvents_ok la la (fun _ => True) w2 _ _ HAV2.out HBV.out)
  go_wp2_with fail
  refine (HSE.out).mono ?_
  rintro e w5 ⟨v, rfl, hb5, r, rfl, hr⟩
  obtain rfl : r = true := hr.2 (by first | rfl | trivial)
  have HB5 := hid (HB2.out.trans (hb5.mono HB2.out.size))
  clear hb5 hr
  go_wp2_with fail
  refine (HSV.out w5).mono ?_
  rintro e w6 ⟨r, rfl, hb6, rfl⟩
  have HB6 := hid (HB5.out.trans (hb6.mono HB5.out.size))
  clear hb6
  go_wp2_with fail
  go_ret
  exact ⟨_, rfl, HB6.out, rfl⟩
end Go.Proofs.Ytlpmfkpefoegeab
