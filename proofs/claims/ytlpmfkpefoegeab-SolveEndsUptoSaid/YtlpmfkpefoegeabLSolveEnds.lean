/-
  SolveEnds: answers, then one end.
-/
import Derived.Test.YtlpmfkpefoegeabQSolvesK
import Derived.Test.YtlpmfkpefoegeabHLook
import Derived.Test.YtlpmfkpefoegeabQGood
namespace Go.Proofs.Ytlpmfkpefoegeab
set_option linter.unusedVariables false
set_option linter.unusedSimpArgs false
open Go.RowKit

/-- what is asked of an event -/
def EvGood (q : Nat) (len i : Nat) (x : Ev) : Prop := ((x.kind = 1) ↔ i < len - 1) ∧ 1 ≤ x.kind ∧ x.kind ≤ 6 ∧ (∀ t ∈ x.terms, t.Good 200) ∧ Tm.nodesL x.terms ≤ 200 ∧ (x.kind = 1 → x.terms.length = q)

theorem clsNodes_sum' : ∀ l : List Cl, clsNodes l = (l.map Cl.nodes).sum
  | [] => rfl
  | c :: r => by simp [clsNodes, clsNodes_sum' r]

theorem Ends.at {q : Nat} {l : List Ev} (h : Ends q 0 l) : ∀ i (hi : i < l.length), EvGood q l.length i l[i] := by
  obtain ⟨ans, k, rfl, h1, h2, h3, h4, h5⟩ := h
  intro i hi
  simp only [List.length_append, List.length_map, List.length_singleton] at hi
  by_cases hlt : i < ans.length
  · have e : (ans.map (fun l => (⟨1, l⟩ : Ev)) ++ [⟨k, []⟩])[i]'(by simpa using hi) = ⟨1, ans[i]⟩ := by
      rw [List.getElem_append_left (by simpa using hlt)]; simp
    rw [e]
    obtain ⟨a1, a2, a3⟩ := h5 ans[i] (List.getElem_mem hlt)
    exact ⟨by simp; omega, by simp, by simp, a2, a3, fun _ => a1⟩
  · have hie : i = ans.length := by omega
    have e : (ans.map (fun l => (⟨1, l⟩ : Ev)) ++ [⟨k, []⟩])[i]'(by simpa using hi) = ⟨k, []⟩ := by
      rw [List.getElem_append_right (by simpa using Nat.not_lt.1 hlt)]; simp
    rw [e]
    exact ⟨by simp; omega, by simp only; omega, by simp only; omega, by simp, by simp [Tm.nodesL], fun h => by simp only at h; omega⟩
theorem Ends.size {q : Nat} {l : List Ev} (h : Ends q 0 l) : 1 ≤ l.length ∧ l.length ≤ 13 ∧ ∀ n (hn : n < l.length), l.length = n + 1 → (l[n].kind = 6 ↔ l.length = 13) := by
  obtain ⟨ans, k, rfl, h1, h2, h3, h4, h5⟩ := h
  refine ⟨by simp, by simp; omega, fun n hn he => ?_⟩
  have hne : n = ans.length := by simp at he; omega
  have e : (ans.map (fun l => (⟨1, l⟩ : Ev)) ++ [⟨k, []⟩])[n]'hn = ⟨k, []⟩ := by
    rw [List.getElem_append_right (by simp; omega)]; simp
  rw [e]
  simp only [List.length_append, List.length_map, List.length_singleton]
  rw [h4]; omega
theorem nodesL_take : ∀ (l : List Tm) (j : Nat) (hj : j < l.length), Tm.nodesL (l.take (j + 1)) = Tm.nodesL (l.take j) + l[j].nodes
  | [], j, hj => by simp at hj
  | x :: r, 0, hj => by simp [Tm.nodesL]
  | x :: r, j + 1, hj => by
    simp only [List.take_succ_cons, Tm.nodesL, List.getElem_cons_succ]
    rw [nodesL_take r j (by simpa using hj)]
    omega
theorem nodesL_take_le : ∀ (l : List Tm) (j : Nat), Tm.nodesL (l.take j) ≤ Tm.nodesL l
  | [], j => by simp
  | x :: r, 0 => by simp [Tm.nodesL]
  | x :: r, j + 1 => by
    simp only [List.take_succ_cons, Tm.nodesL]
    have := nodesL_take_le r j
    omega

set_option maxRecDepth 100000 in
set_option maxHeartbeats 4000000 in
theorem solveEnds_walk (P : List Cl) (Q : List Tm) (vars fuel : Int) (hnp : (P.map Cl.nodes).sum ≤ 1099511627776) (hnq : Tm.nodesL Q ≤ 1099511627776) (hv : I64 vars) (hf : I64 fuel) (w : World) (pv qv : Value) (hpv : ClsR (fun _ => True) w P pv) (hqv : TmsR (fun _ => True) w Q qv) :
    Calls Try.prog 5 #[pv, qv, .int .i64 vars, .int .i64 fuel] w (Pure w (fun r _ => r = .bool true)) := by
  rw [← clsNodes_sum'] at hnp
  have HSV := hid (fun w => solvesK_ok w)
  have HA := hid (sall_ok (P := P) (Q := Q) (vars := vars) (fuel := fuel) hnp hnq hv hf w pv qv (SlR.mono Cl.rep_lasts (by omega) hpv (fun b hb _ => hb)) (SlR.mono Tm.rep_lasts (by omega) hqv (fun b hb _ => hb)))
  have hen := solveF_ends (P := P) (Q := Q) (vars := vars) (fuel := fuel)
  have hvn : (solveF P Q vars fuel).2 = 0 → 0 ≤ vars := fun h => by
    rcases solveF_cases P Q vars fuel with ⟨_, e⟩ | ⟨_, _, e⟩ | ⟨⟨_, hQ⟩, _, _, e⟩
    · rw [e] at h; simp at h
    · rw [e] at h; simp at h
    · exact hQ.1
  have herr : (solveF P Q vars fuel).2 ≠ 0 → (solveF P Q vars fuel).1 = [] := fun h => by
    rcases solveF_cases P Q vars fuel with ⟨_, e⟩ | ⟨_, _, e⟩ | ⟨⟨_, hQ⟩, _, _, e⟩
    · rw [e]
    · rw [e]
    · rw [e] at h; simp at h
  generalize solveF P Q vars fuel = ra at *
  obtain ⟨l, ea⟩ := ra
  simp only at hen hvn herr
  have HEN := hid hen
  have HVN := hid hvn
  have HERR := hid herr
  obtain ⟨pa, pc, -, -, rfl, -⟩ := SlR.at hpv
  obtain ⟨qa, qc, -, -, rfl, -⟩ := SlR.at hqv
  clear hpv hqv hen hvn herr
  go_enter Try.func5, Try.ntmps5
  go_wp2_with fail
  refine (HA.out).mono ?_
  rintro e w1 ⟨av, rfl, hb1, hav⟩
  have HB1 := hid hb1
  have HAV := hid hav
  obtain ⟨aa, ac, ab, ao, rfl, hac1, hac2, hac3, haa, hae⟩ := SlR.at hav
  have hz1 := hb1.size
  clear hb1 hav HA
  by_cases he : ea = 0
  · subst he
    have HE := hid (HEN.out rfl)
    obtain ⟨vn, rfl⟩ := Int.eq_ofNat_of_zero_le (HVN.out rfl)
    rw [Int.toNat_natCast] at HE
    clear HEN HVN HERR haa hae
    have hl13 := HE.out.size.2.1
    have hl1 := HE.out.size.1
    go_wp2_with fail
    refine (HSV.out w1).mono ?_
    rintro e w2 ⟨r, rfl, hb2, rfl⟩
    have HB2 := hid (HB1.out.trans (hb2.mono hz1))
    have HAV2 := hid (SlR.keeps evR_lasts HAV.out (Keeps.of_below hb2))
    have hz2 := HB2.out.size
    obtain ⟨_, _, ab, ao, e9, -, -, -, haa, hae⟩ := SlR.at HAV2.out
    simp only [Value.slice.injEq, true_and] at e9
    obtain ⟨rfl, rfl⟩ := e9
    have HAA := hid haa
    have HAE := hid hae
    clear hb2 haa hae
    go_wp2_with fail
    go_loopw [38] (fun i wr => ∃ j : Nat, j ≤ l.length ∧ i = .int .i64 (j : Int) ∧ Below w2.heap.size w2 wr) (fun i _ => l.length - (intOf i).toNat)
    case atStart => exact ⟨0, Nat.zero_le _, rfl, Below.refl _ _⟩
    case round =>
      obtain ⟨wo, rfl⟩ : ∃ wo : World, wo = wr := ⟨_, rfl⟩
      obtain ⟨j, hj, rfl, hb⟩ := hrel
      have HB := hid hb
      have hzr := hb.size
      clear hb
      have hj0 : (0 : Int) ≤ (j : Int) := Int.natCast_nonneg _
      by_cases hlt : j < l.length
      · have hlt' : (j : Int) < (l.length : Int) := by omega
        obtain ⟨rfl, hAb⟩ := HAA.out (by omega)
        obtain ⟨ta, tc, c0, c1, htr, hki⟩ := ev_cells HAE.out hAb (Keeps.of_below HB.out) hlt
        have habl := World.block_lt_of_cell? wo _ c0
        simp only at habl
        have hg := HE.out.at j hlt
        obtain ⟨x, hx⟩ : ∃ x, x = l[j] := ⟨_, rfl⟩
        rw [← hx] at c0 c1 htr hg hki
        obtain ⟨g1, g2, g3, g4, g5, g6⟩ := hg
        have HG4 := hid g4
        have HG5 := hid g5
        have HG6 := hid g6
        obtain ⟨_, _, tb, to, e9, htc1, htc2, htc3, hta, hte⟩ := SlR.at htr
        simp only [Value.slice.injEq, true_and] at e9
        obtain ⟨rfl, rfl⟩ := e9
        have HTA := hid hta
        have HTE := hid hte
        have hd1 : decide (x.kind < 1) = false := by simpa using g2
        have hd6 : decide (6 < x.kind) = false := by simpa using g3
        have hk64a : -9223372036854775808 ≤ (l.length : Int) - 1 := by omega
        have hk64b : (l.length : Int) - 1 ≤ 9223372036854775807 := by omega
        have hk : (x.kind == 1) = decide ((j : Int) < (l.length : Int) - 1) := by
          rw [Bool.eq_iff_iff, beq_iff_eq, decide_eq_true_iff, g1]; omega
        have HK := hid hk
        have hxl := hid hx
        obtain ⟨bb, hbb⟩ : ∃ bb : Bool, bb = decide ((j : Int) < (l.length : Int) - 1) := ⟨_, rfl⟩
        have hkb : (x.kind == 1) = bb := hk.trans hbb.symm
        have hne : (bb != bb) = false := by simp
        have hbb2 := hbb.symm
        clear htr hta hte g1 g4 g5 g6 hk hx hbb
        go_wp2_with fail
        obtain ⟨W4, hW4⟩ : ∃ W4, W4 = wo.alloc (.cells #[.int .i64 x.kind, .slice ta x.terms.length tc] 55) := ⟨_, rfl⟩
        have HB4 := hid (show Below w2.heap.size w2 W4 by rw [hW4]; exact HB.out.alloc hzr _)
        have HB4o := hid (show Below wo.heap.size wo W4 by rw [hW4]; exact (Below.refl _ _).alloc (Nat.le_refl _) _)
        have HX4 := hid (show W4.heap[wo.heap.size]? = some (.cells #[.int .i64 x.kind, .slice ta x.terms.length tc] 55 (0, 0)) by rw [hW4]; exact blk_new _ _)
        have hs4 : wo.heap.size < W4.heap.size := by rw [hW4]; simp
        obtain ⟨xb, hxb⟩ : ∃ xb, xb = wo.heap.size := ⟨_, rfl⟩
        rw [← hxb] at HX4 hs4
        rw [← hW4]
        rw [← hxb]
        have hxo : wo.heap.size ≤ xb := by omega
        clear hW4 hxb c0 c1
        obtain ⟨x0, x1, xf⟩ := box2 HX4.out
        go_loopw [65, 13] (fun i n wi => ∃ k : Nat, k ≤ x.terms.length ∧ i = .int .i64 (k : Int) ∧ n = .int .i64 ((Tm.nodesL (x.terms.take k) : Nat) : Int) ∧ Below W4.heap.size W4 wi) (fun i _ _ => x.terms.length - (intOf i).toNat)
        case atStart => exact ⟨0, Nat.zero_le _, rfl, by simp [Tm.nodesL], Below.refl _ _⟩
        case round =>
          obtain ⟨k, hk, rfl, rfl, hb⟩ := hrel
          have HBi := hid hb
          have HXi := hid (blk_below HX4.out hb)
          have hzi := hb.size
          clear hb x0 x1 xf
          have hk0 : (0 : Int) ≤ (k : Int) := Int.natCast_nonneg _
          have hnl := nodesL_take_le x.terms k
          have hn200 := HG5.out
          by_cases hlk : k < x.terms.length
          · have hlk' : (k : Int) < (x.terms.length : Int) := by omega
            obtain ⟨rfl, hAt⟩ := HTA.out (by omega)
            obtain ⟨ya, yc, d0, d1, d2, d3, hyr⟩ := tm_cells HTE.out hAt ((Keeps.of_below HB4o.out).trans (Keeps.of_below HBi.out)) hlk
            have htbl := World.block_lt_of_cell? wr _ d0
            simp only at htbl
            have hyg := HG4.out x.terms[k] (List.getElem_mem hlk)
            have hst := nodesL_take x.terms k hlk
            have hle2 := nodesL_take_le x.terms (k + 1)
            obtain ⟨y, hy⟩ : ∃ y, y = x.terms[k] := ⟨_, rfl⟩
            rw [← hy] at d0 d1 d2 d3 hyr hyg hst
            have HYR := hid hyr
            have HYG := hid hyg
            have HST := hid hst
            have hyn : y.nodes ≤ 200 := by omega
            have hyn2 : ((Tm.nodesL (x.terms.take k) : Nat) : Int) + (y.nodes : Int) ≤ 200 := by omega
            have hyn3 : (0 : Int) ≤ ((Tm.nodesL (x.terms.take k) : Nat) : Int) := Int.natCast_nonneg _
            have hyn4 : (0 : Int) ≤ (y.nodes : Int) := Int.natCast_nonneg _
            clear hyr hyg hst hy
            go_wp2_with fail
            refine (nodes_ok y (fun _ => True) _ [_, _, _, _] (by omega) (Tm.rep_lasts.1 _ _ _ _ _ HYR.out (Keeps.alloc _ _ _))).mono ?_
            rintro e w5 ⟨v, rfl, hb5, rfl⟩
            have HB5 := hid (show Below wr.heap.size wr w5 from ((Below.refl _ _).alloc (Nat.le_refl _) _).trans (hb5.mono (by simp)))
            have HYB := hid (show w5.heap[wr.heap.size]? = some (.cells #[.int .i64 y.kind, .int .i64 y.n, .string y.s, .slice ya y.args.length yc] 24 (0, 0)) from blk_below (blk_new _ _) hb5)
            have HYR5 := hid (Tm.rep_lasts.1 _ _ _ _ _ HYR.out (Keeps.of_below HB5.out))
            have hyl5 := blk_lt HYB.out
            obtain ⟨yb, hyb⟩ : ∃ yb, yb = wr.heap.size := ⟨_, rfl⟩
            rw [← hyb] at HYB hyl5
            rw [← hyb]
            have hz5 := HB5.out.size
            clear hb5 hyb d0 d1 d2 d3
            obtain ⟨y0, y1, y2, y3, yf⟩ := blk4 HYB.out
            go_wp2_with fail
            refine (goodT_ok y 200 (fun _ => True) w5 [_, _, _, _] (by unfold I64; omega) HYR5.out).mono ?_
            rintro e w6 ⟨v, rfl, hb6, r, rfl, hr⟩
            obtain rfl : r = true := hr.2 HYG.out
            have HB6 := hid (HBi.out.trans ((HB5.out.trans (hb6.mono hz5)).mono hzi))
            clear hb6 hr
            go_wp2_with fail
            go_roundw
            case rel => exact ⟨k + 1, by omega, by go_num, by rw [HST.out]; go_num, HB6.out⟩
            case measure => simp [intOf]; omega
          · have hke : k = x.terms.length := by omega
            subst hke
            rw [List.take_length] at hnl ⊢
            obtain ⟨x0, x1, xf⟩ := box2 HXi.out
            have hxbl := blk_lt HXi.out
            have hng : ¬ (200 : Int) < ((Tm.nodesL x.terms : Nat) : Int) := by omega
            have hngd : decide ((200 : Int) < ((Tm.nodesL x.terms : Nat) : Int)) = false := by simpa using hng
            have HBw := hid (HB4.out.trans (HBi.out.mono HB4.out.size))
            cases bb with
            | true =>
              have hxk : x.kind = 1 := by simpa using hkb
              have hxq : x.terms.length = vn := HG6.out hxk
              have hxn : ((x.terms.length : Int) != (vn : Int)) = false := by rw [hxq]; simp
              rw [hxk] at x0
              clear hxk hxq hng
              go_wp2_with fail
              go_roundw
              case rel => exact ⟨j + 1, by omega, by go_num, HBw.out⟩
              case measure => simp [intOf]; omega
            | false =>
              clear hng
              go_wp2_with fail
              go_roundw
              case rel => exact ⟨j + 1, by omega, by go_num, HBw.out⟩
              case measure => simp [intOf]; omega
      · have hje : j = l.length := by omega
        subst hje
        obtain ⟨n, hn⟩ : ∃ n, l.length = n + 1 := ⟨l.length - 1, by omega⟩
        have hnl : n < l.length := by omega
        obtain ⟨rfl, hAb⟩ := HAA.out (by omega)
        obtain ⟨ta, tc, c0, c1, -, -⟩ := ev_cells HAE.out hAb (Keeps.of_below HB.out) hnl
        have h6 := HE.out.size.2.2 n hnl hn
        have habl := World.block_lt_of_cell? wo _ c0
        simp only at habl
        have hn0 : (0 : Int) ≤ (n : Int) := Int.natCast_nonneg _
        have hnn : (l.length : Int) - 1 = (n : Int) := by omega
        have hnn1 : (n : Int) < (l.length : Int) := by omega
        have hge : (1 : Int) ≤ (l.length : Int) := by omega
        have hle : (l.length : Int) ≤ 13 := by omega
        have hgd : decide ((1 : Int) ≤ (l.length : Int)) = true := by simpa using hge
        have hld : decide ((l.length : Int) ≤ 13) = true := by simpa using hle
        have hkq : (l[n].kind == 6) = ((l.length : Int) == 13) := by
          rw [Bool.eq_iff_iff, beq_iff_eq, beq_iff_eq, h6]; omega
        have HBF := hid (HB2.out.trans (HB.out.mono hz2))
        clear hn h6
        go_wp2_with fail
        go_ret
        exact ⟨_, rfl, HBF.out, by simp [hkq]⟩
  · have hl := HERR.out he
    subst hl
    have he' : (ea != 0) = true := by simpa using he
    clear he haa hae
    go_wp2_with fail
    refine (HSV.out w1).mono ?_
    rintro e w3 ⟨r, rfl, hb3, rfl⟩
    have HB3 := hid (HB1.out.trans (hb3.mono hz1))
    clear hb3
    go_wp2_with fail
    go_ret
    exact ⟨_, rfl, HB3.out, rfl⟩
end Go.Proofs.Ytlpmfkpefoegeab
