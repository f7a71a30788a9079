/-
  heap.moved: where numbers are by a table.
-/
import Derived.Test.YtlpmfkpefoegeabQClone
import Derived.Test.YtlpmfkpefoegeabQLoad
import Derived.Test.YtlpmfkpefoegeabHCol
namespace Go.Proofs.Ytlpmfkpefoegeab
set_option linter.unusedVariables false
set_option linter.unusedSimpArgs false
open Go.RowKit

/-- where a number is by a table; those beyond it as its last -/
def tabF (T : List Int) (n : Int) : Int := (T[(max 0 (min n ((T.length : Int) - 1))).toNat]?).getD 0

set_option maxRecDepth 100000 in
set_option maxHeartbeats 2000000 in
theorem moved_ok (T l : List Int) (hT : 0 < T.length) (A : Nat → Prop) (w : World) (u v : Value) (hu : NumsR A w T u) (hv : NumsR A w l v) :
    Calls Try.prog 37 #[u, v] w (Pure w (OwnP numV I64 3 1 w.heap.size (l.map (tabF T)))) := by
  obtain ⟨ua, ucap, ub, uoff, rfl, hu1, hu2, hu3, hua, hue⟩ := hu.at
  obtain ⟨va, vcap, vb, voff, rfl, hv1, hv2, hv3, hva, hve⟩ := hv.at
  obtain ⟨rfl, hAu⟩ := hua hT
  have HUE := hid hue
  have HVA := hid hva
  have HVE := hid hve
  have HAU := hid hAu
  have hT1 : (1 : Int) ≤ (T.length : Int) := by omega
  have hT2 : (T.length : Int) ≤ 1048576 := by omega
  clear hu hv hua hue hva hve
  go_enter Try.func37, Try.ntmps37
  go_wp2_with fail
  go_loopw [10, 5] (fun i x wr => ∃ j : Nat, j ≤ l.length ∧ i = .int .i64 (j : Int) ∧ Below w.heap.size w wr ∧ OwnN wr w.heap.size ((l.take j).map (tabF T)) x) (fun i _ _ => l.length - (intOf i).toNat)
  case atStart => exact ⟨0, Nat.zero_le _, rfl, Below.refl _ _, by rw [List.take_zero]; exact OwnF.nil⟩
  case round =>
    obtain ⟨j, hj, rfl, hb, hown⟩ := hrel
    have HB := hid hb
    have HO := hid hown
    have hzr := hb.size
    obtain ⟨xa, xc, rfl, hxl, hxm⟩ := OwnF.val hown
    have hxlen : ((l.take j).map (tabF T)).length = j := by simp; omega
    rw [hxlen] at HO hxl ⊢
    by_cases hlt : j < l.length
    · obtain ⟨rfl, hAv⟩ := HVA.out (by omega)
      obtain ⟨c0, ci⟩ := num_cell HVE.out hAv (Keeps.of_below hb) hlt
      have hlt' : (j : Int) < (l.length : Int) := by omega
      have HLT := hid hlt
      obtain ⟨lj, hlj⟩ : ∃ x : Int, x = l[j]'hlt := ⟨_, rfl⟩
      rw [← hlj] at c0 ci
      have HLJ := hid hlj
      clear hlj
      -- the place in the table
      obtain ⟨q, hq⟩ : ∃ q : Nat, (q : Int) = max 0 (min lj ((T.length : Int) - 1)) := ⟨(max 0 (min lj ((T.length : Int) - 1))).toNat, by omega⟩
      have hqT : q < T.length := by omega
      obtain ⟨d0, di⟩ := num_cell HUE.out HAU.out (Keeps.of_below hb) hqT
      have hval : tabF T lj = T[q] := by
        unfold tabF
        rw [← hq, Int.toNat_natCast, List.getElem?_eq_getElem hqT]
        rfl
      have HVAL := hid hval
      have HOR := hid (OwnF.ownR numV_len HO.out (fun _ => True))
      have hq0 : (0 : Int) ≤ (q : Int) := Int.natCast_nonneg _
      have hq1 : (q : Int) < (T.length : Int) := by omega
      have HDI := hid di
      obtain ⟨tq, htq⟩ : ∃ x : Int, x = T[q]'hqT := ⟨_, rfl⟩
      rw [← htq] at d0 hval HVAL HDI
      clear htq
      have hcases : (lj ≤ 0 ∧ (q : Int) = 0) ∨ (0 < lj ∧ lj < (T.length : Int) - 1 ∧ (q : Int) = lj) ∨ (0 < lj ∧ (T.length : Int) - 1 ≤ lj ∧ (q : Int) = (T.length : Int) - 1) := by omega
      clear hb hown hval di ci hq
      rcases hcases with ⟨k1, k2⟩ | ⟨k1, k2, k3⟩ | ⟨k1, k2, k3⟩
      · obtain rfl : q = 0 := by omega
        simp only [Nat.add_zero] at d0
        rcases Int.lt_or_eq_of_le k1 with k1 | rfl
        · go_wp2_with (at_builtin; go_must (refine wpList_app1 rfl (.tmp 14) (.tmp 24) 28 rfl w.heap.size 3 1 8 tyNums numR_lasts (A := fun _ => True) (.slice xa j xc) ((l.take j).map (tabF T)) rfl HOR.out tq [.int .i64 tq] rfl rfl ⟨HDI.out, rfl⟩ ⟨by simp; omega, hzr⟩ ?_); go_must (intro v2 w2 hown2 hgrew))
          all_goals
            have HO2 := hid (OwnF.of_ownR hown2)
            have HG2 := hid hgrew
            clear hown2 hgrew
            go_roundw
            case rel =>
              refine ⟨j + 1, by omega, by go_num, HG2.out.below (HB.out.alloc (by omega) _) (by simp; omega) (fun k hk => (HO.out.lt k hk).1), ?_⟩
              rw [List.take_succ_eq_append_getElem HLT.out, List.map_append, List.map_singleton, ← HLJ.out, HVAL.out]
              exact HO2.out
            case measure => simp [intOf]; omega
        · have d1 : wr.cell? ⟨ub, uoff + ((T.length : Int) - 1).toNat, none⟩ = some (.int .i64 tq) ∨ 0 < (T.length : Int) - 1 := by
            by_cases h1 : T.length = 1
            · left; rw [h1]; exact d0
            · right; omega
          rcases d1 with d1 | d1
          · go_wp2_with (at_builtin; go_must (refine wpList_app1 rfl (.tmp 14) (.tmp 24) 28 rfl w.heap.size 3 1 8 tyNums numR_lasts (A := fun _ => True) (.slice xa j xc) ((l.take j).map (tabF T)) rfl HOR.out tq [.int .i64 tq] rfl rfl ⟨HDI.out, rfl⟩ ⟨by simp; omega, hzr⟩ ?_); go_must (intro v2 w2 hown2 hgrew))
            all_goals
              have HO2 := hid (OwnF.of_ownR hown2)
              have HG2 := hid hgrew
              clear hown2 hgrew
              go_roundw
              case rel =>
                refine ⟨j + 1, by omega, by go_num, HG2.out.below (HB.out.alloc (by omega) _) (by simp; omega) (fun k hk => (HO.out.lt k hk).1), ?_⟩
                rw [List.take_succ_eq_append_getElem HLT.out, List.map_append, List.map_singleton, ← HLJ.out, HVAL.out]
                exact HO2.out
              case measure => simp [intOf]; omega
          · go_wp2_with (at_builtin; go_must (refine wpList_app1 rfl (.tmp 14) (.tmp 24) 28 rfl w.heap.size 3 1 8 tyNums numR_lasts (A := fun _ => True) (.slice xa j xc) ((l.take j).map (tabF T)) rfl HOR.out tq [.int .i64 tq] rfl rfl ⟨HDI.out, rfl⟩ ⟨by simp; omega, hzr⟩ ?_); go_must (intro v2 w2 hown2 hgrew))
            all_goals
              have HO2 := hid (OwnF.of_ownR hown2)
              have HG2 := hid hgrew
              clear hown2 hgrew
              go_roundw
              case rel =>
                refine ⟨j + 1, by omega, by go_num, HG2.out.below (HB.out.alloc (by omega) _) (by simp; omega) (fun k hk => (HO.out.lt k hk).1), ?_⟩
                rw [List.take_succ_eq_append_getElem HLT.out, List.map_append, List.map_singleton, ← HLJ.out, HVAL.out]
                exact HO2.out
              case measure => simp [intOf]; omega
      · subst k3
        go_wp2_with (at_builtin; go_must (refine wpList_app1 rfl (.tmp 14) (.tmp 24) 28 rfl w.heap.size 3 1 8 tyNums numR_lasts (A := fun _ => True) (.slice xa j xc) ((l.take j).map (tabF T)) rfl HOR.out tq [.int .i64 tq] rfl rfl ⟨HDI.out, rfl⟩ ⟨by simp; omega, hzr⟩ ?_); go_must (intro v2 w2 hown2 hgrew))
        all_goals
          have HO2 := hid (OwnF.of_ownR hown2)
          have HG2 := hid hgrew
          clear hown2 hgrew
          go_roundw
          case rel =>
            refine ⟨j + 1, by omega, by go_num, HG2.out.below (HB.out.alloc (by omega) _) (by simp; omega) (fun k hk => (HO.out.lt k hk).1), ?_⟩
            rw [List.take_succ_eq_append_getElem HLT.out, List.map_append, List.map_singleton, ← HLJ.out, HVAL.out]
            exact HO2.out
          case measure => simp [intOf]; omega
      · have d1 : wr.cell? ⟨ub, uoff + ((T.length : Int) - 1).toNat, none⟩ = some (.int .i64 tq) := by rw [← k3, Int.toNat_natCast]; exact d0
        have d2 : wr.cell? ⟨ub, uoff + (T.length - 1), none⟩ = some (.int .i64 tq) := by rw [show T.length - 1 = q by omega]; exact d0
        have HK3 := hid k3
        have hTm : (0 : Int) ≤ (T.length : Int) - 1 := by omega
        have d3 : (wr.cell? ⟨ub, uoff, none⟩ = some (.int .i64 tq) ∧ (T.length : Int) - 1 ≤ 0) ∨ 0 < (T.length : Int) - 1 := by
          by_cases h1 : T.length = 1
          · left; refine ⟨?_, by omega⟩
            rw [show q = 0 by omega] at d0
            exact d0
          · right; omega
        clear k3 d0 hq0 hq1
        rcases d3 with ⟨d3, d4⟩ | d3
        · rcases Int.lt_or_eq_of_le k2 with k2 | k2
          · go_wp2_with (at_builtin; go_must (refine wpList_app1 rfl (.tmp 14) (.tmp 24) 28 rfl w.heap.size 3 1 8 tyNums numR_lasts (A := fun _ => True) (.slice xa j xc) ((l.take j).map (tabF T)) rfl HOR.out tq [.int .i64 tq] rfl rfl ⟨HDI.out, rfl⟩ ⟨by simp; omega, hzr⟩ ?_); go_must (intro v2 w2 hown2 hgrew))
            all_goals
              have HO2 := hid (OwnF.of_ownR hown2)
              have HG2 := hid hgrew
              clear hown2 hgrew
              go_roundw
              case rel =>
                refine ⟨j + 1, by omega, by go_num, HG2.out.below (HB.out.alloc (by omega) _) (by simp; omega) (fun k hk => (HO.out.lt k hk).1), ?_⟩
                rw [List.take_succ_eq_append_getElem HLT.out, List.map_append, List.map_singleton, ← HLJ.out, HVAL.out]
                exact HO2.out
              case measure => simp [intOf]; omega
          · have k4 : ¬ lj < (T.length : Int) - 1 := by omega
            go_wp2_with (at_builtin; go_must (refine wpList_app1 rfl (.tmp 14) (.tmp 24) 28 rfl w.heap.size 3 1 8 tyNums numR_lasts (A := fun _ => True) (.slice xa j xc) ((l.take j).map (tabF T)) rfl HOR.out tq [.int .i64 tq] rfl rfl ⟨HDI.out, rfl⟩ ⟨by simp; omega, hzr⟩ ?_); go_must (intro v2 w2 hown2 hgrew))
            all_goals
              have HO2 := hid (OwnF.of_ownR hown2)
              have HG2 := hid hgrew
              clear hown2 hgrew
              go_roundw
              case rel =>
                refine ⟨j + 1, by omega, by go_num, HG2.out.below (HB.out.alloc (by omega) _) (by simp; omega) (fun k hk => (HO.out.lt k hk).1), ?_⟩
                rw [List.take_succ_eq_append_getElem HLT.out, List.map_append, List.map_singleton, ← HLJ.out, HVAL.out]
                exact HO2.out
              case measure => simp [intOf]; omega
        · rcases Int.lt_or_eq_of_le k2 with k2 | k2
          · go_wp2_with (at_builtin; go_must (refine wpList_app1 rfl (.tmp 14) (.tmp 24) 28 rfl w.heap.size 3 1 8 tyNums numR_lasts (A := fun _ => True) (.slice xa j xc) ((l.take j).map (tabF T)) rfl HOR.out tq [.int .i64 tq] rfl rfl ⟨HDI.out, rfl⟩ ⟨by simp; omega, hzr⟩ ?_); go_must (intro v2 w2 hown2 hgrew))
            all_goals
              have HO2 := hid (OwnF.of_ownR hown2)
              have HG2 := hid hgrew
              clear hown2 hgrew
              go_roundw
              case rel =>
                refine ⟨j + 1, by omega, by go_num, HG2.out.below (HB.out.alloc (by omega) _) (by simp; omega) (fun k hk => (HO.out.lt k hk).1), ?_⟩
                rw [List.take_succ_eq_append_getElem HLT.out, List.map_append, List.map_singleton, ← HLJ.out, HVAL.out]
                exact HO2.out
              case measure => simp [intOf]; omega
          · subst k2
            go_wp2_with (at_builtin; go_must (refine wpList_app1 rfl (.tmp 14) (.tmp 24) 28 rfl w.heap.size 3 1 8 tyNums numR_lasts (A := fun _ => True) (.slice xa j xc) ((l.take j).map (tabF T)) rfl HOR.out tq [.int .i64 tq] rfl rfl ⟨HDI.out, rfl⟩ ⟨by simp; omega, hzr⟩ ?_); go_must (intro v2 w2 hown2 hgrew))
            all_goals
              have HO2 := hid (OwnF.of_ownR hown2)
              have HG2 := hid hgrew
              clear hown2 hgrew
              go_roundw
              case rel =>
                refine ⟨j + 1, by omega, by go_num, HG2.out.below (HB.out.alloc (by omega) _) (by simp; omega) (fun k hk => (HO.out.lt k hk).1), ?_⟩
                rw [List.take_succ_eq_append_getElem HLT.out, List.map_append, List.map_singleton, ← HLJ.out, HVAL.out]
                exact HO2.out
              case measure => simp [intOf]; omega
    · have hje : j = l.length := by omega
      subst hje
      rw [List.take_of_length_le (Nat.le_refl _)] at HO
      go_wp2_with fail
      go_ret
      exact ⟨_, rfl, HB.out, HO.out⟩
end Go.Proofs.Ytlpmfkpefoegeab
