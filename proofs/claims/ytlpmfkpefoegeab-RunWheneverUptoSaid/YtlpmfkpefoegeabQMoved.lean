/-
  heap.moved: where numbers are by a table.
-/
import Derived.Test.YtlpmfkpefoegeabQMach3
import Derived.Test.YtlpmfkpefoegeabQBack
import Derived.Test.YtlpmfkpefoegeabQClone
import Derived.Test.YtlpmfkpefoegeabQCopyHeap
import Derived.Test.YtlpmfkpefoegeabHCol
namespace Go.Proofs.Ytlpmfkpefoegeab
set_option linter.unusedVariables false
set_option linter.unusedSimpArgs false
open Go.RowKit
section
variable {base : Nat} {P : List Cl} {q g : Nat} {pv hc ht : Value} {o : Mo} {m : Mv} {w : World}
set_option maxRecDepth 100000 in
set_option maxHeartbeats 4000000 in
theorem mnumber_ok (a : Int) (ha : I64 a) (hl : 0 ≤ look m.h.cells a) (h : MvI base P q g pv hc ht o m w) :
    Calls Try.prog 84 #[.pointer (some ⟨g, 0, none⟩), .int .i64 a] w (fun e w' => e = .returned (.tuple #[.int .i64 (cellAt m.h.cells (look m.h.cells a)).n, .bool (decide ((cellAt m.h.cells (look m.h.cells a)).kind = 2))]) ∧ Below w.heap.size w w') := by
  have HU := hid h
  have HLK := hid (fun (W : World) (hb : Below w.heap.size w W) => look_ok m.h a ha (MA g o) W _ (h.heap.below hb))
  obtain ⟨hl1, hl2⟩ := h.lt
  obtain ⟨b0, b1, b2, b3, b4, b5, b6, b7, b8, b9, bf⟩ := box10 h.box
  obtain ⟨_, _, _, _, _, _, _, _, ha0, hac, hb0, hbc, -, -, -, -, rfl, rfl, -⟩ := h.vals
  obtain ⟨k, hka, hkl, hce⟩ := cellAt_eq (look_end hl).1
  rw [hce]
  obtain ⟨c, t, e0, hcs0, -⟩ := h.heap
  simp only [List.cons.injEq, and_true] at e0
  obtain ⟨rfl, rfl⟩ := e0
  obtain ⟨_, _, hb1, hoff, e9, hh1, hh2, hh3, hha, hhe⟩ := SlR.at hcs0
  simp only [Value.slice.injEq, true_and] at e9
  obtain ⟨rfl, rfl⟩ := e9
  obtain ⟨rfl, hAb⟩ := hha (by omega)
  have HA0 := hid (fun (W : World) (hb : Below w.heap.size w W) => (show W.cell? ⟨g, 1, none⟩ = some (.slice (some ⟨hb1, hoff, none⟩) m.h.cells.length hac) ∧ W.cell? ⟨g, 2, none⟩ = some (.slice hb0 m.h.trail.length hbc) ∧ W.cell? ⟨hb1, hoff + k * 3, none⟩ = some (.int .i64 (m.h.cells[k]).kind) ∧ W.cell? ⟨hb1, hoff + k * 3 + 1, none⟩ = some (.int .i64 (m.h.cells[k]).n) ∧ W.cell? ⟨hb1, hoff + k * 3 + 2, none⟩ = some (.string (m.h.cells[k]).s) ∧ hb1 < W.heap.size from by
    obtain ⟨c0, c1, c2, -⟩ := ce_cells hhe hAb (Keeps.of_below hb) hkl
    exact ⟨bc hb b1, bc hb b2, c0, c1, c2, World.block_lt_of_cell? W _ c0⟩))
  have HLK2 := hid (fun (W : World) (hb : Below w.heap.size w W) => (HLK.out W hb).mono (R' := fun e w1 => e = .returned (.int .i64 (k : Int)) ∧ Below W.heap.size W w1 ∧ True) (by
    rintro e w1 ⟨v, rfl, hbb, hv⟩
    refine ⟨?_, hbb, trivial⟩
    rw [show v = .int .i64 (look m.h.cells a) from hv, hka]))
  have hk0 : (0 : Int) ≤ (k : Int) := Int.natCast_nonneg _
  have hk1 : (k : Int) < (m.h.cells.length : Int) := by omega
  unfold maxLen at hh2
  clear h hcs0 hha hhe hce hl hka HLK b0 b1 b2 b3 b4 b5 b6 b7 b8 b9 bf
  go_enter Try.func84, Try.ntmps84
  go_wp2_with fail
  refine wp_region_front 14 (Inv := fun w' => Below w.heap.size w w') (Po := posts [IsV (.pointer (some ⟨g, 0, none⟩)), IsV (.pointer (some ⟨g, 0, none⟩)), IsV (.pointer (some ⟨g, 1, none⟩)), IsV (.pointer (some ⟨g, 1, none⟩)), IsV (.slice (some ⟨hb1, hoff, none⟩) m.h.cells.length hac), IsV (.pointer (some ⟨g, 0, none⟩)), IsV (.pointer (some ⟨g, 0, none⟩)), IsV (.pointer (some ⟨g, 1, none⟩)), IsV (.agg #[.slice (some ⟨hb1, hoff, none⟩) m.h.cells.length hac, .slice hb0 m.h.trail.length hbc]), IsV (.int .i64 a), IsV (.int .i64 (k : Int)), IsV (.pointer (some ⟨hb1, hoff + k * 3, none⟩)), IsV (.agg #[.int .i64 (m.h.cells[k]).kind, .int .i64 (m.h.cells[k]).n, .string (m.h.cells[k]).s]), IsBox w.heap.size 71 #[.int .i64 0, .int .i64 0, .string ByteArray.empty]]) (Rl := fun w w' => Below w.heap.size w w') (by kernel_rfl) (by kernel_rfl) (by kernel_rfl) (by kernel_rfl) ((Below.refl _ _).drew) ?_ ?_ ?_ ?_
  · refine posts_stay fun R hR => ?_
    simp only [List.mem_cons, List.not_mem_nil, or_false] at hR
    rcases hR with rfl | rfl | rfl | rfl | rfl | rfl | rfl | rfl | rfl | rfl | rfl | rfl | rfl | rfl <;> first | exact stays_V _ | exact stays_any | exact stays_B _ | exact stays_Tm _ | exact stays_Tms _ | exact stays_Cs _ | exact stays_Ns _ | exact stays_Bs _ | exact stays_Hp _ | exact stays_OC _ _ | exact stays_ON _ _ | exact stays_Box _ _ _
  · exact fun w1 w2 h h' => h.trans (h'.mono h.size)
  · intro i o ho f ac ww hinv hpo hdst hold
    match i, ho with
      | 0, ho =>
        obtain rfl : _ = o := Option.some.inj ho
        have t0 := hold 0 (by kernel_rfl)
        refine Or.inl ⟨want0 rfl, ?_⟩
        clear hdst hpo hold ho
        clear hinv
        unfold Ans
        go_simp
        exact ⟨rfl, Below.refl _ _⟩
      | 1, ho =>
        obtain rfl : _ = o := Option.some.inj ho
        have t7 : ac.tmps[7]? = some (f 0) := hdst 0 7 (by kernel_rfl) (by kernel_rfl)
        have p0 : (IsV (.pointer (some ⟨g, 0, none⟩))) (f 0) ww := hpo 0 (by kernel_rfl)
        refine Or.inl ⟨want0 rfl, ?_⟩
        clear hdst hpo hold ho
        rw [show f 0 = _ from p0] at t7
        clear hinv
        unfold Ans
        go_simp
        exact ⟨rfl, Below.refl _ _⟩
      | 2, ho =>
        obtain rfl : _ = o := Option.some.inj ho
        have t8 : ac.tmps[8]? = some (f 1) := hdst 1 8 (by kernel_rfl) (by kernel_rfl)
        have p1 : (IsV (.pointer (some ⟨g, 0, none⟩))) (f 1) ww := hpo 1 (by kernel_rfl)
        refine Or.inl ⟨want0 rfl, ?_⟩
        clear hdst hpo hold ho
        rw [show f 1 = _ from p1] at t8
        clear hinv
        unfold Ans
        go_simp
        exact ⟨rfl, Below.refl _ _⟩
      | 3, ho =>
        obtain rfl : _ = o := Option.some.inj ho
        have t9 : ac.tmps[9]? = some (f 2) := hdst 2 9 (by kernel_rfl) (by kernel_rfl)
        have p2 : (IsV (.pointer (some ⟨g, 1, none⟩))) (f 2) ww := hpo 2 (by kernel_rfl)
        refine Or.inl ⟨want0 rfl, ?_⟩
        clear hdst hpo hold ho
        rw [show f 2 = _ from p2] at t9
        clear hinv
        unfold Ans
        go_simp
        exact ⟨rfl, Below.refl _ _⟩
      | 4, ho =>
        obtain rfl : _ = o := Option.some.inj ho
        have t10 : ac.tmps[10]? = some (f 3) := hdst 3 10 (by kernel_rfl) (by kernel_rfl)
        have p3 : (IsV (.pointer (some ⟨g, 1, none⟩))) (f 3) ww := hpo 3 (by kernel_rfl)
        refine Or.inl ⟨want0 rfl, ?_⟩
        clear hdst hpo hold ho
        rw [show f 3 = _ from p3] at t10
        obtain ⟨b1, b2, c0, c1, c2, hbl⟩ := HA0.out ww hinv
        unfold Ans
        go_simp
        exact ⟨rfl, Below.refl _ _⟩
      | 5, ho =>
        obtain rfl : _ = o := Option.some.inj ho
        have t0 := hold 0 (by kernel_rfl)
        refine Or.inl ⟨want0 rfl, ?_⟩
        clear hdst hpo hold ho
        clear hinv
        unfold Ans
        go_simp
        exact ⟨rfl, Below.refl _ _⟩
      | 6, ho =>
        obtain rfl : _ = o := Option.some.inj ho
        have t12 : ac.tmps[12]? = some (f 5) := hdst 5 12 (by kernel_rfl) (by kernel_rfl)
        have p5 : (IsV (.pointer (some ⟨g, 0, none⟩))) (f 5) ww := hpo 5 (by kernel_rfl)
        refine Or.inl ⟨want0 rfl, ?_⟩
        clear hdst hpo hold ho
        rw [show f 5 = _ from p5] at t12
        clear hinv
        unfold Ans
        go_simp
        exact ⟨rfl, Below.refl _ _⟩
      | 7, ho =>
        obtain rfl : _ = o := Option.some.inj ho
        have t13 : ac.tmps[13]? = some (f 6) := hdst 6 13 (by kernel_rfl) (by kernel_rfl)
        have p6 : (IsV (.pointer (some ⟨g, 0, none⟩))) (f 6) ww := hpo 6 (by kernel_rfl)
        refine Or.inl ⟨want0 rfl, ?_⟩
        clear hdst hpo hold ho
        rw [show f 6 = _ from p6] at t13
        clear hinv
        unfold Ans
        go_simp
        exact ⟨rfl, Below.refl _ _⟩
      | 8, ho =>
        obtain rfl : _ = o := Option.some.inj ho
        have t14 : ac.tmps[14]? = some (f 7) := hdst 7 14 (by kernel_rfl) (by kernel_rfl)
        have p7 : (IsV (.pointer (some ⟨g, 1, none⟩))) (f 7) ww := hpo 7 (by kernel_rfl)
        refine Or.inl ⟨want0 rfl, ?_⟩
        clear hdst hpo hold ho
        rw [show f 7 = _ from p7] at t14
        obtain ⟨b1, b2, c0, c1, c2, hbl⟩ := HA0.out ww hinv
        unfold Ans
        go_simp
        exact ⟨rfl, Below.refl _ _⟩
      | 9, ho =>
        obtain rfl : _ = o := Option.some.inj ho
        have t1 := hold 1 (by kernel_rfl)
        refine Or.inl ⟨want0 rfl, ?_⟩
        clear hdst hpo hold ho
        clear hinv
        unfold Ans
        go_simp
        exact ⟨rfl, Below.refl _ _⟩
      | 10, ho =>
        obtain rfl : _ = o := Option.some.inj ho
        have t15 : ac.tmps[15]? = some (f 8) := hdst 8 15 (by kernel_rfl) (by kernel_rfl)
        have p8 : (IsV (.agg #[.slice (some ⟨hb1, hoff, none⟩) m.h.cells.length hac, .slice hb0 m.h.trail.length hbc])) (f 8) ww := hpo 8 (by kernel_rfl)
        have t16 : ac.tmps[16]? = some (f 9) := hdst 9 16 (by kernel_rfl) (by kernel_rfl)
        have p9 : (IsV (.int .i64 a)) (f 9) ww := hpo 9 (by kernel_rfl)
        refine Or.inl ⟨want0 rfl, ?_⟩
        clear hdst hpo hold ho
        rw [show f 8 = _ from p8] at t15
        rw [show f 9 = _ from p9] at t16
        unfold Ans
        go_simp
        refine (HLK2.out ww hinv).mono ?_
        rintro e w1 ⟨rfl, hb1', -⟩
        exact ⟨_, rfl, rfl, hb1'⟩
      | 11, ho =>
        obtain rfl : _ = o := Option.some.inj ho
        have t11 : ac.tmps[11]? = some (f 4) := hdst 4 11 (by kernel_rfl) (by kernel_rfl)
        have p4 : (IsV (.slice (some ⟨hb1, hoff, none⟩) m.h.cells.length hac)) (f 4) ww := hpo 4 (by kernel_rfl)
        have t17 : ac.tmps[17]? = some (f 10) := hdst 10 17 (by kernel_rfl) (by kernel_rfl)
        have p10 : (IsV (.int .i64 (k : Int))) (f 10) ww := hpo 10 (by kernel_rfl)
        refine Or.inl ⟨want0 rfl, ?_⟩
        clear hdst hpo hold ho
        rw [show f 4 = _ from p4] at t11
        rw [show f 10 = _ from p10] at t17
        clear hinv
        unfold Ans
        go_simp
        exact ⟨rfl, Below.refl _ _⟩
      | 12, ho =>
        obtain rfl : _ = o := Option.some.inj ho
        have t18 : ac.tmps[18]? = some (f 11) := hdst 11 18 (by kernel_rfl) (by kernel_rfl)
        have p11 : (IsV (.pointer (some ⟨hb1, hoff + k * 3, none⟩))) (f 11) ww := hpo 11 (by kernel_rfl)
        refine Or.inl ⟨want0 rfl, ?_⟩
        clear hdst hpo hold ho
        rw [show f 11 = _ from p11] at t18
        obtain ⟨b1, b2, c0, c1, c2, hbl⟩ := HA0.out ww hinv
        unfold Ans
        go_simp
        exact ⟨rfl, Below.refl _ _⟩
      | 13, ho =>
        obtain rfl : _ = o := Option.some.inj ho
        refine Or.inl ⟨want0 rfl, ?_⟩
        clear hdst hpo hold ho
        unfold Ans
        go_simp
        exact ⟨⟨_, rfl, hinv.size, blk_new _ _⟩, (Below.refl _ _).alloc (Nat.le_refl _) _⟩
      | i + 14, ho => simp at ho
  · intro f ww hinv hpo
    have p12 : (IsV (.agg #[.int .i64 (m.h.cells[k]).kind, .int .i64 (m.h.cells[k]).n, .string (m.h.cells[k]).s])) (f 12) ww := hpo 12 (by decide)
    have p13 : (IsBox w.heap.size 71 #[.int .i64 0, .int .i64 0, .string ByteArray.empty]) (f 13) ww := hpo 13 (by decide)
    obtain ⟨xb, e13, hxb, hxx⟩ := p13
    simp only [fillT, List.take_succ_cons, List.take_zero, List.setIfInBounds_toArray, List.set_cons_succ, List.set_cons_zero]
    rw [show f 12 = _ from p12, e13]
    have HBW := hid hinv
    have HXX := hid hxx
    have hxl := blk_lt hxx
    obtain ⟨y0, y1, y2, yf⟩ := box3 hxx
    clear hinv hpo p12 e13 hxx
    refine wpAny_only (i := 14) (by kernel_rfl) (wpOp_run rfl (by rfl) ?_)
    go_simp
    refine wpAny_all (by kernel_rfl) ?_ _
    obtain ⟨W2, hW2⟩ : ∃ W2, W2 = ((ww.setCell ⟨xb, 0, none⟩ (.int .i64 (m.h.cells[k]).kind)).setCell ⟨xb, 1, none⟩ (.int .i64 (m.h.cells[k]).n)).setCell ⟨xb, 2, none⟩ (.string (m.h.cells[k]).s) := ⟨_, rfl⟩
    have HB2 := hid (show Below w.heap.size w W2 by rw [hW2]; exact ((HBW.out.setCell hxb _).setCell hxb _).setCell hxb _)
    have HX2 := hid (show W2.heap[xb]? = some (.cells #[.int .i64 (m.h.cells[k]).kind, .int .i64 (m.h.cells[k]).n, .string (m.h.cells[k]).s] 71 (0, 0)) by rw [hW2]; exact (blk_set (blk_set (blk_set HXX.out 0 _) 1 _) 2 _).trans rfl)
    rw [← hW2]
    clear hW2 y0 y1 y2 yf HXX
    obtain ⟨y0, y1, y2, -⟩ := box3 HX2.out
    have hxl2 := blk_lt HX2.out
    go_wp2_with fail
    go_quiet (fail)
    have HB3 := hid (show Below w.heap.size w (W2.drewN nq) from HB2.out.trans ⟨rfl, rfl, rfl, Nat.le_refl _, fun _ _ => rfl⟩)
    generalize W2.drewN nq = W3 at *
    go_wp2_with fail
    go_ret2
    exact ⟨rfl, HB3.out⟩
end
def tabF (T : List Int) (n : Int) : Int := (T[(max 0 (min n ((T.length : Int) - 1))).toNat]?).getD 0
set_option maxRecDepth 100000 in
set_option maxHeartbeats 2000000 in
theorem moved_ok (T l : List Int) (hT : 0 < T.length) (A : Nat → Prop) (w : World) (u v : Value) (hu : NumsR A w T u) (hv : NumsR A w l v) :
    Calls Try.prog 37 #[u, v] w (Pure w (OwnP numV I64 3 1 w.heap.size (l.map (tabF T)))) := by
  obtain ⟨ua, ucap, ub, uoff, rfl, hu1, hu2, hu3, hua, hue⟩ := hu.at
  obtain ⟨va, vcap, vb, voff, rfl, hv1, hv2, hv3, hva, hve⟩ := hv.at
  obtain ⟨rfl, hAu⟩ := hua hT
  have HUE := hid hue
  have HVA := hid hva
  have HVE := hid hve
  have HAU := hid hAu
  have hT1 : (1 : Int) ≤ (T.length : Int) := by omega
  have hT2 : (T.length : Int) ≤ 1048576 := by omega
  clear hu hv hua hue hva hve
  go_enter Try.func37, Try.ntmps37
  go_wp2_with fail
  go_loopw [10, 5] (fun i x wr => ∃ j : Nat, j ≤ l.length ∧ i = .int .i64 (j : Int) ∧ Below w.heap.size w wr ∧ OwnN wr w.heap.size ((l.take j).map (tabF T)) x) (fun i _ _ => l.length - (intOf i).toNat)
  case atStart => exact ⟨0, Nat.zero_le _, rfl, Below.refl _ _, by rw [List.take_zero]; exact OwnF.nil⟩
  case round =>
    obtain ⟨j, hj, rfl, hb, hown⟩ := hrel
    have HB := hid hb
    have HO := hid hown
    have hzr := hb.size
    obtain ⟨xa, xc, rfl, hxl, hxm⟩ := OwnF.val hown
    have hxlen : ((l.take j).map (tabF T)).length = j := by simp; omega
    rw [hxlen] at HO hxl ⊢
    by_cases hlt : j < l.length
    · obtain ⟨rfl, hAv⟩ := HVA.out (by omega)
      obtain ⟨c0, ci⟩ := num_cell HVE.out hAv (Keeps.of_below hb) hlt
      have hlt' : (j : Int) < (l.length : Int) := by omega
      have HLT := hid hlt
      obtain ⟨lj, hlj⟩ : ∃ x : Int, x = l[j]'hlt := ⟨_, rfl⟩
      rw [← hlj] at c0 ci
      have HLJ := hid hlj
      clear hlj
      -- the place in the table
      obtain ⟨q, hq⟩ : ∃ q : Nat, (q : Int) = max 0 (min lj ((T.length : Int) - 1)) := ⟨(max 0 (min lj ((T.length : Int) - 1))).toNat, by omega⟩
      have hqT : q < T.length := by omega
      obtain ⟨d0, di⟩ := num_cell HUE.out HAU.out (Keeps.of_below hb) hqT
      have hval : tabF T lj = T[q] := by
        unfold tabF
        rw [← hq, Int.toNat_natCast, List.getElem?_eq_getElem hqT]
        rfl
      have HVAL := hid hval
      have HOR := hid (OwnF.ownR numV_len HO.out (fun _ => True))
      have hq0 : (0 : Int) ≤ (q : Int) := Int.natCast_nonneg _
      have hq1 : (q : Int) < (T.length : Int) := by omega
      have HDI := hid di
      obtain ⟨tq, htq⟩ : ∃ x : Int, x = T[q]'hqT := ⟨_, rfl⟩
      rw [← htq] at d0 hval HVAL HDI
      clear htq
      have hcases : (lj ≤ 0 ∧ (q : Int) = 0) ∨ (0 < lj ∧ lj < (T.length : Int) - 1 ∧ (q : Int) = lj) ∨ (0 < lj ∧ (T.length : Int) - 1 ≤ lj ∧ (q : Int) = (T.length : Int) - 1) := by omega
      clear hb hown hval di ci hq
      rcases hcases with ⟨k1, k2⟩ | ⟨k1, k2, k3⟩ | ⟨k1, k2, k3⟩
      · obtain rfl : q = 0 := by omega
        simp only [Nat.add_zero] at d0
        rcases Int.lt_or_eq_of_le k1 with k1 | rfl
        · go_wp2_with (at_builtin; go_must (refine wpList_app1 rfl (.tmp 14) (.tmp 24) 28 rfl w.heap.size 3 1 8 tyNums numR_lasts (A := fun _ => True) (.slice xa j xc) ((l.take j).map (tabF T)) rfl HOR.out tq [.int .i64 tq] rfl rfl ⟨HDI.out, rfl⟩ ⟨by simp; omega, hzr⟩ ?_); go_must (intro v2 w2 hown2 hgrew))
          all_goals
            have HO2 := hid (OwnF.of_ownR hown2)
            have HG2 := hid hgrew
            clear hown2 hgrew
            go_roundw
            case rel =>
              refine ⟨j + 1, by omega, by go_num, HG2.out.below (HB.out.alloc (by omega) _) (by simp; omega) (fun k hk => (HO.out.lt k hk).1), ?_⟩
              rw [List.take_succ_eq_append_getElem HLT.out, List.map_append, List.map_singleton, ← HLJ.out, HVAL.out]
              exact HO2.out
            case measure => simp [intOf]; omega
        · have d1 : wr.cell? ⟨ub, uoff + ((T.length : Int) - 1).toNat, none⟩ = some (.int .i64 tq) ∨ 0 < (T.length : Int) - 1 := by
            by_cases h1 : T.length = 1
            · left; rw [h1]; exact d0
            · right; omega
          rcases d1 with d1 | d1
          · go_wp2_with (at_builtin; go_must (refine wpList_app1 rfl (.tmp 14) (.tmp 24) 28 rfl w.heap.size 3 1 8 tyNums numR_lasts (A := fun _ => True) (.slice xa j xc) ((l.take j).map (tabF T)) rfl HOR.out tq [.int .i64 tq] rfl rfl ⟨HDI.out, rfl⟩ ⟨by simp; omega, hzr⟩ ?_); go_must (intro v2 w2 hown2 hgrew))
            all_goals
              have HO2 := hid (OwnF.of_ownR hown2)
              have HG2 := hid hgrew
              clear hown2 hgrew
              go_roundw
              case rel =>
                refine ⟨j + 1, by omega, by go_num, HG2.out.below (HB.out.alloc (by omega) _) (by simp; omega) (fun k hk => (HO.out.lt k hk).1), ?_⟩
                rw [List.take_succ_eq_append_getElem HLT.out, List.map_append, List.map_singleton, ← HLJ.out, HVAL.out]
                exact HO2.out
              case measure => simp [intOf]; omega
          · go_wp2_with (at_builtin; go_must (refine wpList_app1 rfl (.tmp 14) (.tmp 24) 28 rfl w.heap.size 3 1 8 tyNums numR_lasts (A := fun _ => True) (.slice xa j xc) ((l.take j).map (tabF T)) rfl HOR.out tq [.int .i64 tq] rfl rfl ⟨HDI.out, rfl⟩ ⟨by simp; omega, hzr⟩ ?_); go_must (intro v2 w2 hown2 hgrew))
            all_goals
              have HO2 := hid (OwnF.of_ownR hown2)
              have HG2 := hid hgrew
              clear hown2 hgrew
              go_roundw
              case rel =>
                refine ⟨j + 1, by omega, by go_num, HG2.out.below (HB.out.alloc (by omega) _) (by simp; omega) (fun k hk => (HO.out.lt k hk).1), ?_⟩
                rw [List.take_succ_eq_append_getElem HLT.out, List.map_append, List.map_singleton, ← HLJ.out, HVAL.out]
                exact HO2.out
              case measure => simp [intOf]; omega
      · subst k3
        go_wp2_with (at_builtin; go_must (refine wpList_app1 rfl (.tmp 14) (.tmp 24) 28 rfl w.heap.size 3 1 8 tyNums numR_lasts (A := fun _ => True) (.slice xa j xc) ((l.take j).map (tabF T)) rfl HOR.out tq [.int .i64 tq] rfl rfl ⟨HDI.out, rfl⟩ ⟨by simp; omega, hzr⟩ ?_); go_must (intro v2 w2 hown2 hgrew))
        all_goals
          have HO2 := hid (OwnF.of_ownR hown2)
          have HG2 := hid hgrew
          clear hown2 hgrew
          go_roundw
          case rel =>
            refine ⟨j + 1, by omega, by go_num, HG2.out.below (HB.out.alloc (by omega) _) (by simp; omega) (fun k hk => (HO.out.lt k hk).1), ?_⟩
            rw [List.take_succ_eq_append_getElem HLT.out, List.map_append, List.map_singleton, ← HLJ.out, HVAL.out]
            exact HO2.out
          case measure => simp [intOf]; omega
      · have d1 : wr.cell? ⟨ub, uoff + ((T.length : Int) - 1).toNat, none⟩ = some (.int .i64 tq) := by rw [← k3, Int.toNat_natCast]; exact d0
        have d2 : wr.cell? ⟨ub, uoff + (T.length - 1), none⟩ = some (.int .i64 tq) := by rw [show T.length - 1 = q by omega]; exact d0
        have HK3 := hid k3
        have hTm : (0 : Int) ≤ (T.length : Int) - 1 := by omega
        have d3 : (wr.cell? ⟨ub, uoff, none⟩ = some (.int .i64 tq) ∧ (T.length : Int) - 1 ≤ 0) ∨ 0 < (T.length : Int) - 1 := by
          by_cases h1 : T.length = 1
          · left; refine ⟨?_, by omega⟩
            rw [show q = 0 by omega] at d0
            exact d0
          · right; omega
        clear k3 d0 hq0 hq1
        rcases d3 with ⟨d3, d4⟩ | d3
        · rcases Int.lt_or_eq_of_le k2 with k2 | k2
          · go_wp2_with (at_builtin; go_must (refine wpList_app1 rfl (.tmp 14) (.tmp 24) 28 rfl w.heap.size 3 1 8 tyNums numR_lasts (A := fun _ => True) (.slice xa j xc) ((l.take j).map (tabF T)) rfl HOR.out tq [.int .i64 tq] rfl rfl ⟨HDI.out, rfl⟩ ⟨by simp; omega, hzr⟩ ?_); go_must (intro v2 w2 hown2 hgrew))
            all_goals
              have HO2 := hid (OwnF.of_ownR hown2)
              have HG2 := hid hgrew
              clear hown2 hgrew
              go_roundw
              case rel =>
                refine ⟨j + 1, by omega, by go_num, HG2.out.below (HB.out.alloc (by omega) _) (by simp; omega) (fun k hk => (HO.out.lt k hk).1), ?_⟩
                rw [List.take_succ_eq_append_getElem HLT.out, List.map_append, List.map_singleton, ← HLJ.out, HVAL.out]
                exact HO2.out
              case measure => simp [intOf]; omega
          · have k4 : ¬ lj < (T.length : Int) - 1 := by omega
            go_wp2_with (at_builtin; go_must (refine wpList_app1 rfl (.tmp 14) (.tmp 24) 28 rfl w.heap.size 3 1 8 tyNums numR_lasts (A := fun _ => True) (.slice xa j xc) ((l.take j).map (tabF T)) rfl HOR.out tq [.int .i64 tq] rfl rfl ⟨HDI.out, rfl⟩ ⟨by simp; omega, hzr⟩ ?_); go_must (intro v2 w2 hown2 hgrew))
            all_goals
              have HO2 := hid (OwnF.of_ownR hown2)
              have HG2 := hid hgrew
              clear hown2 hgrew
              go_roundw
              case rel =>
                refine ⟨j + 1, by omega, by go_num, HG2.out.below (HB.out.alloc (by omega) _) (by simp; omega) (fun k hk => (HO.out.lt k hk).1), ?_⟩
                rw [List.take_succ_eq_append_getElem HLT.out, List.map_append, List.map_singleton, ← HLJ.out, HVAL.out]
                exact HO2.out
              case measure => simp [intOf]; omega
        · rcases Int.lt_or_eq_of_le k2 with k2 | k2
          · go_wp2_with (at_builtin; go_must (refine wpList_app1 rfl (.tmp 14) (.tmp 24) 28 rfl w.heap.size 3 1 8 tyNums numR_lasts (A := fun _ => True) (.slice xa j xc) ((l.take j).map (tabF T)) rfl HOR.out tq [.int .i64 tq] rfl rfl ⟨HDI.out, rfl⟩ ⟨by simp; omega, hzr⟩ ?_); go_must (intro v2 w2 hown2 hgrew))
            all_goals
              have HO2 := hid (OwnF.of_ownR hown2)
              have HG2 := hid hgrew
              clear hown2 hgrew
              go_roundw
              case rel =>
                refine ⟨j + 1, by omega, by go_num, HG2.out.below (HB.out.alloc (by omega) _) (by simp; omega) (fun k hk => (HO.out.lt k hk).1), ?_⟩
                rw [List.take_succ_eq_append_getElem HLT.out, List.map_append, List.map_singleton, ← HLJ.out, HVAL.out]
                exact HO2.out
              case measure => simp [intOf]; omega
          · subst k2
            go_wp2_with (at_builtin; go_must (refine wpList_app1 rfl (.tmp 14) (.tmp 24) 28 rfl w.heap.size 3 1 8 tyNums numR_lasts (A := fun _ => True) (.slice xa j xc) ((l.take j).map (tabF T)) rfl HOR.out tq [.int .i64 tq] rfl rfl ⟨HDI.out, rfl⟩ ⟨by simp; omega, hzr⟩ ?_); go_must (intro v2 w2 hown2 hgrew))
            all_goals
              have HO2 := hid (OwnF.of_ownR hown2)
              have HG2 := hid hgrew
              clear hown2 hgrew
              go_roundw
              case rel =>
                refine ⟨j + 1, by omega, by go_num, HG2.out.below (HB.out.alloc (by omega) _) (by simp; omega) (fun k hk => (HO.out.lt k hk).1), ?_⟩
                rw [List.take_succ_eq_append_getElem HLT.out, List.map_append, List.map_singleton, ← HLJ.out, HVAL.out]
                exact HO2.out
              case measure => simp [intOf]; omega
    · have hje : j = l.length := by omega
      subst hje
      rw [List.take_of_length_le (Nat.le_refl _)] at HO
      go_wp2_with fail
      go_ret
      exact ⟨_, rfl, HB.out, HO.out⟩
end Go.Proofs.Ytlpmfkpefoegeab
