/-
  The solver: known: less, add.
-/
import Derived.Test.YtlpmfkpefoegeabDoorQSolveN
import Derived.Test.YtlpmfkpefoegeabDoorQProvM
import Derived.Test.YtlpmfkpefoegeabDoorQRead
namespace Go.Proofs.YtlpmfkpefoegeabDoor
set_option linter.unusedVariables false
set_option linter.unusedSimpArgs false
open Go.RowKit
def IsTA (A : Nat → Prop) (t : Tm) : Value → World → Prop := fun v w => ∃ us, v = .agg us.toArray ∧ Tm.rep A w t us
theorem stays_TA (A : Nat → Prop) (t : Tm) : Stays (IsTA A t) := fun v w w' ⟨us, e, h⟩ hb => ⟨us, e, Tm.rep_lasts.1 _ _ _ _ _ h (Keeps.of_below hb)⟩
def IsTB (base : Nat) : Value → World → Prop := fun v w => ∃ g, v = .pointer (some ⟨g, 0, none⟩) ∧ base ≤ g ∧ w.heap[g]? = some (.cells #[.int .i64 0, .int .i64 0, .string ByteArray.empty, .slice none 0 0] 31 (0, 0))
theorem stays_TB (base : Nat) : Stays (IsTB base) := fun v w w' ⟨g, e, h1, h2⟩ hb => ⟨g, e, h1, blk_below h2 hb⟩
theorem Tm.In.num {N : Int} {t : Tm} (h : t.In N) (hk : t.kind = 2) : -1099511627776 ≤ t.n ∧ t.n ≤ 1099511627776 := by
  cases h with
  | var => cases hk
  | atom => cases hk
  | int n h0 h1 => exact ⟨h0, h1⟩
  | comp => cases hk
section
variable {base : Nat} {P : List Cl} {q g mb : Nat} {pv tv cv ov : Value} {s : Sv} {w : World} {g0 : Gl} {rest : List Gl} {gv : Value}
set_option maxRecDepth 100000 in
set_option maxHeartbeats 4000000 in
theorem sknown_less (s1 : g0.t.s.toList ≠ [33]) (s2 : g0.t.s.toList ≠ [116, 114, 117, 101]) (s3 : g0.t.s.toList ≠ [102, 97, 105, 108]) (s4 : g0.t.s.toList ≠ [101, 113]) (s5 : g0.t.s.toList = [108, 101, 115, 115]) : SKnownOK base P q g mb pv tv cv ov s w g0 rest gv := by
  intro h hE hg0 hkn hgv hlen hout
  have HU := hid h
  have HE := hid hE
  have HG0 := hid hg0
  have HGV := hid hgv
  have HLEN := hid hlen
  have HOUT := hid hout
  have hcs := cell_set
  obtain ⟨gb, ga, gcap, rv, rfl, hgA, hgb, hgr, hgrest⟩ := hgv
  obtain ⟨pa, pc, ta, tc, ca, cc, oa, oc, hpv, htv, hcv, hov, hvl1, hvl2, hvl3, hvl4, hvl5, hvl6, hvl7, hvl8⟩ := h.vals
  have HGB := hid hgb
  have HGR := hid hgr
  have HGA := hid hgA
  obtain ⟨hl1, hl2, hl3⟩ := h.lt
  obtain ⟨b0, b1, b2, b3, b4, b5, b6, b7, bf⟩ := box8 h.box
  obtain ⟨g00, g01, g02, g03, g04, g05, gf⟩ := blk6 hgb
  have hgbl := blk_lt hgb
  have hbar0 : (0 : Int) ≤ (g0.bar : Int) := Int.natCast_nonneg _
  have q1 : (g0.t.s.toList == [33]) = false := by simpa using s1
  have q2 : (g0.t.s.toList == [116, 114, 117, 101]) = false := by simpa using s2
  have q3 : (g0.t.s.toList == [102, 97, 105, 108]) = false := by simpa using s3
  have q4 : (g0.t.s.toList == [101, 113]) = false := by simpa using s4
  have q5 : (g0.t.s.toList == [108, 101, 115, 115]) = true := by simpa using s5
  have hk2 : g0.t.args.length = 2 := by
    rcases hkn with ⟨_, h1 | h1 | h1⟩ | ⟨h0, h1⟩ | ⟨h0, h1⟩
    · exact absurd h1 s1
    · exact absurd h1 s2
    · exact absurd h1 s3
    · exact h0
    · rw [s5] at h1; simp at h1
  obtain ⟨_, _, ab, aoff, e9, hac1, hac2, -, hea, hee⟩ := SlR.at (show SlR 4 Tm.rep (SA g mb g tv cv ov) w g0.t.args (.slice ga g0.t.args.length gcap) by
    obtain ⟨_, _, e, -, -, -, -, -, -, h8⟩ := Tm.rep4 hgr
    simp only [List.cons.injEq, true_and, and_true] at e
    rw [e]; exact h8)
  simp only [Value.slice.injEq, true_and] at e9
  obtain ⟨rfl, rfl⟩ := e9
  obtain ⟨rfl, hAb⟩ := hea (by omega)
  obtain ⟨xa, xc, c0, c1, c2, c3, hxr⟩ := tm_cells hee hAb (Keeps.refl _ _) (k := 0) (by omega)
  obtain ⟨ya, yc, d0, d1, d2, d3, hyr⟩ := tm_cells hee hAb (Keeps.refl _ _) (k := 1) (by omega)
  have HXI := hid (hg0.arg (List.getElem_mem (l := g0.t.args) (n := 0) (by omega)))
  have HYI := hid (hg0.arg (List.getElem_mem (l := g0.t.args) (n := 1) (by omega)))
  have e0 : (g0.t.args[0]?).getD default = g0.t.args[0] := by rw [List.getElem?_eq_getElem (by omega)]; rfl
  have e1 : (g0.t.args[1]?).getD default = g0.t.args[1] := by rw [List.getElem?_eq_getElem (by omega)]; rfl
  obtain ⟨x, hx⟩ : ∃ x, x = g0.t.args[0] := ⟨_, rfl⟩
  obtain ⟨y, hy⟩ : ∃ y, y = g0.t.args[1] := ⟨_, rfl⟩
  rw [← hx] at c0 c1 c2 c3 hxr HXI e0
  rw [← hy] at d0 d1 d2 d3 hyr HYI e1
  simp only [Nat.zero_mul, Nat.add_zero, Nat.one_mul] at c0 c1 c2 c3 d0 d1 d2 d3
  have HXR := hid hxr
  have HYR := hid hyr
  have habl : ab < w.heap.size := World.block_lt_of_cell? w _ c0
  rw [hk2] at g03 hac1
  have hkf := hid (show knownF g0 s = (if (slook s.env x).kind ≠ 2 ∨ (slook s.env y).kind ≠ 2 then (none, s.put 5)
    else (some (decide ((slook s.env x).n < (slook s.env y).n)), s)) by
    rw [knownF, if_neg s1, if_neg s2, if_neg s3, if_neg s4, e0, e1]
    simp only
    rw [if_pos s5])
  have HG03 := hid g03
  have HG02 := hid g02
  clear hxr hyr hea hee hx hy e0 e1 hk2
  clear h hE hg0 hlen hout hgA hgb hgr hgrest hpv htv hov
  try clear hcv
  go_enter Tryd.func92, Tryd.ntmps92
  go_wp2_with fail
  have HA0 := hid (fun (w' : World) (hb : Below w.heap.size w w') => (show w'.cell? ⟨gb, 3, none⟩ = _ ∧ w'.cell? ⟨ab, aoff, none⟩ = _ ∧ w'.cell? ⟨ab, aoff + 1, none⟩ = _ ∧ w'.cell? ⟨ab, aoff + 2, none⟩ = _ ∧ w'.cell? ⟨ab, aoff + 3, none⟩ = _ ∧ w'.cell? ⟨ab, aoff + 4, none⟩ = _ ∧ w'.cell? ⟨ab, aoff + 4 + 1, none⟩ = _ ∧ w'.cell? ⟨ab, aoff + 4 + 2, none⟩ = _ ∧ w'.cell? ⟨ab, aoff + 4 + 3, none⟩ = _ from
    have hk := Keeps.of_below (A := fun _ => True) hb
    ⟨hk.cell trivial g03, hk.cell trivial c0, hk.cell trivial c1, hk.cell trivial c2, hk.cell trivial c3, hk.cell trivial d0, hk.cell trivial d1, hk.cell trivial d2, hk.cell trivial d3⟩))
  have HEN := hid HU.out.envAt
  have HXR2 := hid (Tm.rep_lasts.2.1 _ (fun b => SA g mb g tv cv ov b ∧ b < w.heap.size) _ _ _ HXR.out fun b hb h => ⟨h, hb⟩)
  have HYR2 := hid (Tm.rep_lasts.2.1 _ (fun b => SA g mb g tv cv ov b ∧ b < w.heap.size) _ _ _ HYR.out fun b hb h => ⟨h, hb⟩)
  clear g00 g01 g02 g03 g04 g05 gf c0 c1 c2 c3 d0 d1 d2 d3 b0 b1 b2 b3 b4 b5 b6 b7 bf
  refine wp_region_front4 20 (fun _ => false) 18 (D := fun k v u _ => k = 19 → v ≠ u) (Inv := fun w' => Below w.heap.size w w') (Po := posts [IsV (.pointer (some ⟨g, 0, none⟩)), IsV (.pointer (some ⟨gb, 0, none⟩)), IsV (.pointer (some ⟨gb, 0, none⟩)), IsV (.pointer (some ⟨gb, 0, none⟩)), IsV (.pointer (some ⟨gb, 3, none⟩)), IsV (.slice (some ⟨ab, aoff, none⟩) 2 gcap), IsV (.pointer (some ⟨ab, aoff, none⟩)), IsV (.agg #[.int .i64 x.kind, .int .i64 x.n, .string x.s, .slice xa x.args.length xc]), IsTA (fun b => SA g mb g tv cv ov b ∧ b < w.heap.size) (slook s.env x), IsV (.pointer (some ⟨g, 0, none⟩)), IsV (.pointer (some ⟨gb, 0, none⟩)), IsV (.pointer (some ⟨gb, 0, none⟩)), IsV (.pointer (some ⟨gb, 0, none⟩)), IsV (.pointer (some ⟨gb, 3, none⟩)), IsV (.slice (some ⟨ab, aoff, none⟩) 2 gcap), IsV (.pointer (some ⟨ab, aoff + 4, none⟩)), IsV (.agg #[.int .i64 y.kind, .int .i64 y.n, .string y.s, .slice ya y.args.length yc]), IsTA (fun b => SA g mb g tv cv ov b ∧ b < w.heap.size) (slook s.env y), IsTB w.heap.size, IsTB w.heap.size]) (Rl := fun w w' => Below w.heap.size w w') (by kernel_rfl) ⟨by decide, rfl⟩ (fun p v u w hp => by cases hp) (fun _ _ _ _ _ h _ => h) (by kernel_rfl) (by kernel_rfl) (fun _ _ _ _ h => h) (by kernel_rfl) (by kernel_rfl) ((Below.refl _ _).drew) ?_ ?_ ?_ ?_ ?_
  · refine posts_stay fun R hR => ?_
    simp only [List.mem_cons, List.not_mem_nil, or_false] at hR
    rcases hR with rfl | rfl | rfl | rfl | rfl | rfl | rfl | rfl | rfl | rfl | rfl | rfl | rfl | rfl | rfl | rfl | rfl | rfl | rfl | rfl <;> first | exact stays_V _ | exact stays_TA _ _ | exact stays_TB _
  · exact fun w1 w2 h h' => h.trans (h'.mono h.size)
  · intro i o ho hps; cases hps
  · intro i o ho hps f ac ww hinv hpo hdst hold
    clear hps
    match i, ho with
    | 0, ho =>
      obtain rfl : _ = o := Option.some.inj ho
      have t0 := hold 0 (by kernel_rfl)
      refine Or.inl ⟨want0 rfl, ?_⟩
      clear hdst hpo hold ho
      clear hinv
      unfold Ans
      go_simp
      exact ⟨rfl, Below.refl _ _⟩
    | 1, ho =>
      obtain rfl : _ = o := Option.some.inj ho
      have t1 := hold 1 (by kernel_rfl)
      refine Or.inl ⟨want0 rfl, ?_⟩
      clear hdst hpo hold ho
      clear hinv
      unfold Ans
      go_simp
      exact ⟨rfl, Below.refl _ _⟩
    | 2, ho =>
      obtain rfl : _ = o := Option.some.inj ho
      have t64 : ac.tmps[64]? = some (f 1) := hdst 1 64 (by kernel_rfl) (by kernel_rfl)
      have p1 : (IsV (.pointer (some ⟨gb, 0, none⟩))) (f 1) ww := hpo 1 (by kernel_rfl)
      refine Or.inl ⟨want0 rfl, ?_⟩
      clear hdst hpo hold ho
      rw [show f 1 = _ from p1] at t64
      clear hinv
      unfold Ans
      go_simp
      exact ⟨rfl, Below.refl _ _⟩
    | 3, ho =>
      obtain rfl : _ = o := Option.some.inj ho
      have t65 : ac.tmps[65]? = some (f 2) := hdst 2 65 (by kernel_rfl) (by kernel_rfl)
      have p2 : (IsV (.pointer (some ⟨gb, 0, none⟩))) (f 2) ww := hpo 2 (by kernel_rfl)
      refine Or.inl ⟨want0 rfl, ?_⟩
      clear hdst hpo hold ho
      rw [show f 2 = _ from p2] at t65
      clear hinv
      unfold Ans
      go_simp
      exact ⟨rfl, Below.refl _ _⟩
    | 4, ho =>
      obtain rfl : _ = o := Option.some.inj ho
      have t66 : ac.tmps[66]? = some (f 3) := hdst 3 66 (by kernel_rfl) (by kernel_rfl)
      have p3 : (IsV (.pointer (some ⟨gb, 0, none⟩))) (f 3) ww := hpo 3 (by kernel_rfl)
      refine Or.inl ⟨want0 rfl, ?_⟩
      clear hdst hpo hold ho
      rw [show f 3 = _ from p3] at t66
      clear hinv
      unfold Ans
      go_simp
      exact ⟨rfl, Below.refl _ _⟩
    | 5, ho =>
      obtain rfl : _ = o := Option.some.inj ho
      have t67 : ac.tmps[67]? = some (f 4) := hdst 4 67 (by kernel_rfl) (by kernel_rfl)
      have p4 : (IsV (.pointer (some ⟨gb, 3, none⟩))) (f 4) ww := hpo 4 (by kernel_rfl)
      refine Or.inl ⟨want0 rfl, ?_⟩
      clear hdst hpo hold ho
      rw [show f 4 = _ from p4] at t67
      obtain ⟨f3, k0, k1, k2, k3, m0, m1, m2, m3⟩ := HA0.out ww hinv
      unfold Ans
      go_simp
      exact ⟨rfl, Below.refl _ _⟩
    | 6, ho =>
      obtain rfl : _ = o := Option.some.inj ho
      have t68 : ac.tmps[68]? = some (f 5) := hdst 5 68 (by kernel_rfl) (by kernel_rfl)
      have p5 : (IsV (.slice (some ⟨ab, aoff, none⟩) 2 gcap)) (f 5) ww := hpo 5 (by kernel_rfl)
      refine Or.inl ⟨want0 rfl, ?_⟩
      clear hdst hpo hold ho
      rw [show f 5 = _ from p5] at t68
      clear hinv
      unfold Ans
      go_simp
      exact ⟨rfl, Below.refl _ _⟩
    | 7, ho =>
      obtain rfl : _ = o := Option.some.inj ho
      have t69 : ac.tmps[69]? = some (f 6) := hdst 6 69 (by kernel_rfl) (by kernel_rfl)
      have p6 : (IsV (.pointer (some ⟨ab, aoff, none⟩))) (f 6) ww := hpo 6 (by kernel_rfl)
      refine Or.inl ⟨want0 rfl, ?_⟩
      clear hdst hpo hold ho
      rw [show f 6 = _ from p6] at t69
      obtain ⟨f3, k0, k1, k2, k3, m0, m1, m2, m3⟩ := HA0.out ww hinv
      unfold Ans
      go_simp
      exact ⟨rfl, Below.refl _ _⟩
    | 8, ho =>
      obtain rfl : _ = o := Option.some.inj ho
      have t63 : ac.tmps[63]? = some (f 0) := hdst 0 63 (by kernel_rfl) (by kernel_rfl)
      have p0 : (IsV (.pointer (some ⟨g, 0, none⟩))) (f 0) ww := hpo 0 (by kernel_rfl)
      have t70 : ac.tmps[70]? = some (f 7) := hdst 7 70 (by kernel_rfl) (by kernel_rfl)
      have p7 : (IsV (.agg #[.int .i64 x.kind, .int .i64 x.n, .string x.s, .slice xa x.args.length xc])) (f 7) ww := hpo 7 (by kernel_rfl)
      refine Or.inl ⟨want0 rfl, ?_⟩
      clear hdst hpo hold ho
      rw [show f 0 = _ from p0] at t63
      rw [show f 7 = _ from p7] at t70
      unfold Ans
      go_simp
      refine (slook_ok x (fun b => SA g mb g tv cv ov b ∧ b < w.heap.size) ww [_, _, _, _] (HU.out.below hinv) HE.out HXI.out (HEN.out.keeps (Keeps.of_below (A := fun _ => True) hinv) (fun _ _ => trivial) trivial) (Tm.rep_lasts.1 _ _ _ _ _ HXR2.out (Keeps.of_below hinv))).mono ?_
      rintro e w1 ⟨v, rfl, hb1, hv⟩
      exact ⟨_, rfl, hv, hb1⟩
    | 9, ho =>
      obtain rfl : _ = o := Option.some.inj ho
      have t0 := hold 0 (by kernel_rfl)
      refine Or.inl ⟨want0 rfl, ?_⟩
      clear hdst hpo hold ho
      clear hinv
      unfold Ans
      go_simp
      exact ⟨rfl, Below.refl _ _⟩
    | 10, ho =>
      obtain rfl : _ = o := Option.some.inj ho
      have t1 := hold 1 (by kernel_rfl)
      refine Or.inl ⟨want0 rfl, ?_⟩
      clear hdst hpo hold ho
      clear hinv
      unfold Ans
      go_simp
      exact ⟨rfl, Below.refl _ _⟩
    | 11, ho =>
      obtain rfl : _ = o := Option.some.inj ho
      have t73 : ac.tmps[73]? = some (f 10) := hdst 10 73 (by kernel_rfl) (by kernel_rfl)
      have p10 : (IsV (.pointer (some ⟨gb, 0, none⟩))) (f 10) ww := hpo 10 (by kernel_rfl)
      refine Or.inl ⟨want0 rfl, ?_⟩
      clear hdst hpo hold ho
      rw [show f 10 = _ from p10] at t73
      clear hinv
      unfold Ans
      go_simp
      exact ⟨rfl, Below.refl _ _⟩
    | 12, ho =>
      obtain rfl : _ = o := Option.some.inj ho
      have t74 : ac.tmps[74]? = some (f 11) := hdst 11 74 (by kernel_rfl) (by kernel_rfl)
      have p11 : (IsV (.pointer (some ⟨gb, 0, none⟩))) (f 11) ww := hpo 11 (by kernel_rfl)
      refine Or.inl ⟨want0 rfl, ?_⟩
      clear hdst hpo hold ho
      rw [show f 11 = _ from p11] at t74
      clear hinv
      unfold Ans
      go_simp
      exact ⟨rfl, Below.refl _ _⟩
    | 13, ho =>
      obtain rfl : _ = o := Option.some.inj ho
      have t75 : ac.tmps[75]? = some (f 12) := hdst 12 75 (by kernel_rfl) (by kernel_rfl)
      have p12 : (IsV (.pointer (some ⟨gb, 0, none⟩))) (f 12) ww := hpo 12 (by kernel_rfl)
      refine Or.inl ⟨want0 rfl, ?_⟩
      clear hdst hpo hold ho
      rw [show f 12 = _ from p12] at t75
      clear hinv
      unfold Ans
      go_simp
      exact ⟨rfl, Below.refl _ _⟩
    | 14, ho =>
      obtain rfl : _ = o := Option.some.inj ho
      have t76 : ac.tmps[76]? = some (f 13) := hdst 13 76 (by kernel_rfl) (by kernel_rfl)
      have p13 : (IsV (.pointer (some ⟨gb, 3, none⟩))) (f 13) ww := hpo 13 (by kernel_rfl)
      refine Or.inl ⟨want0 rfl, ?_⟩
      clear hdst hpo hold ho
      rw [show f 13 = _ from p13] at t76
      obtain ⟨f3, k0, k1, k2, k3, m0, m1, m2, m3⟩ := HA0.out ww hinv
      unfold Ans
      go_simp
      exact ⟨rfl, Below.refl _ _⟩
    | 15, ho =>
      obtain rfl : _ = o := Option.some.inj ho
      have t77 : ac.tmps[77]? = some (f 14) := hdst 14 77 (by kernel_rfl) (by kernel_rfl)
      have p14 : (IsV (.slice (some ⟨ab, aoff, none⟩) 2 gcap)) (f 14) ww := hpo 14 (by kernel_rfl)
      refine Or.inl ⟨want0 rfl, ?_⟩
      clear hdst hpo hold ho
      rw [show f 14 = _ from p14] at t77
      clear hinv
      unfold Ans
      go_simp
      exact ⟨rfl, Below.refl _ _⟩
    | 16, ho =>
      obtain rfl : _ = o := Option.some.inj ho
      have t78 : ac.tmps[78]? = some (f 15) := hdst 15 78 (by kernel_rfl) (by kernel_rfl)
      have p15 : (IsV (.pointer (some ⟨ab, aoff + 4, none⟩))) (f 15) ww := hpo 15 (by kernel_rfl)
      refine Or.inl ⟨want0 rfl, ?_⟩
      clear hdst hpo hold ho
      rw [show f 15 = _ from p15] at t78
      obtain ⟨f3, k0, k1, k2, k3, m0, m1, m2, m3⟩ := HA0.out ww hinv
      unfold Ans
      go_simp
      exact ⟨rfl, Below.refl _ _⟩
    | 17, ho =>
      obtain rfl : _ = o := Option.some.inj ho
      have t72 : ac.tmps[72]? = some (f 9) := hdst 9 72 (by kernel_rfl) (by kernel_rfl)
      have p9 : (IsV (.pointer (some ⟨g, 0, none⟩))) (f 9) ww := hpo 9 (by kernel_rfl)
      have t79 : ac.tmps[79]? = some (f 16) := hdst 16 79 (by kernel_rfl) (by kernel_rfl)
      have p16 : (IsV (.agg #[.int .i64 y.kind, .int .i64 y.n, .string y.s, .slice ya y.args.length yc])) (f 16) ww := hpo 16 (by kernel_rfl)
      refine Or.inl ⟨want0 rfl, ?_⟩
      clear hdst hpo hold ho
      rw [show f 9 = _ from p9] at t72
      rw [show f 16 = _ from p16] at t79
      unfold Ans
      go_simp
      refine (slook_ok y (fun b => SA g mb g tv cv ov b ∧ b < w.heap.size) ww [_, _, _, _] (HU.out.below hinv) HE.out HYI.out (HEN.out.keeps (Keeps.of_below (A := fun _ => True) hinv) (fun _ _ => trivial) trivial) (Tm.rep_lasts.1 _ _ _ _ _ HYR2.out (Keeps.of_below hinv))).mono ?_
      rintro e w1 ⟨v, rfl, hb1, hv⟩
      exact ⟨_, rfl, hv, hb1⟩
    | 18, ho =>
      obtain rfl : _ = o := Option.some.inj ho
      refine Or.inl ⟨want0 rfl, ?_⟩
      clear hdst hpo hold ho
      unfold Ans
      go_simp
      refine ⟨⟨_, rfl, hinv.size, blk_new _ _⟩, (Below.refl _ _).alloc (Nat.le_refl _) _, fun k u hu hk => ?_⟩
      subst hk
      obtain ⟨gg, rfl, -, hgg⟩ := (show IsTB w.heap.size u ww from hu)
      have := blk_lt hgg
      intro e
      simp only [Value.pointer.injEq, Option.some.injEq, Addr.mk.injEq] at e
      omega
    | 19, ho =>
      obtain rfl : _ = o := Option.some.inj ho
      refine Or.inl ⟨want0 rfl, ?_⟩
      clear hdst hpo hold ho
      unfold Ans
      go_simp
      refine ⟨⟨_, rfl, hinv.size, blk_new _ _⟩, (Below.refl _ _).alloc (Nat.le_refl _) _, fun u hu _ => ?_⟩
      obtain ⟨gg, rfl, -, hgg⟩ := (show IsTB w.heap.size u ww from hu)
      have := blk_lt hgg
      intro e
      simp only [Value.pointer.injEq, Option.some.injEq, Addr.mk.injEq] at e
      omega
    | i + 20, ho => simp at ho
  · intro f ww hinv hpo hD
    have p8 : (IsTA (fun b => SA g mb g tv cv ov b ∧ b < w.heap.size) (slook s.env x)) (f 8) ww := hpo 8 (by decide)
    have p17 : (IsTA (fun b => SA g mb g tv cv ov b ∧ b < w.heap.size) (slook s.env y)) (f 17) ww := hpo 17 (by decide)
    have p18 : (IsTB w.heap.size) (f 18) ww := hpo 18 (by decide)
    have p19 : (IsTB w.heap.size) (f 19) ww := hpo 19 (by decide)
    have hD19 : f 19 ≠ f 18 := hD 19 (by decide) (by decide) rfl
    obtain ⟨us8, e8, hr8⟩ := p8
    obtain ⟨us17, e17, hr17⟩ := p17
    obtain ⟨b7', e18, hg7, hx7⟩ := p18
    obtain ⟨b8', e19, hg8, hx8⟩ := p19
    rw [e18, e19] at hD19
    have hne : b8' ≠ b7' := fun e => hD19 (by rw [e])
    have hne' : b7' ≠ b8' := fun e => hne e.symm
    have e0 := (show f 0 = _ from hpo 0 (by decide))
    have e1 := (show f 1 = _ from hpo 1 (by decide))
    have e2 := (show f 2 = _ from hpo 2 (by decide))
    have e3 := (show f 3 = _ from hpo 3 (by decide))
    have e4 := (show f 4 = _ from hpo 4 (by decide))
    have e5 := (show f 5 = _ from hpo 5 (by decide))
    have e6 := (show f 6 = _ from hpo 6 (by decide))
    have e7 := (show f 7 = _ from hpo 7 (by decide))
    have e9 := (show f 9 = _ from hpo 9 (by decide))
    have e10 := (show f 10 = _ from hpo 10 (by decide))
    have e11 := (show f 11 = _ from hpo 11 (by decide))
    have e12 := (show f 12 = _ from hpo 12 (by decide))
    have e13 := (show f 13 = _ from hpo 13 (by decide))
    have e14 := (show f 14 = _ from hpo 14 (by decide))
    have e15 := (show f 15 = _ from hpo 15 (by decide))
    have e16 := (show f 16 = _ from hpo 16 (by decide))
    simp only [fillT, List.take_succ_cons, List.take_zero, List.setIfInBounds_toArray, List.set_cons_succ, List.set_cons_zero]
    rw [e0, e1, e2, e3, e4, e5, e6, e7, e8, e9, e10, e11, e12, e13, e14, e15, e16, e17, e18, e19]
    have HAI := hid (slook_in HE.out HXI.out)
    have HBI := hid (slook_in HE.out HYI.out)
    clear e0 e1 e2 e3 e4 e5 e6 e7 e8 e9 e10 e11 e12 e13 e14 e15 e16 e17 e18 e19 hD19 hpo hD
    generalize slook s.env x = a at *
    generalize slook s.env y = b at *
    obtain ⟨aa, aca, rfl, -⟩ := Tm.rep4 hr8
    obtain ⟨ba, bca, rfl, -⟩ := Tm.rep4 hr17
    have HINV := hid hinv
    obtain ⟨y0, y1, y2, y3, yf⟩ := blk4 hx7
    obtain ⟨z0, z1, z2, z3, zf⟩ := blk4 hx8
    have hb7l := blk_lt hx7
    have hb8l := blk_lt hx8
    have HX7 := hid hx7
    have HX8 := hid hx8
    clear hinv hr8 hr17 hx7 hx8
    refine wpAny_only (i := 20) (by kernel_rfl) (wpOp_run rfl (by rfl) ?_)
    go_simp
    refine wpAny_only (i := 21) (by kernel_rfl) (wpOp_run rfl (by rfl) ?_)
    go_simp
    refine wpAny_all (by kernel_rfl) ?_ _
    have hBW : Below w.heap.size w ((((((((ww.setCell ⟨b7', 0, none⟩ (.int .i64 a.kind)).setCell ⟨b7', 1, none⟩ (.int .i64 a.n)).setCell ⟨b7', 2, none⟩ (.string a.s)).setCell ⟨b7', 3, none⟩ (.slice aa a.args.length aca)).setCell ⟨b8', 0, none⟩ (.int .i64 b.kind)).setCell ⟨b8', 1, none⟩ (.int .i64 b.n)).setCell ⟨b8', 2, none⟩ (.string b.s)).setCell ⟨b8', 3, none⟩ (.slice ba b.args.length bca)) := below_set4 (below_set4 HINV.out hg7 _ _ _ _) hg8 _ _ _ _
    have HX7' := hid (show ((((((((ww.setCell ⟨b7', 0, none⟩ (.int .i64 a.kind)).setCell ⟨b7', 1, none⟩ (.int .i64 a.n)).setCell ⟨b7', 2, none⟩ (.string a.s)).setCell ⟨b7', 3, none⟩ (.slice aa a.args.length aca)).setCell ⟨b8', 0, none⟩ (.int .i64 b.kind)).setCell ⟨b8', 1, none⟩ (.int .i64 b.n)).setCell ⟨b8', 2, none⟩ (.string b.s)).setCell ⟨b8', 3, none⟩ (.slice ba b.args.length bca)).heap[b7']? = some (.cells #[.int .i64 a.kind, .int .i64 a.n, .string a.s, .slice aa a.args.length aca] 31 (0, 0)) from (set4_other _ _ _ _ _ _ _ hne').trans (set4 HX7.out))
    have HX8' := hid (show ((((((((ww.setCell ⟨b7', 0, none⟩ (.int .i64 a.kind)).setCell ⟨b7', 1, none⟩ (.int .i64 a.n)).setCell ⟨b7', 2, none⟩ (.string a.s)).setCell ⟨b7', 3, none⟩ (.slice aa a.args.length aca)).setCell ⟨b8', 0, none⟩ (.int .i64 b.kind)).setCell ⟨b8', 1, none⟩ (.int .i64 b.n)).setCell ⟨b8', 2, none⟩ (.string b.s)).setCell ⟨b8', 3, none⟩ (.slice ba b.args.length bca)).heap[b8']? = some (.cells #[.int .i64 b.kind, .int .i64 b.n, .string b.s, .slice ba b.args.length bca] 31 (0, 0)) from set4 ((set4_other _ _ _ _ _ _ _ hne).trans HX8.out))
    have HBW := hid hBW
    clear hBW y0 y1 y2 y3 yf z0 z1 z2 z3 zf
    generalize ((((((((ww.setCell ⟨b7', 0, none⟩ (.int .i64 a.kind)).setCell ⟨b7', 1, none⟩ (.int .i64 a.n)).setCell ⟨b7', 2, none⟩ (.string a.s)).setCell ⟨b7', 3, none⟩ (.slice aa a.args.length aca)).setCell ⟨b8', 0, none⟩ (.int .i64 b.kind)).setCell ⟨b8', 1, none⟩ (.int .i64 b.n)).setCell ⟨b8', 2, none⟩ (.string b.s)).setCell ⟨b8', 3, none⟩ (.slice ba b.args.length bca)) = W5 at *
    have hWS := HBW.out.size
    have hb7s := blk_lt HX7'.out
    have hb8s := blk_lt HX8'.out
    have HSV5 := hid (HU.out.below HBW.out)
    obtain ⟨y0, y1, y2, y3, yf⟩ := blk4 HX7'.out
    obtain ⟨z0, z1, z2, z3, zf⟩ := blk4 HX8'.out
    obtain ⟨b0, b1, b2, b3, b4, b5, b6, b7, bf⟩ := box8 HSV5.out.box
    have g02 := (Keeps.of_below (A := fun _ => True) HBW.out).cell trivial HG02.out
    have HST5 := hid (fun (s' : Sv) (w' : World) (hh : SStep base P q g mb pv tv cv ov s' W5 w') =>
      (SStep.trans (Ch.of_below HBW.out) (fun b h => .inl h) (fun b h => .inl h) (fun b h => .inl h) hh : SStep base P q g mb pv tv cv ov s' w w'))
    by_cases hka : a.kind = 2
    · by_cases hkb : b.kind = 2
      · rw [hka] at y0
        rw [hkb] at z0
        have hkf2 := hid (hkf.out.trans (if_neg (by simp [hka, hkb])))
        obtain ⟨hna0, hna1⟩ := HAI.out.num hka
        obtain ⟨hnb0, hnb1⟩ := HBI.out.num hkb
        have hi1 : -9223372036854775808 ≤ a.n + b.n := by omega
        have hi2 : a.n + b.n ≤ 9223372036854775807 := by omega
        clear hka hkb
        go_wp2_with fail
        go_ret2
        rw [hkf2.out]
        exact ⟨rfl, HST5.out _ _ (SStep.refl HSV5.out)⟩
      · have hkf2 := hid (hkf.out.trans (if_pos (.inr hkb)))
        have hkb' : (b.kind != 2) = true := by simpa using hkb
        rw [hka] at y0
        clear hka
        go_wp2_with fail
        refine (send_ok 5 (by unfold I64; omega) HSV5.out HOUT.out).mono ?_
        rintro e W9 ⟨rfl, hst⟩
        have HST := hid (HST5.out _ _ hst)
        clear hst
        go_wp2_with fail
        go_ret2
        rw [hkf2.out]
        exact ⟨rfl, HST.out⟩
    · have hkf2 := hid (hkf.out.trans (if_pos (.inl hka)))
      have hka' : (a.kind != 2) = true := by simpa using hka
      go_wp2_with fail
      refine (send_ok 5 (by unfold I64; omega) HSV5.out HOUT.out).mono ?_
      rintro e W9 ⟨rfl, hst⟩
      have HST := hid (HST5.out _ _ hst)
      clear hst
      go_wp2_with fail
      go_ret2
      rw [hkf2.out]
      exact ⟨rfl, HST.out⟩
set_option maxRecDepth 100000 in
set_option maxHeartbeats 4000000 in
theorem sknown_add (s1 : g0.t.s.toList ≠ [33]) (s2 : g0.t.s.toList ≠ [116, 114, 117, 101]) (s3 : g0.t.s.toList ≠ [102, 97, 105, 108]) (s4 : g0.t.s.toList ≠ [101, 113]) (s5 : g0.t.s.toList ≠ [108, 101, 115, 115]) : SKnownOK base P q g mb pv tv cv ov s w g0 rest gv := by
  intro h hE hg0 hkn hgv hlen hout
  have HU := hid h
  have HE := hid hE
  have HG0 := hid hg0
  have HGV := hid hgv
  have HLEN := hid hlen
  have HOUT := hid hout
  have hcs := cell_set
  obtain ⟨gb, ga, gcap, rv, rfl, hgA, hgb, hgr, hgrest⟩ := hgv
  obtain ⟨pa, pc, ta, tc, ca, cc, oa, oc, hpv, htv, hcv, hov, hvl1, hvl2, hvl3, hvl4, hvl5, hvl6, hvl7, hvl8⟩ := h.vals
  have HGB := hid hgb
  have HGR := hid hgr
  have HGA := hid hgA
  obtain ⟨hl1, hl2, hl3⟩ := h.lt
  obtain ⟨b0, b1, b2, b3, b4, b5, b6, b7, bf⟩ := box8 h.box
  obtain ⟨g00, g01, g02, g03, g04, g05, gf⟩ := blk6 hgb
  have hgbl := blk_lt hgb
  have hbar0 : (0 : Int) ≤ (g0.bar : Int) := Int.natCast_nonneg _
  have q1 : (g0.t.s.toList == [33]) = false := by simpa using s1
  have q2 : (g0.t.s.toList == [116, 114, 117, 101]) = false := by simpa using s2
  have q3 : (g0.t.s.toList == [102, 97, 105, 108]) = false := by simpa using s3
  have q4 : (g0.t.s.toList == [101, 113]) = false := by simpa using s4
  have q5 : (g0.t.s.toList == [108, 101, 115, 115]) = false := by simpa using s5
  have hk2 : g0.t.args.length = 3 := by
    rcases hkn with ⟨_, h1 | h1 | h1⟩ | ⟨h0, h1⟩ | ⟨h0, h1⟩
    · exact absurd h1 s1
    · exact absurd h1 s2
    · exact absurd h1 s3
    · rcases h1 with h1 | h1
      · exact absurd h1 s4
      · exact absurd h1 s5
    · exact h0
  obtain ⟨_, _, ab, aoff, e9, hac1, hac2, -, hea, hee⟩ := SlR.at (show SlR 4 Tm.rep (SA g mb g tv cv ov) w g0.t.args (.slice ga g0.t.args.length gcap) by
    obtain ⟨_, _, e, -, -, -, -, -, -, h8⟩ := Tm.rep4 hgr
    simp only [List.cons.injEq, true_and, and_true] at e
    rw [e]; exact h8)
  simp only [Value.slice.injEq, true_and] at e9
  obtain ⟨rfl, rfl⟩ := e9
  obtain ⟨rfl, hAb⟩ := hea (by omega)
  obtain ⟨xa, xc, c0, c1, c2, c3, hxr⟩ := tm_cells hee hAb (Keeps.refl _ _) (k := 0) (by omega)
  obtain ⟨ya, yc, d0, d1, d2, d3, hyr⟩ := tm_cells hee hAb (Keeps.refl _ _) (k := 1) (by omega)
  have HXI := hid (hg0.arg (List.getElem_mem (l := g0.t.args) (n := 0) (by omega)))
  have HYI := hid (hg0.arg (List.getElem_mem (l := g0.t.args) (n := 1) (by omega)))
  have e0 : (g0.t.args[0]?).getD default = g0.t.args[0] := by rw [List.getElem?_eq_getElem (by omega)]; rfl
  have e1 : (g0.t.args[1]?).getD default = g0.t.args[1] := by rw [List.getElem?_eq_getElem (by omega)]; rfl
  obtain ⟨za, zc, f0, f1, f2, f3, hzr⟩ := tm_cells hee hAb (Keeps.refl _ _) (k := 2) (by omega)
  have HZI := hid (hg0.arg (List.getElem_mem (l := g0.t.args) (n := 2) (by omega)))
  have e2 : (g0.t.args[2]?).getD default = g0.t.args[2] := by rw [List.getElem?_eq_getElem (by omega)]; rfl
  obtain ⟨z, hz⟩ : ∃ z, z = g0.t.args[2] := ⟨_, rfl⟩
  rw [← hz] at f0 f1 f2 f3 hzr HZI e2
  simp only [Nat.reduceMul] at f0 f1 f2 f3
  have HZR := hid hzr
  have HZC := hid (show w.cell? ⟨ab, aoff + 8, none⟩ = some (.int .i64 z.kind) ∧ w.cell? ⟨ab, aoff + 8 + 1, none⟩ = some (.int .i64 z.n) ∧ w.cell? ⟨ab, aoff + 8 + 2, none⟩ = some (.string z.s) ∧ w.cell? ⟨ab, aoff + 8 + 3, none⟩ = some (.slice za z.args.length zc) from ⟨f0, f1, f2, f3⟩)
  clear f0 f1 f2 f3 hzr hz
  obtain ⟨x, hx⟩ : ∃ x, x = g0.t.args[0] := ⟨_, rfl⟩
  obtain ⟨y, hy⟩ : ∃ y, y = g0.t.args[1] := ⟨_, rfl⟩
  rw [← hx] at c0 c1 c2 c3 hxr HXI e0
  rw [← hy] at d0 d1 d2 d3 hyr HYI e1
  simp only [Nat.zero_mul, Nat.add_zero, Nat.one_mul] at c0 c1 c2 c3 d0 d1 d2 d3
  have HXR := hid hxr
  have HYR := hid hyr
  have habl : ab < w.heap.size := World.block_lt_of_cell? w _ c0
  rw [hk2] at g03 hac1
  have hkf := hid (show knownF g0 s = (if (slook s.env x).kind ≠ 2 ∨ (slook s.env y).kind ≠ 2 then (none, s.put 5)
    else if (slook s.env x).n + (slook s.env y).n > 1099511627776 ∨ (slook s.env x).n + (slook s.env y).n < -1099511627776 then (none, s.put 5)
    else (some (uniS 400 [(z, .mk 2 ((slook s.env x).n + (slook s.env y).n) ByteArray.empty [])] s.env).ok, { s with env := (uniS 400 [(z, .mk 2 ((slook s.env x).n + (slook s.env y).n) ByteArray.empty [])] s.env).env })) by
    rw [knownF, if_neg s1, if_neg s2, if_neg s3, if_neg s4, e0, e1, e2]
    simp only
    rw [if_neg s5])
  have HG03 := hid g03
  have HG02 := hid g02
  clear hxr hyr hea hee hx hy e0 e1 hk2 e2
  clear h hE hg0 hlen hout hgA hgb hgr hgrest hpv htv hov
  try clear hcv
  go_enter Tryd.func92, Tryd.ntmps92
  go_wp2_with fail
  have HA0 := hid (fun (w' : World) (hb : Below w.heap.size w w') => (show w'.cell? ⟨gb, 3, none⟩ = _ ∧ w'.cell? ⟨ab, aoff, none⟩ = _ ∧ w'.cell? ⟨ab, aoff + 1, none⟩ = _ ∧ w'.cell? ⟨ab, aoff + 2, none⟩ = _ ∧ w'.cell? ⟨ab, aoff + 3, none⟩ = _ ∧ w'.cell? ⟨ab, aoff + 4, none⟩ = _ ∧ w'.cell? ⟨ab, aoff + 4 + 1, none⟩ = _ ∧ w'.cell? ⟨ab, aoff + 4 + 2, none⟩ = _ ∧ w'.cell? ⟨ab, aoff + 4 + 3, none⟩ = _ from
    have hk := Keeps.of_below (A := fun _ => True) hb
    ⟨hk.cell trivial g03, hk.cell trivial c0, hk.cell trivial c1, hk.cell trivial c2, hk.cell trivial c3, hk.cell trivial d0, hk.cell trivial d1, hk.cell trivial d2, hk.cell trivial d3⟩))
  have HEN := hid HU.out.envAt
  have HXR2 := hid (Tm.rep_lasts.2.1 _ (fun b => SA g mb g tv cv ov b ∧ b < w.heap.size) _ _ _ HXR.out fun b hb h => ⟨h, hb⟩)
  have HYR2 := hid (Tm.rep_lasts.2.1 _ (fun b => SA g mb g tv cv ov b ∧ b < w.heap.size) _ _ _ HYR.out fun b hb h => ⟨h, hb⟩)
  clear g00 g01 g02 g03 g04 g05 gf c0 c1 c2 c3 d0 d1 d2 d3 b0 b1 b2 b3 b4 b5 b6 b7 bf
  refine wp_region_front4 20 (fun _ => false) 18 (D := fun k v u _ => k = 19 → v ≠ u) (Inv := fun w' => Below w.heap.size w w') (Po := posts [IsV (.pointer (some ⟨g, 0, none⟩)), IsV (.pointer (some ⟨gb, 0, none⟩)), IsV (.pointer (some ⟨gb, 0, none⟩)), IsV (.pointer (some ⟨gb, 0, none⟩)), IsV (.pointer (some ⟨gb, 3, none⟩)), IsV (.slice (some ⟨ab, aoff, none⟩) 3 gcap), IsV (.pointer (some ⟨ab, aoff, none⟩)), IsV (.agg #[.int .i64 x.kind, .int .i64 x.n, .string x.s, .slice xa x.args.length xc]), IsTA (fun b => SA g mb g tv cv ov b ∧ b < w.heap.size) (slook s.env x), IsV (.pointer (some ⟨g, 0, none⟩)), IsV (.pointer (some ⟨gb, 0, none⟩)), IsV (.pointer (some ⟨gb, 0, none⟩)), IsV (.pointer (some ⟨gb, 0, none⟩)), IsV (.pointer (some ⟨gb, 3, none⟩)), IsV (.slice (some ⟨ab, aoff, none⟩) 3 gcap), IsV (.pointer (some ⟨ab, aoff + 4, none⟩)), IsV (.agg #[.int .i64 y.kind, .int .i64 y.n, .string y.s, .slice ya y.args.length yc]), IsTA (fun b => SA g mb g tv cv ov b ∧ b < w.heap.size) (slook s.env y), IsTB w.heap.size, IsTB w.heap.size]) (Rl := fun w w' => Below w.heap.size w w') (by kernel_rfl) ⟨by decide, rfl⟩ (fun p v u w hp => by cases hp) (fun _ _ _ _ _ h _ => h) (by kernel_rfl) (by kernel_rfl) (fun _ _ _ _ h => h) (by kernel_rfl) (by kernel_rfl) ((Below.refl _ _).drew) ?_ ?_ ?_ ?_ ?_
  · refine posts_stay fun R hR => ?_
    simp only [List.mem_cons, List.not_mem_nil, or_false] at hR
    rcases hR with rfl | rfl | rfl | rfl | rfl | rfl | rfl | rfl | rfl | rfl | rfl | rfl | rfl | rfl | rfl | rfl | rfl | rfl | rfl | rfl <;> first | exact stays_V _ | exact stays_TA _ _ | exact stays_TB _
  · exact fun w1 w2 h h' => h.trans (h'.mono h.size)
  · intro i o ho hps; cases hps
  · intro i o ho hps f ac ww hinv hpo hdst hold
    clear hps
    match i, ho with
    | 0, ho =>
      obtain rfl : _ = o := Option.some.inj ho
      have t0 := hold 0 (by kernel_rfl)
      refine Or.inl ⟨want0 rfl, ?_⟩
      clear hdst hpo hold ho
      clear hinv
      unfold Ans
      go_simp
      exact ⟨rfl, Below.refl _ _⟩
    | 1, ho =>
      obtain rfl : _ = o := Option.some.inj ho
      have t1 := hold 1 (by kernel_rfl)
      refine Or.inl ⟨want0 rfl, ?_⟩
      clear hdst hpo hold ho
      clear hinv
      unfold Ans
      go_simp
      exact ⟨rfl, Below.refl _ _⟩
    | 2, ho =>
      obtain rfl : _ = o := Option.some.inj ho
      have t64 : ac.tmps[64]? = some (f 1) := hdst 1 64 (by kernel_rfl) (by kernel_rfl)
      have p1 : (IsV (.pointer (some ⟨gb, 0, none⟩))) (f 1) ww := hpo 1 (by kernel_rfl)
      refine Or.inl ⟨want0 rfl, ?_⟩
      clear hdst hpo hold ho
      rw [show f 1 = _ from p1] at t64
      clear hinv
      unfold Ans
      go_simp
      exact ⟨rfl, Below.refl _ _⟩
    | 3, ho =>
      obtain rfl : _ = o := Option.some.inj ho
      have t65 : ac.tmps[65]? = some (f 2) := hdst 2 65 (by kernel_rfl) (by kernel_rfl)
      have p2 : (IsV (.pointer (some ⟨gb, 0, none⟩))) (f 2) ww := hpo 2 (by kernel_rfl)
      refine Or.inl ⟨want0 rfl, ?_⟩
      clear hdst hpo hold ho
      rw [show f 2 = _ from p2] at t65
      clear hinv
      unfold Ans
      go_simp
      exact ⟨rfl, Below.refl _ _⟩
    | 4, ho =>
      obtain rfl : _ = o := Option.some.inj ho
      have t66 : ac.tmps[66]? = some (f 3) := hdst 3 66 (by kernel_rfl) (by kernel_rfl)
      have p3 : (IsV (.pointer (some ⟨gb, 0, none⟩))) (f 3) ww := hpo 3 (by kernel_rfl)
      refine Or.inl ⟨want0 rfl, ?_⟩
      clear hdst hpo hold ho
      rw [show f 3 = _ from p3] at t66
      clear hinv
      unfold Ans
      go_simp
      exact ⟨rfl, Below.refl _ _⟩
    | 5, ho =>
      obtain rfl : _ = o := Option.some.inj ho
      have t67 : ac.tmps[67]? = some (f 4) := hdst 4 67 (by kernel_rfl) (by kernel_rfl)
      have p4 : (IsV (.pointer (some ⟨gb, 3, none⟩))) (f 4) ww := hpo 4 (by kernel_rfl)
      refine Or.inl ⟨want0 rfl, ?_⟩
      clear hdst hpo hold ho
      rw [show f 4 = _ from p4] at t67
      obtain ⟨f3, k0, k1, k2, k3, m0, m1, m2, m3⟩ := HA0.out ww hinv
      unfold Ans
      go_simp
      exact ⟨rfl, Below.refl _ _⟩
    | 6, ho =>
      obtain rfl : _ = o := Option.some.inj ho
      have t68 : ac.tmps[68]? = some (f 5) := hdst 5 68 (by kernel_rfl) (by kernel_rfl)
      have p5 : (IsV (.slice (some ⟨ab, aoff, none⟩) 3 gcap)) (f 5) ww := hpo 5 (by kernel_rfl)
      refine Or.inl ⟨want0 rfl, ?_⟩
      clear hdst hpo hold ho
      rw [show f 5 = _ from p5] at t68
      clear hinv
      unfold Ans
      go_simp
      exact ⟨rfl, Below.refl _ _⟩
    | 7, ho =>
      obtain rfl : _ = o := Option.some.inj ho
      have t69 : ac.tmps[69]? = some (f 6) := hdst 6 69 (by kernel_rfl) (by kernel_rfl)
      have p6 : (IsV (.pointer (some ⟨ab, aoff, none⟩))) (f 6) ww := hpo 6 (by kernel_rfl)
      refine Or.inl ⟨want0 rfl, ?_⟩
      clear hdst hpo hold ho
      rw [show f 6 = _ from p6] at t69
      obtain ⟨f3, k0, k1, k2, k3, m0, m1, m2, m3⟩ := HA0.out ww hinv
      unfold Ans
      go_simp
      exact ⟨rfl, Below.refl _ _⟩
    | 8, ho =>
      obtain rfl : _ = o := Option.some.inj ho
      have t63 : ac.tmps[63]? = some (f 0) := hdst 0 63 (by kernel_rfl) (by kernel_rfl)
      have p0 : (IsV (.pointer (some ⟨g, 0, none⟩))) (f 0) ww := hpo 0 (by kernel_rfl)
      have t70 : ac.tmps[70]? = some (f 7) := hdst 7 70 (by kernel_rfl) (by kernel_rfl)
      have p7 : (IsV (.agg #[.int .i64 x.kind, .int .i64 x.n, .string x.s, .slice xa x.args.length xc])) (f 7) ww := hpo 7 (by kernel_rfl)
      refine Or.inl ⟨want0 rfl, ?_⟩
      clear hdst hpo hold ho
      rw [show f 0 = _ from p0] at t63
      rw [show f 7 = _ from p7] at t70
      unfold Ans
      go_simp
      refine (slook_ok x (fun b => SA g mb g tv cv ov b ∧ b < w.heap.size) ww [_, _, _, _] (HU.out.below hinv) HE.out HXI.out (HEN.out.keeps (Keeps.of_below (A := fun _ => True) hinv) (fun _ _ => trivial) trivial) (Tm.rep_lasts.1 _ _ _ _ _ HXR2.out (Keeps.of_below hinv))).mono ?_
      rintro e w1 ⟨v, rfl, hb1, hv⟩
      exact ⟨_, rfl, hv, hb1⟩
    | 9, ho =>
      obtain rfl : _ = o := Option.some.inj ho
      have t0 := hold 0 (by kernel_rfl)
      refine Or.inl ⟨want0 rfl, ?_⟩
      clear hdst hpo hold ho
      clear hinv
      unfold Ans
      go_simp
      exact ⟨rfl, Below.refl _ _⟩
    | 10, ho =>
      obtain rfl : _ = o := Option.some.inj ho
      have t1 := hold 1 (by kernel_rfl)
      refine Or.inl ⟨want0 rfl, ?_⟩
      clear hdst hpo hold ho
      clear hinv
      unfold Ans
      go_simp
      exact ⟨rfl, Below.refl _ _⟩
    | 11, ho =>
      obtain rfl : _ = o := Option.some.inj ho
      have t73 : ac.tmps[73]? = some (f 10) := hdst 10 73 (by kernel_rfl) (by kernel_rfl)
      have p10 : (IsV (.pointer (some ⟨gb, 0, none⟩))) (f 10) ww := hpo 10 (by kernel_rfl)
      refine Or.inl ⟨want0 rfl, ?_⟩
      clear hdst hpo hold ho
      rw [show f 10 = _ from p10] at t73
      clear hinv
      unfold Ans
      go_simp
      exact ⟨rfl, Below.refl _ _⟩
    | 12, ho =>
      obtain rfl : _ = o := Option.some.inj ho
      have t74 : ac.tmps[74]? = some (f 11) := hdst 11 74 (by kernel_rfl) (by kernel_rfl)
      have p11 : (IsV (.pointer (some ⟨gb, 0, none⟩))) (f 11) ww := hpo 11 (by kernel_rfl)
      refine Or.inl ⟨want0 rfl, ?_⟩
      clear hdst hpo hold ho
      rw [show f 11 = _ from p11] at t74
      clear hinv
      unfold Ans
      go_simp
      exact ⟨rfl, Below.refl _ _⟩
    | 13, ho =>
      obtain rfl : _ = o := Option.some.inj ho
      have t75 : ac.tmps[75]? = some (f 12) := hdst 12 75 (by kernel_rfl) (by kernel_rfl)
      have p12 : (IsV (.pointer (some ⟨gb, 0, none⟩))) (f 12) ww := hpo 12 (by kernel_rfl)
      refine Or.inl ⟨want0 rfl, ?_⟩
      clear hdst hpo hold ho
      rw [show f 12 = _ from p12] at t75
      clear hinv
      unfold Ans
      go_simp
      exact ⟨rfl, Below.refl _ _⟩
    | 14, ho =>
      obtain rfl : _ = o := Option.some.inj ho
      have t76 : ac.tmps[76]? = some (f 13) := hdst 13 76 (by kernel_rfl) (by kernel_rfl)
      have p13 : (IsV (.pointer (some ⟨gb, 3, none⟩))) (f 13) ww := hpo 13 (by kernel_rfl)
      refine Or.inl ⟨want0 rfl, ?_⟩
      clear hdst hpo hold ho
      rw [show f 13 = _ from p13] at t76
      obtain ⟨f3, k0, k1, k2, k3, m0, m1, m2, m3⟩ := HA0.out ww hinv
      unfold Ans
      go_simp
      exact ⟨rfl, Below.refl _ _⟩
    | 15, ho =>
      obtain rfl : _ = o := Option.some.inj ho
      have t77 : ac.tmps[77]? = some (f 14) := hdst 14 77 (by kernel_rfl) (by kernel_rfl)
      have p14 : (IsV (.slice (some ⟨ab, aoff, none⟩) 3 gcap)) (f 14) ww := hpo 14 (by kernel_rfl)
      refine Or.inl ⟨want0 rfl, ?_⟩
      clear hdst hpo hold ho
      rw [show f 14 = _ from p14] at t77
      clear hinv
      unfold Ans
      go_simp
      exact ⟨rfl, Below.refl _ _⟩
    | 16, ho =>
      obtain rfl : _ = o := Option.some.inj ho
      have t78 : ac.tmps[78]? = some (f 15) := hdst 15 78 (by kernel_rfl) (by kernel_rfl)
      have p15 : (IsV (.pointer (some ⟨ab, aoff + 4, none⟩))) (f 15) ww := hpo 15 (by kernel_rfl)
      refine Or.inl ⟨want0 rfl, ?_⟩
      clear hdst hpo hold ho
      rw [show f 15 = _ from p15] at t78
      obtain ⟨f3, k0, k1, k2, k3, m0, m1, m2, m3⟩ := HA0.out ww hinv
      unfold Ans
      go_simp
      exact ⟨rfl, Below.refl _ _⟩
    | 17, ho =>
      obtain rfl : _ = o := Option.some.inj ho
      have t72 : ac.tmps[72]? = some (f 9) := hdst 9 72 (by kernel_rfl) (by kernel_rfl)
      have p9 : (IsV (.pointer (some ⟨g, 0, none⟩))) (f 9) ww := hpo 9 (by kernel_rfl)
      have t79 : ac.tmps[79]? = some (f 16) := hdst 16 79 (by kernel_rfl) (by kernel_rfl)
      have p16 : (IsV (.agg #[.int .i64 y.kind, .int .i64 y.n, .string y.s, .slice ya y.args.length yc])) (f 16) ww := hpo 16 (by kernel_rfl)
      refine Or.inl ⟨want0 rfl, ?_⟩
      clear hdst hpo hold ho
      rw [show f 9 = _ from p9] at t72
      rw [show f 16 = _ from p16] at t79
      unfold Ans
      go_simp
      refine (slook_ok y (fun b => SA g mb g tv cv ov b ∧ b < w.heap.size) ww [_, _, _, _] (HU.out.below hinv) HE.out HYI.out (HEN.out.keeps (Keeps.of_below (A := fun _ => True) hinv) (fun _ _ => trivial) trivial) (Tm.rep_lasts.1 _ _ _ _ _ HYR2.out (Keeps.of_below hinv))).mono ?_
      rintro e w1 ⟨v, rfl, hb1, hv⟩
      exact ⟨_, rfl, hv, hb1⟩
    | 18, ho =>
      obtain rfl : _ = o := Option.some.inj ho
      refine Or.inl ⟨want0 rfl, ?_⟩
      clear hdst hpo hold ho
      unfold Ans
      go_simp
      refine ⟨⟨_, rfl, hinv.size, blk_new _ _⟩, (Below.refl _ _).alloc (Nat.le_refl _) _, fun k u hu hk => ?_⟩
      subst hk
      obtain ⟨gg, rfl, -, hgg⟩ := (show IsTB w.heap.size u ww from hu)
      have := blk_lt hgg
      intro e
      simp only [Value.pointer.injEq, Option.some.injEq, Addr.mk.injEq] at e
      omega
    | 19, ho =>
      obtain rfl : _ = o := Option.some.inj ho
      refine Or.inl ⟨want0 rfl, ?_⟩
      clear hdst hpo hold ho
      unfold Ans
      go_simp
      refine ⟨⟨_, rfl, hinv.size, blk_new _ _⟩, (Below.refl _ _).alloc (Nat.le_refl _) _, fun u hu _ => ?_⟩
      obtain ⟨gg, rfl, -, hgg⟩ := (show IsTB w.heap.size u ww from hu)
      have := blk_lt hgg
      intro e
      simp only [Value.pointer.injEq, Option.some.injEq, Addr.mk.injEq] at e
      omega
    | i + 20, ho => simp at ho
  · intro f ww hinv hpo hD
    have p8 : (IsTA (fun b => SA g mb g tv cv ov b ∧ b < w.heap.size) (slook s.env x)) (f 8) ww := hpo 8 (by decide)
    have p17 : (IsTA (fun b => SA g mb g tv cv ov b ∧ b < w.heap.size) (slook s.env y)) (f 17) ww := hpo 17 (by decide)
    have p18 : (IsTB w.heap.size) (f 18) ww := hpo 18 (by decide)
    have p19 : (IsTB w.heap.size) (f 19) ww := hpo 19 (by decide)
    have hD19 : f 19 ≠ f 18 := hD 19 (by decide) (by decide) rfl
    obtain ⟨us8, e8, hr8⟩ := p8
    obtain ⟨us17, e17, hr17⟩ := p17
    obtain ⟨b7', e18, hg7, hx7⟩ := p18
    obtain ⟨b8', e19, hg8, hx8⟩ := p19
    rw [e18, e19] at hD19
    have hne : b8' ≠ b7' := fun e => hD19 (by rw [e])
    have hne' : b7' ≠ b8' := fun e => hne e.symm
    have e0 := (show f 0 = _ from hpo 0 (by decide))
    have e1 := (show f 1 = _ from hpo 1 (by decide))
    have e2 := (show f 2 = _ from hpo 2 (by decide))
    have e3 := (show f 3 = _ from hpo 3 (by decide))
    have e4 := (show f 4 = _ from hpo 4 (by decide))
    have e5 := (show f 5 = _ from hpo 5 (by decide))
    have e6 := (show f 6 = _ from hpo 6 (by decide))
    have e7 := (show f 7 = _ from hpo 7 (by decide))
    have e9 := (show f 9 = _ from hpo 9 (by decide))
    have e10 := (show f 10 = _ from hpo 10 (by decide))
    have e11 := (show f 11 = _ from hpo 11 (by decide))
    have e12 := (show f 12 = _ from hpo 12 (by decide))
    have e13 := (show f 13 = _ from hpo 13 (by decide))
    have e14 := (show f 14 = _ from hpo 14 (by decide))
    have e15 := (show f 15 = _ from hpo 15 (by decide))
    have e16 := (show f 16 = _ from hpo 16 (by decide))
    simp only [fillT, List.take_succ_cons, List.take_zero, List.setIfInBounds_toArray, List.set_cons_succ, List.set_cons_zero]
    rw [e0, e1, e2, e3, e4, e5, e6, e7, e8, e9, e10, e11, e12, e13, e14, e15, e16, e17, e18, e19]
    have HAI := hid (slook_in HE.out HXI.out)
    have HBI := hid (slook_in HE.out HYI.out)
    clear e0 e1 e2 e3 e4 e5 e6 e7 e8 e9 e10 e11 e12 e13 e14 e15 e16 e17 e18 e19 hD19 hpo hD
    generalize slook s.env x = a at *
    generalize slook s.env y = b at *
    obtain ⟨aa, aca, rfl, -⟩ := Tm.rep4 hr8
    obtain ⟨ba, bca, rfl, -⟩ := Tm.rep4 hr17
    have HINV := hid hinv
    obtain ⟨y0, y1, y2, y3, yf⟩ := blk4 hx7
    obtain ⟨z0, z1, z2, z3, zf⟩ := blk4 hx8
    have hb7l := blk_lt hx7
    have hb8l := blk_lt hx8
    have HX7 := hid hx7
    have HX8 := hid hx8
    clear hinv hr8 hr17 hx7 hx8
    refine wpAny_only (i := 20) (by kernel_rfl) (wpOp_run rfl (by rfl) ?_)
    go_simp
    refine wpAny_only (i := 21) (by kernel_rfl) (wpOp_run rfl (by rfl) ?_)
    go_simp
    refine wpAny_all (by kernel_rfl) ?_ _
    have hBW : Below w.heap.size w ((((((((ww.setCell ⟨b7', 0, none⟩ (.int .i64 a.kind)).setCell ⟨b7', 1, none⟩ (.int .i64 a.n)).setCell ⟨b7', 2, none⟩ (.string a.s)).setCell ⟨b7', 3, none⟩ (.slice aa a.args.length aca)).setCell ⟨b8', 0, none⟩ (.int .i64 b.kind)).setCell ⟨b8', 1, none⟩ (.int .i64 b.n)).setCell ⟨b8', 2, none⟩ (.string b.s)).setCell ⟨b8', 3, none⟩ (.slice ba b.args.length bca)) := below_set4 (below_set4 HINV.out hg7 _ _ _ _) hg8 _ _ _ _
    have HX7' := hid (show ((((((((ww.setCell ⟨b7', 0, none⟩ (.int .i64 a.kind)).setCell ⟨b7', 1, none⟩ (.int .i64 a.n)).setCell ⟨b7', 2, none⟩ (.string a.s)).setCell ⟨b7', 3, none⟩ (.slice aa a.args.length aca)).setCell ⟨b8', 0, none⟩ (.int .i64 b.kind)).setCell ⟨b8', 1, none⟩ (.int .i64 b.n)).setCell ⟨b8', 2, none⟩ (.string b.s)).setCell ⟨b8', 3, none⟩ (.slice ba b.args.length bca)).heap[b7']? = some (.cells #[.int .i64 a.kind, .int .i64 a.n, .string a.s, .slice aa a.args.length aca] 31 (0, 0)) from (set4_other _ _ _ _ _ _ _ hne').trans (set4 HX7.out))
    have HX8' := hid (show ((((((((ww.setCell ⟨b7', 0, none⟩ (.int .i64 a.kind)).setCell ⟨b7', 1, none⟩ (.int .i64 a.n)).setCell ⟨b7', 2, none⟩ (.string a.s)).setCell ⟨b7', 3, none⟩ (.slice aa a.args.length aca)).setCell ⟨b8', 0, none⟩ (.int .i64 b.kind)).setCell ⟨b8', 1, none⟩ (.int .i64 b.n)).setCell ⟨b8', 2, none⟩ (.string b.s)).setCell ⟨b8', 3, none⟩ (.slice ba b.args.length bca)).heap[b8']? = some (.cells #[.int .i64 b.kind, .int .i64 b.n, .string b.s, .slice ba b.args.length bca] 31 (0, 0)) from set4 ((set4_other _ _ _ _ _ _ _ hne).trans HX8.out))
    have HBW := hid hBW
    clear hBW y0 y1 y2 y3 yf z0 z1 z2 z3 zf
    generalize ((((((((ww.setCell ⟨b7', 0, none⟩ (.int .i64 a.kind)).setCell ⟨b7', 1, none⟩ (.int .i64 a.n)).setCell ⟨b7', 2, none⟩ (.string a.s)).setCell ⟨b7', 3, none⟩ (.slice aa a.args.length aca)).setCell ⟨b8', 0, none⟩ (.int .i64 b.kind)).setCell ⟨b8', 1, none⟩ (.int .i64 b.n)).setCell ⟨b8', 2, none⟩ (.string b.s)).setCell ⟨b8', 3, none⟩ (.slice ba b.args.length bca)) = W5 at *
    have hWS := HBW.out.size
    have hb7s := blk_lt HX7'.out
    have hb8s := blk_lt HX8'.out
    have HSV5 := hid (HU.out.below HBW.out)
    obtain ⟨y0, y1, y2, y3, yf⟩ := blk4 HX7'.out
    obtain ⟨z0, z1, z2, z3, zf⟩ := blk4 HX8'.out
    obtain ⟨b0, b1, b2, b3, b4, b5, b6, b7, bf⟩ := box8 HSV5.out.box
    have g02 := (Keeps.of_below (A := fun _ => True) HBW.out).cell trivial HG02.out
    have HST5 := hid (fun (s' : Sv) (w' : World) (hh : SStep base P q g mb pv tv cv ov s' W5 w') =>
      (SStep.trans (Ch.of_below HBW.out) (fun b h => .inl h) (fun b h => .inl h) (fun b h => .inl h) hh : SStep base P q g mb pv tv cv ov s' w w'))
    by_cases hka : a.kind = 2
    · by_cases hkb : b.kind = 2
      · rw [hka] at y0
        rw [hkb] at z0
        have hkf2 := hid (hkf.out.trans (if_neg (by simp [hka, hkb])))
        obtain ⟨hna0, hna1⟩ := HAI.out.num hka
        obtain ⟨hnb0, hnb1⟩ := HBI.out.num hkb
        have hi1 : -9223372036854775808 ≤ a.n + b.n := by omega
        have hi2 : a.n + b.n ≤ 9223372036854775807 := by omega
        clear hka hkb
        by_cases hbig : a.n + b.n > 1099511627776
        · have hbig' : decide (1099511627776 < a.n + b.n) = true := by simpa using hbig
          have hkf3 := hid (hkf2.out.trans (if_pos (.inl hbig)))
          go_wp2_with fail
          refine (send_ok 5 (by unfold I64; omega) HSV5.out HOUT.out).mono ?_
          rintro e W9 ⟨rfl, hst⟩
          have HST := hid (HST5.out _ _ hst)
          clear hst
          go_wp2_with fail
          go_ret2
          rw [hkf3.out]
          exact ⟨rfl, HST.out⟩
        have hbigN : ¬ 1099511627776 < a.n + b.n := hbig
        by_cases hsm : a.n + b.n < -1099511627776
        · have hkf3 := hid (hkf2.out.trans (if_pos (.inr hsm)))
          go_wp2_with fail
          refine (send_ok 5 (by unfold I64; omega) HSV5.out HOUT.out).mono ?_
          rintro e W9 ⟨rfl, hst⟩
          have HST := hid (HST5.out _ _ hst)
          clear hst
          go_wp2_with fail
          go_ret2
          rw [hkf3.out]
          exact ⟨rfl, HST.out⟩
        have hkf3 := hid (hkf2.out.trans (if_neg (fun h => h.elim hbig hsm)))
        obtain ⟨n, hn⟩ : ∃ n, n = a.n + b.n := ⟨_, rfl⟩
        have HI64 := hid (show I64 n by unfold I64; omega)
        have HNI := hid (show (Tm.mk 2 n ByteArray.empty []).In s.vars from Tm.Good.int n (by omega) (by omega))
        rw [← hn] at hkf3
        have HN := hid hn
        clear hbig
        have hk5 := Keeps.of_below (A := fun _ => True) HBW.out
        have g03 := hk5.cell trivial HG03.out
        have f0 := hk5.cell trivial HZC.out.1
        have f1 := hk5.cell trivial HZC.out.2.1
        have f2 := hk5.cell trivial HZC.out.2.2.1
        have f3 := hk5.cell trivial HZC.out.2.2.2
        have hgb5 : gb < W5.heap.size := by omega
        have hab5 : ab < W5.heap.size := by omega
        clear hk5
        go_wp2_with fail
        rw [← HN.out]
        obtain ⟨W6, hW6⟩ : ∃ W6, W6 = W5.alloc (.cells #[.int .i64 400] 3) := ⟨_, rfl⟩
        obtain ⟨xb, hxb⟩ : ∃ xb, xb = W5.heap.size := ⟨_, rfl⟩
        have HSV6 := hid (show SvI base P q g mb xb _ _ _ _ s W6 by rw [hxb, hW6]; exact HSV5.out.leave _)
        have HWK6 := hid (show WkAt xb 400 W6 by rw [hxb, hW6]; exact blk_new _ _)
        have HB6 := hid (show Below W5.heap.size W5 W6 by rw [hW6]; exact (Below.refl _ _).alloc (Nat.le_refl _) _)
        have hs6 : W6.heap.size = xb + 1 := by rw [hW6, hxb]; simp
        have hxw : W5.heap.size ≤ xb := by omega
        have hxg : xb ≠ g := by omega
        rw [← hW6, ← hxb]
        have HBw := hid (HBW.out.trans (HB6.out.mono hWS))
        clear hW6 hxb b0 b1 b2 b3 b4 b5 b6 b7 bf y0 y1 y2 y3 yf z0 z1 z2 z3 zf g02 g03 f0 f1 f2 f3 hbigN hsm hn hi1 hi2 hna0 hna1 hnb0 hnb1
        refine (sunify_ok (by omega) 400 (Nat.le_refl _) tv s z (.mk 2 n ByteArray.empty []) W6 [_, _, _, _] [_, _, _, _] HSV6.out HWK6.out HE.out HZI.out HNI.out (Tm.rep_lasts.1 _ _ _ _ _ (Tm.rep_lasts.2.1 _ (SA g mb xb tv cv ov) _ _ _ HZR.out fun b hb h => ⟨h.1, by omega⟩) (Keeps.of_below HBw.out)) (leaf_rep _ _ 2 n ByteArray.empty (by unfold I64; omega) HI64.out (by decide)) (by have := HLEN.out; omega)).mono ?_
        rintro e W8 ⟨rfl, ⟨t8, hsv8, hch8, hta8⟩, hwk8⟩
        generalize uniS 400 [(z, Tm.mk 2 n ByteArray.empty [])] s.env = u at *
        obtain ⟨uo, ue, uw⟩ := u
        have HSV8 := hid hsv8.take_in
        have HCHw := hid (show Ch (SM g mb tv cv ov) w W8 from (Ch.of_below (M := SM g mb tv cv ov) HBw.out).trans hch8 (fun b hb => hb.elim .inl (fun e => .inr (by omega))))
        have hz6 := HBw.out.size
        have HTA8 := hid (show ∀ b, ownB t8 = some b → ownB tv = some b ∨ w.heap.size ≤ b from fun b hb => (hta8 b hb).imp id (fun e => by omega))
        clear hsv8 hch8 hwk8 hta8
        go_wp2_with fail
        go_ret2
        rw [hkf3.out]
        exact ⟨rfl, SStep.trans HCHw.out HTA8.out (fun b h => .inl h) (fun b h => .inl h) (SStep.refl HSV8.out)⟩
      · have hkf2 := hid (hkf.out.trans (if_pos (.inr hkb)))
        have hkb' : (b.kind != 2) = true := by simpa using hkb
        rw [hka] at y0
        clear hka
        go_wp2_with fail
        refine (send_ok 5 (by unfold I64; omega) HSV5.out HOUT.out).mono ?_
        rintro e W9 ⟨rfl, hst⟩
        have HST := hid (HST5.out _ _ hst)
        clear hst
        go_wp2_with fail
        go_ret2
        rw [hkf2.out]
        exact ⟨rfl, HST.out⟩
    · have hkf2 := hid (hkf.out.trans (if_pos (.inl hka)))
      have hka' : (a.kind != 2) = true := by simpa using hka
      go_wp2_with fail
      refine (send_ok 5 (by unfold I64; omega) HSV5.out HOUT.out).mono ?_
      rintro e W9 ⟨rfl, hst⟩
      have HST := hid (HST5.out _ _ hst)
      clear hst
      go_wp2_with fail
      go_ret2
      rw [hkf2.out]
      exact ⟨rfl, HST.out⟩
end
end Go.Proofs.YtlpmfkpefoegeabDoor
