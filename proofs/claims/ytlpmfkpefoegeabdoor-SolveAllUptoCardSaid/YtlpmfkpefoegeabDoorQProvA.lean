/-
  The document's prover: simple (less, add).
-/
import Derived.Test.YtlpmfkpefoegeabDoorQSolveN
import Derived.Test.YtlpmfkpefoegeabDoorQSolveO
namespace Go.Proofs.YtlpmfkpefoegeabDoor
set_option linter.unusedVariables false
set_option linter.unusedSimpArgs false
open Go.RowKit
theorem uniS_int {N : Int} {E : Env} (hE : EnvOk N E) (z : Tm) (hz : z.In N) (n : Int) : 0 ≤ (uniS 400 [(z, .mk 2 n ByteArray.empty [])] E).work := by
  have h2 : slook E (.mk 2 n ByteArray.empty []) = .mk 2 n ByteArray.empty [] := slook_stop (.inl (by show (2 : Int) ≠ 0; decide))
  rw [uniS_succ, h2]
  simp only [show (Tm.mk 2 n ByteArray.empty []).kind = 2 from rfl, show ((2 : Int) = 0) = False from by simp, and_false, or_false, if_false]
  split
  · rename_i hk
    have hin : inS E (slook E z).n 399 [.mk 2 n ByteArray.empty []] = (false, 398) := by
      rw [inS_succ, h2, if_neg (by show ¬ (2 : Int) = 0; decide)]
      show inS E _ 398 ([] ++ []) = _
      rw [List.append_nil, inS_nil]
      rfl
    rw [hin]
    simp only [Bool.false_eq_true, false_or]
    rw [if_neg (by omega), uniS_nil]
    simp only
    omega
  · split
    · simp only; omega
    · rename_i h1 h3
      have : (slook E z).args.length = 0 := (Decidable.not_not.1 h3).2.2.2
      rw [List.length_eq_zero_iff] at this
      rw [this]
      show 0 ≤ (uniS 399 ([] ++ []) E).work
      rw [List.append_nil, uniS_nil]
      simp only
      omega
section
variable {base : Nat} {P : List Cl} {q g : Nat} {pv : Value} {pr : List Td → Env → Pv → Int × Pv} {gt : Td} {rest : List Td} {p : Pv} {E : Env} {w : World} {ov tv ev : Value}
set_option maxRecDepth 100000 in
set_option maxHeartbeats 4000000 in
theorem psimple_less (s1 : gt.t.s.toList ≠ [33]) (s2 : gt.t.s.toList ≠ [116, 114, 117, 101]) (s3 : gt.t.s.toList ≠ [102, 97, 105, 108]) (s4 : gt.t.s.toList ≠ [101, 113]) (s5 : gt.t.s.toList = [108, 101, 115, 115]) : SimpOK base P q g pv pr gt rest p E w ov tv ev := by
  intro hpr hok hE h hg0 hkn hcall hout htd hev
  have HU := hid h
  have HE := hid hE
  have HG0 := hid hg0
  have HTD := hid htd
  have HPR := hid hpr
  have HOK := hid hok
  have HEV := hid hev
  have HOUT := hid hout
  have hcs := cell_set
  obtain ⟨ep, rfl⟩ := hev.ptr
  obtain ⟨gb, ga, gcap, rv, rfl, hgA, hgb, hgr, hgrest⟩ := htd
  obtain ⟨rp, rfl⟩ := hgrest.ptr
  have HGB := hid hgb
  have HGR := hid hgr
  have HGA := hid hgA
  have HREST := hid hgrest
  obtain ⟨hl1, hl2⟩ := h.lt
  obtain ⟨g00, g01, g02, g03, g04, g05, gf⟩ := blk6 hgb
  have hgbl := blk_lt hgb
  have hc0 : (0 : Int) ≤ (gt.call : Int) := Int.natCast_nonneg _
  have q1 : (gt.t.s.toList == [33]) = false := by simpa using s1
  have q2 : (gt.t.s.toList == [116, 114, 117, 101]) = false := by simpa using s2
  have q3 : (gt.t.s.toList == [102, 97, 105, 108]) = false := by simpa using s3
  have q4 : (gt.t.s.toList == [101, 113]) = false := by simpa using s4
  have q5 : (gt.t.s.toList == [108, 101, 115, 115]) = true := by simpa using s5
  have hk2 : gt.t.args.length = 2 := by
    rcases hkn with ⟨_, h1 | h1 | h1⟩ | ⟨h0, h1⟩ | ⟨h0, h1⟩
    · exact absurd h1 s1
    · exact absurd h1 s2
    · exact absurd h1 s3
    · exact h0
    · rw [s5] at h1; simp at h1
  have q6 : (gt.t.s.toList == [97, 100, 100]) = false := by rw [s5]; decide
  obtain ⟨_, _, ab, aoff, e9, hac1, hac2, -, hea, hee⟩ := SlR.at (show SlR 4 Tm.rep (PA g ov) w gt.t.args (.slice ga gt.t.args.length gcap) by
    obtain ⟨_, _, e, -, -, -, -, -, -, h8⟩ := Tm.rep4 hgr
    simp only [List.cons.injEq, true_and, and_true] at e
    rw [e]; exact h8)
  simp only [Value.slice.injEq, true_and] at e9
  obtain ⟨rfl, rfl⟩ := e9
  obtain ⟨rfl, hAb⟩ := hea (by omega)
  obtain ⟨xa, xc, c0, c1, c2, c3, hxr⟩ := tm_cells hee hAb (Keeps.refl _ _) (k := 0) (by omega)
  obtain ⟨ya, yc, d0, d1, d2, d3, hyr⟩ := tm_cells hee hAb (Keeps.refl _ _) (k := 1) (by omega)
  have HXI := hid (hg0.arg (List.getElem_mem (l := gt.t.args) (n := 0) (by omega)))
  have HYI := hid (hg0.arg (List.getElem_mem (l := gt.t.args) (n := 1) (by omega)))
  have e0 : (gt.t.args[0]?).getD default = gt.t.args[0] := by rw [List.getElem?_eq_getElem (by omega)]; rfl
  have e1 : (gt.t.args[1]?).getD default = gt.t.args[1] := by rw [List.getElem?_eq_getElem (by omega)]; rfl
  obtain ⟨x, hx⟩ : ∃ x, x = gt.t.args[0] := ⟨_, rfl⟩
  obtain ⟨y, hy⟩ : ∃ y, y = gt.t.args[1] := ⟨_, rfl⟩
  rw [← hx] at c0 c1 c2 c3 hxr HXI e0
  rw [← hy] at d0 d1 d2 d3 hyr HYI e1
  simp only [Nat.zero_mul, Nat.add_zero, Nat.one_mul] at c0 c1 c2 c3 d0 d1 d2 d3
  have HXR := hid hxr
  have HYR := hid hyr
  have habl : ab < w.heap.size := World.block_lt_of_cell? w _ c0
  rw [hk2] at g03 hac1
  have hkf := hid (show simpleR pr gt rest E p = (if (slook E x).kind ≠ 2 ∨ (slook E y).kind ≠ 2 then (-1, p.put 5)
    else if (slook E x).n < (slook E y).n then pr rest E p else (-1, p)) by
    rw [simpleR, if_neg s1, if_neg s2, if_neg s3, if_neg s4, e0, e1]
    simp only
    rw [if_pos s5])
  have HG03 := hid g03
  have HG02 := hid g02
  clear hxr hyr hea hee hx hy e0 e1 hk2
  clear h hE hg0 hgA hgb hgr hgrest hpr hok hev
  go_enter Tryd.func95, Tryd.ntmps95
  go_wp2_with fail
  have HA0 := hid (fun (w' : World) (hb : Below w.heap.size w w') => (show w'.cell? ⟨ab, aoff, none⟩ = _ ∧ w'.cell? ⟨ab, aoff + 1, none⟩ = _ ∧ w'.cell? ⟨ab, aoff + 2, none⟩ = _ ∧ w'.cell? ⟨ab, aoff + 3, none⟩ = _ ∧ w'.cell? ⟨ab, aoff + 4, none⟩ = _ ∧ w'.cell? ⟨ab, aoff + 4 + 1, none⟩ = _ ∧ w'.cell? ⟨ab, aoff + 4 + 2, none⟩ = _ ∧ w'.cell? ⟨ab, aoff + 4 + 3, none⟩ = _ from
    have hk := Keeps.of_below (A := fun _ => True) hb
    ⟨hk.cell trivial c0, hk.cell trivial c1, hk.cell trivial c2, hk.cell trivial c3, hk.cell trivial d0, hk.cell trivial d1, hk.cell trivial d2, hk.cell trivial d3⟩))
  have HEA := hid (EnvQ.mono (A' := (fun b => PA g ov b ∧ b < w.heap.size)) HEV.out fun b hb h => ⟨h, hb⟩)
  have HXA := hid (Tm.rep_lasts.2.1 _ (fun b => PA g ov b ∧ b < w.heap.size) _ _ _ HXR.out fun b hb h => ⟨h, hb⟩)
  have HYA := hid (Tm.rep_lasts.2.1 _ (fun b => PA g ov b ∧ b < w.heap.size) _ _ _ HYR.out fun b hb h => ⟨h, hb⟩)
  clear g00 g01 g02 g03 g04 g05 gf c0 c1 c2 c3 d0 d1 d2 d3
  refine wp_region_front4 12 (fun _ => false) 10 (D := fun k v u _ => k = 11 → v ≠ u) (Inv := fun w' => Below w.heap.size w w') (Po := posts [IsV (.pointer ep), IsV (.slice (some ⟨ab, aoff, none⟩) 2 gcap), IsV (.pointer (some ⟨ab, aoff, none⟩)), IsV (.agg #[.int .i64 x.kind, .int .i64 x.n, .string x.s, .slice xa x.args.length xc]), IsTA1 (fun b => PA g ov b ∧ b < w.heap.size) (slook E x), IsV (.pointer ep), IsV (.slice (some ⟨ab, aoff, none⟩) 2 gcap), IsV (.pointer (some ⟨ab, aoff + 4, none⟩)), IsV (.agg #[.int .i64 y.kind, .int .i64 y.n, .string y.s, .slice ya y.args.length yc]), IsTA1 (fun b => PA g ov b ∧ b < w.heap.size) (slook E y), IsTB1 w.heap.size, IsTB1 w.heap.size]) (Rl := fun w w' => Below w.heap.size w w') (by kernel_rfl) ⟨by decide, rfl⟩ (fun p v u w hp => by cases hp) (fun _ _ _ _ _ h _ => h) (by kernel_rfl) (by kernel_rfl) (fun _ _ _ _ h => h) (by kernel_rfl) (by kernel_rfl) ((Below.refl _ _).drew) ?_ ?_ ?_ ?_ ?_
  · refine posts_stay fun R hR => ?_
    simp only [List.mem_cons, List.not_mem_nil, or_false] at hR
    rcases hR with rfl | rfl | rfl | rfl | rfl | rfl | rfl | rfl | rfl | rfl | rfl | rfl <;> first | exact stays_V _ | exact stays_TA1 _ _ | exact stays_TB1 _
  · exact fun w1 w2 h h' => h.trans (h'.mono h.size)
  · intro i o ho hps; cases hps
  · intro i o ho hps f ac ww hinv hpo hdst hold
    clear hps
    match i, ho with
    | 0, ho =>
      obtain rfl : _ = o := Option.some.inj ho
      have t2 := hold 2 (by kernel_rfl)
      refine Or.inl ⟨want0 rfl, ?_⟩
      clear hdst hpo hold ho
      clear hinv
      unfold Ans
      go_simp
      exact ⟨rfl, Below.refl _ _⟩
    | 1, ho =>
      obtain rfl : _ = o := Option.some.inj ho
      have t8 := hold 8 (by kernel_rfl)
      refine Or.inl ⟨want0 rfl, ?_⟩
      clear hdst hpo hold ho
      clear hinv
      unfold Ans
      go_simp
      exact ⟨rfl, Below.refl _ _⟩
    | 2, ho =>
      obtain rfl : _ = o := Option.some.inj ho
      have t66 : ac.tmps[66]? = some (f 1) := hdst 1 66 (by kernel_rfl) (by kernel_rfl)
      have p1 : (IsV (.slice (some ⟨ab, aoff, none⟩) 2 gcap)) (f 1) ww := hpo 1 (by kernel_rfl)
      refine Or.inl ⟨want0 rfl, ?_⟩
      clear hdst hpo hold ho
      rw [show f 1 = _ from p1] at t66
      clear hinv
      unfold Ans
      go_simp
      exact ⟨rfl, Below.refl _ _⟩
    | 3, ho =>
      obtain rfl : _ = o := Option.some.inj ho
      have t67 : ac.tmps[67]? = some (f 2) := hdst 2 67 (by kernel_rfl) (by kernel_rfl)
      have p2 : (IsV (.pointer (some ⟨ab, aoff, none⟩))) (f 2) ww := hpo 2 (by kernel_rfl)
      refine Or.inl ⟨want0 rfl, ?_⟩
      clear hdst hpo hold ho
      rw [show f 2 = _ from p2] at t67
      obtain ⟨k0, k1, k2, k3, m0, m1, m2, m3⟩ := HA0.out ww hinv
      unfold Ans
      go_simp
      exact ⟨rfl, Below.refl _ _⟩
    | 4, ho =>
      obtain rfl : _ = o := Option.some.inj ho
      have t65 : ac.tmps[65]? = some (f 0) := hdst 0 65 (by kernel_rfl) (by kernel_rfl)
      have p0 : (IsV (.pointer ep)) (f 0) ww := hpo 0 (by kernel_rfl)
      have t68 : ac.tmps[68]? = some (f 3) := hdst 3 68 (by kernel_rfl) (by kernel_rfl)
      have p3 : (IsV (.agg #[.int .i64 x.kind, .int .i64 x.n, .string x.s, .slice xa x.args.length xc])) (f 3) ww := hpo 3 (by kernel_rfl)
      refine Or.inl ⟨want0 rfl, ?_⟩
      clear hdst hpo hold ho
      rw [show f 0 = _ from p0] at t65
      rw [show f 3 = _ from p3] at t68
      unfold Ans
      go_simp
      refine (elook_ok HE.out x HXI.out (fun b => PA g ov b ∧ b < w.heap.size) ww _ [_, _, _, _] (HEA.out.keeps (Keeps.of_below hinv)) (Tm.rep_lasts.1 _ _ _ _ _ HXA.out (Keeps.of_below hinv))).mono ?_
      rintro e w1 ⟨v, rfl, hb1, hv⟩
      exact ⟨_, rfl, hv, hb1⟩
    | 5, ho =>
      obtain rfl : _ = o := Option.some.inj ho
      have t2 := hold 2 (by kernel_rfl)
      refine Or.inl ⟨want0 rfl, ?_⟩
      clear hdst hpo hold ho
      clear hinv
      unfold Ans
      go_simp
      exact ⟨rfl, Below.refl _ _⟩
    | 6, ho =>
      obtain rfl : _ = o := Option.some.inj ho
      have t8 := hold 8 (by kernel_rfl)
      refine Or.inl ⟨want0 rfl, ?_⟩
      clear hdst hpo hold ho
      clear hinv
      unfold Ans
      go_simp
      exact ⟨rfl, Below.refl _ _⟩
    | 7, ho =>
      obtain rfl : _ = o := Option.some.inj ho
      have t71 : ac.tmps[71]? = some (f 6) := hdst 6 71 (by kernel_rfl) (by kernel_rfl)
      have p6 : (IsV (.slice (some ⟨ab, aoff, none⟩) 2 gcap)) (f 6) ww := hpo 6 (by kernel_rfl)
      refine Or.inl ⟨want0 rfl, ?_⟩
      clear hdst hpo hold ho
      rw [show f 6 = _ from p6] at t71
      clear hinv
      unfold Ans
      go_simp
      exact ⟨rfl, Below.refl _ _⟩
    | 8, ho =>
      obtain rfl : _ = o := Option.some.inj ho
      have t72 : ac.tmps[72]? = some (f 7) := hdst 7 72 (by kernel_rfl) (by kernel_rfl)
      have p7 : (IsV (.pointer (some ⟨ab, aoff + 4, none⟩))) (f 7) ww := hpo 7 (by kernel_rfl)
      refine Or.inl ⟨want0 rfl, ?_⟩
      clear hdst hpo hold ho
      rw [show f 7 = _ from p7] at t72
      obtain ⟨k0, k1, k2, k3, m0, m1, m2, m3⟩ := HA0.out ww hinv
      unfold Ans
      go_simp
      exact ⟨rfl, Below.refl _ _⟩
    | 9, ho =>
      obtain rfl : _ = o := Option.some.inj ho
      have t70 : ac.tmps[70]? = some (f 5) := hdst 5 70 (by kernel_rfl) (by kernel_rfl)
      have p5 : (IsV (.pointer ep)) (f 5) ww := hpo 5 (by kernel_rfl)
      have t73 : ac.tmps[73]? = some (f 8) := hdst 8 73 (by kernel_rfl) (by kernel_rfl)
      have p8 : (IsV (.agg #[.int .i64 y.kind, .int .i64 y.n, .string y.s, .slice ya y.args.length yc])) (f 8) ww := hpo 8 (by kernel_rfl)
      refine Or.inl ⟨want0 rfl, ?_⟩
      clear hdst hpo hold ho
      rw [show f 5 = _ from p5] at t70
      rw [show f 8 = _ from p8] at t73
      unfold Ans
      go_simp
      refine (elook_ok HE.out y HYI.out (fun b => PA g ov b ∧ b < w.heap.size) ww _ [_, _, _, _] (HEA.out.keeps (Keeps.of_below hinv)) (Tm.rep_lasts.1 _ _ _ _ _ HYA.out (Keeps.of_below hinv))).mono ?_
      rintro e w1 ⟨v, rfl, hb1, hv⟩
      exact ⟨_, rfl, hv, hb1⟩
    | 10, ho =>
      obtain rfl : _ = o := Option.some.inj ho
      refine Or.inl ⟨want0 rfl, ?_⟩
      clear hdst hpo hold ho
      unfold Ans
      go_simp
      refine ⟨⟨_, rfl, hinv.size, blk_new _ _⟩, (Below.refl _ _).alloc (Nat.le_refl _) _, fun k u hu hk => ?_⟩
      subst hk
      obtain ⟨gg, rfl, -, hgg⟩ := (show IsTB1 w.heap.size u ww from hu)
      have := blk_lt hgg
      intro e
      simp only [Value.pointer.injEq, Option.some.injEq, Addr.mk.injEq] at e
      omega
    | 11, ho =>
      obtain rfl : _ = o := Option.some.inj ho
      refine Or.inl ⟨want0 rfl, ?_⟩
      clear hdst hpo hold ho
      unfold Ans
      go_simp
      refine ⟨⟨_, rfl, hinv.size, blk_new _ _⟩, (Below.refl _ _).alloc (Nat.le_refl _) _, fun u hu _ => ?_⟩
      obtain ⟨gg, rfl, -, hgg⟩ := (show IsTB1 w.heap.size u ww from hu)
      have := blk_lt hgg
      intro e
      simp only [Value.pointer.injEq, Option.some.injEq, Addr.mk.injEq] at e
      omega
    | i + 12, ho => simp at ho
  · intro f ww hinv hpo hD
    have p4 : (IsTA1 (fun b => PA g ov b ∧ b < w.heap.size) (slook E x)) (f 4) ww := hpo 4 (by decide)
    have p9 : (IsTA1 (fun b => PA g ov b ∧ b < w.heap.size) (slook E y)) (f 9) ww := hpo 9 (by decide)
    have p10 : (IsTB1 w.heap.size) (f 10) ww := hpo 10 (by decide)
    have p11 : (IsTB1 w.heap.size) (f 11) ww := hpo 11 (by decide)
    have hD11 : f 11 ≠ f 10 := hD 11 (by decide) (by decide) rfl
    obtain ⟨us4, e4, hr4⟩ := p4
    obtain ⟨us9, e9, hr9⟩ := p9
    obtain ⟨b7, e10, hg7, hx7⟩ := p10
    obtain ⟨b8, e11, hg8, hx8⟩ := p11
    rw [e10, e11] at hD11
    have hne : b8 ≠ b7 := fun e => hD11 (by rw [e])
    have hne' : b7 ≠ b8 := fun e => hne e.symm
    have e0 := (show f 0 = _ from hpo 0 (by decide))
    have e1 := (show f 1 = _ from hpo 1 (by decide))
    have e2 := (show f 2 = _ from hpo 2 (by decide))
    have e3 := (show f 3 = _ from hpo 3 (by decide))
    have e5 := (show f 5 = _ from hpo 5 (by decide))
    have e6 := (show f 6 = _ from hpo 6 (by decide))
    have e7 := (show f 7 = _ from hpo 7 (by decide))
    have e8 := (show f 8 = _ from hpo 8 (by decide))
    simp only [fillT, List.take_succ_cons, List.take_zero, List.setIfInBounds_toArray, List.set_cons_succ, List.set_cons_zero]
    rw [e0, e1, e2, e3, e4, e5, e6, e7, e8, e9, e10, e11]
    have HAI := hid (slook_in HE.out HXI.out)
    have HBI := hid (slook_in HE.out HYI.out)
    clear e0 e1 e2 e3 e4 e5 e6 e7 e8 e9 e10 e11 hD11 hpo hD
    generalize slook E x = a at *
    generalize slook E y = b at *
    obtain ⟨aa, aca, rfl, -⟩ := Tm.rep4 hr4
    obtain ⟨ba, bca, rfl, -⟩ := Tm.rep4 hr9
    have HINV := hid hinv
    obtain ⟨y0, y1, y2, y3, yf⟩ := blk4 hx7
    obtain ⟨z0, z1, z2, z3, zf⟩ := blk4 hx8
    have hb7l := blk_lt hx7
    have hb8l := blk_lt hx8
    have HX7 := hid hx7
    have HX8 := hid hx8
    clear hinv hr4 hr9 hx7 hx8
    refine wpAny_only (i := 12) (by kernel_rfl) (wpOp_run rfl (by rfl) ?_)
    go_simp
    refine wpAny_only (i := 13) (by kernel_rfl) (wpOp_run rfl (by rfl) ?_)
    go_simp
    refine wpAny_all (by kernel_rfl) ?_ _
    have HBW := hid (show Below w.heap.size w ((((((((ww.setCell ⟨b7, 0, none⟩ (.int .i64 a.kind)).setCell ⟨b7, 1, none⟩ (.int .i64 a.n)).setCell ⟨b7, 2, none⟩ (.string a.s)).setCell ⟨b7, 3, none⟩ (.slice aa a.args.length aca)).setCell ⟨b8, 0, none⟩ (.int .i64 b.kind)).setCell ⟨b8, 1, none⟩ (.int .i64 b.n)).setCell ⟨b8, 2, none⟩ (.string b.s)).setCell ⟨b8, 3, none⟩ (.slice ba b.args.length bca)) from below_set4 (below_set4 HINV.out hg7 _ _ _ _) hg8 _ _ _ _)
    have HX7' := hid (show ((((((((ww.setCell ⟨b7, 0, none⟩ (.int .i64 a.kind)).setCell ⟨b7, 1, none⟩ (.int .i64 a.n)).setCell ⟨b7, 2, none⟩ (.string a.s)).setCell ⟨b7, 3, none⟩ (.slice aa a.args.length aca)).setCell ⟨b8, 0, none⟩ (.int .i64 b.kind)).setCell ⟨b8, 1, none⟩ (.int .i64 b.n)).setCell ⟨b8, 2, none⟩ (.string b.s)).setCell ⟨b8, 3, none⟩ (.slice ba b.args.length bca)).heap[b7]? = some (.cells #[.int .i64 a.kind, .int .i64 a.n, .string a.s, .slice aa a.args.length aca] 31 (0, 0)) from (set4_other _ _ _ _ _ _ _ hne').trans (set4 HX7.out))
    have HX8' := hid (show ((((((((ww.setCell ⟨b7, 0, none⟩ (.int .i64 a.kind)).setCell ⟨b7, 1, none⟩ (.int .i64 a.n)).setCell ⟨b7, 2, none⟩ (.string a.s)).setCell ⟨b7, 3, none⟩ (.slice aa a.args.length aca)).setCell ⟨b8, 0, none⟩ (.int .i64 b.kind)).setCell ⟨b8, 1, none⟩ (.int .i64 b.n)).setCell ⟨b8, 2, none⟩ (.string b.s)).setCell ⟨b8, 3, none⟩ (.slice ba b.args.length bca)).heap[b8]? = some (.cells #[.int .i64 b.kind, .int .i64 b.n, .string b.s, .slice ba b.args.length bca] 31 (0, 0)) from set4 ((set4_other _ _ _ _ _ _ _ hne).trans HX8.out))
    clear y0 y1 y2 y3 yf z0 z1 z2 z3 zf
    generalize ((((((((ww.setCell ⟨b7, 0, none⟩ (.int .i64 a.kind)).setCell ⟨b7, 1, none⟩ (.int .i64 a.n)).setCell ⟨b7, 2, none⟩ (.string a.s)).setCell ⟨b7, 3, none⟩ (.slice aa a.args.length aca)).setCell ⟨b8, 0, none⟩ (.int .i64 b.kind)).setCell ⟨b8, 1, none⟩ (.int .i64 b.n)).setCell ⟨b8, 2, none⟩ (.string b.s)).setCell ⟨b8, 3, none⟩ (.slice ba b.args.length bca)) = W5 at *
    have hWS := HBW.out.size
    have hb7s := blk_lt HX7'.out
    have hb8s := blk_lt HX8'.out
    have HU5 := hid (HU.out.below HBW.out)
    have HG5 := hid (blk_below HGB.out HBW.out)
    have HRS5 := hid (HREST.out.keeps (Keeps.of_below HBW.out))
    have HEV5 := hid (HEV.out.keeps (Keeps.of_below HBW.out))
    obtain ⟨y0, y1, y2, y3, yf⟩ := blk4 HX7'.out
    obtain ⟨z0, z1, z2, z3, zf⟩ := blk4 HX8'.out
    obtain ⟨g00, g01, g02, g03, g04, g05, gf⟩ := blk6 HG5.out
    have hgb5 := blk_lt HG5.out
    have HST5 := hid (fun (p' : Pv) (w' : World) (hh : PStep base P q g pv ov p' W5 w') => (PStep.trans (Ch.of_below HBW.out) (fun b h => .inl h) hh : PStep base P q g pv ov p' w w'))
    by_cases hka : a.kind = 2
    · by_cases hkb : b.kind = 2
      · rw [hka] at y0
        rw [hkb] at z0
        have hkf2 := hid (hkf.out.trans (if_neg (by simp [hka, hkb])))
        obtain ⟨hna0, hna1⟩ := HAI.out.num hka
        obtain ⟨hnb0, hnb1⟩ := HBI.out.num hkb
        have hi1 : -9223372036854775808 ≤ a.n + b.n := by omega
        have hi2 : a.n + b.n ≤ 9223372036854775807 := by omega
        clear hka hkb
        by_cases hlt : a.n < b.n
        · have hkf3 := hid (hkf2.out.trans (if_pos hlt))
          go_wp2_with fail
          refine (HOK.out E W5 _ _ _ HE.out HU5.out HRS5.out HEV5.out).mono ?_
          rintro e w9 ⟨rfl, hst⟩
          have HST := hid (HST5.out _ _ hst)
          clear hst
          go_wp2_with fail
          go_ret
          rw [hkf3.out]
          exact ⟨rfl, HST.out⟩
        · have hkf3 := hid (hkf2.out.trans (if_neg hlt))
          go_wp2_with fail
          go_ret
          rw [hkf3.out]
          exact ⟨rfl, HST5.out _ _ (PStep.refl HU5.out)⟩
      · have hkf2 := hid (hkf.out.trans (if_pos (.inr hkb)))
        have hkb' : (b.kind != 2) = true := by simpa using hkb
        rw [hka] at y0
        clear hka
        go_wp2_with fail
        refine (pend_ok 5 (by unfold I64; omega) HU5.out HOUT.out).mono ?_
        rintro e W9 ⟨rfl, hst⟩
        have HST := hid (HST5.out _ _ hst)
        clear hst
        go_wp2_with fail
        go_ret
        rw [hkf2.out]
        exact ⟨rfl, HST.out⟩
    · have hkf2 := hid (hkf.out.trans (if_pos (.inl hka)))
      have hka' : (a.kind != 2) = true := by simpa using hka
      go_wp2_with fail
      refine (pend_ok 5 (by unfold I64; omega) HU5.out HOUT.out).mono ?_
      rintro e W9 ⟨rfl, hst⟩
      have HST := hid (HST5.out _ _ hst)
      clear hst
      go_wp2_with fail
      go_ret
      rw [hkf2.out]
      exact ⟨rfl, HST.out⟩
set_option maxRecDepth 100000 in
set_option maxHeartbeats 4000000 in
theorem psimple_add (s1 : gt.t.s.toList ≠ [33]) (s2 : gt.t.s.toList ≠ [116, 114, 117, 101]) (s3 : gt.t.s.toList ≠ [102, 97, 105, 108]) (s4 : gt.t.s.toList ≠ [101, 113]) (s5 : gt.t.s.toList ≠ [108, 101, 115, 115]) : SimpOK base P q g pv pr gt rest p E w ov tv ev := by
  intro hpr hok hE h hg0 hkn hcall hout htd hev
  have HU := hid h
  have HE := hid hE
  have HG0 := hid hg0
  have HTD := hid htd
  have HPR := hid hpr
  have HOK := hid hok
  have HEV := hid hev
  have HOUT := hid hout
  have hcs := cell_set
  obtain ⟨ep, rfl⟩ := hev.ptr
  obtain ⟨gb, ga, gcap, rv, rfl, hgA, hgb, hgr, hgrest⟩ := htd
  obtain ⟨rp, rfl⟩ := hgrest.ptr
  have HGB := hid hgb
  have HGR := hid hgr
  have HGA := hid hgA
  have HREST := hid hgrest
  obtain ⟨hl1, hl2⟩ := h.lt
  obtain ⟨g00, g01, g02, g03, g04, g05, gf⟩ := blk6 hgb
  have hgbl := blk_lt hgb
  have hc0 : (0 : Int) ≤ (gt.call : Int) := Int.natCast_nonneg _
  have q1 : (gt.t.s.toList == [33]) = false := by simpa using s1
  have q2 : (gt.t.s.toList == [116, 114, 117, 101]) = false := by simpa using s2
  have q3 : (gt.t.s.toList == [102, 97, 105, 108]) = false := by simpa using s3
  have q4 : (gt.t.s.toList == [101, 113]) = false := by simpa using s4
  have q5 : (gt.t.s.toList == [108, 101, 115, 115]) = false := by simpa using s5
  have hk2 : gt.t.args.length = 3 := by
    rcases hkn with ⟨_, h1 | h1 | h1⟩ | ⟨h0, h1⟩ | ⟨h0, h1⟩
    · exact absurd h1 s1
    · exact absurd h1 s2
    · exact absurd h1 s3
    · rcases h1 with h1 | h1
      · exact absurd h1 s4
      · exact absurd h1 s5
    · exact h0
  have q6 : (gt.t.s.toList == [97, 100, 100]) = true := by
    rcases hkn with ⟨_, h1 | h1 | h1⟩ | ⟨h0, h1⟩ | ⟨h0, h1⟩
    · exact absurd h1 s1
    · exact absurd h1 s2
    · exact absurd h1 s3
    · omega
    · simpa using h1
  obtain ⟨_, _, ab, aoff, e9, hac1, hac2, -, hea, hee⟩ := SlR.at (show SlR 4 Tm.rep (PA g ov) w gt.t.args (.slice ga gt.t.args.length gcap) by
    obtain ⟨_, _, e, -, -, -, -, -, -, h8⟩ := Tm.rep4 hgr
    simp only [List.cons.injEq, true_and, and_true] at e
    rw [e]; exact h8)
  simp only [Value.slice.injEq, true_and] at e9
  obtain ⟨rfl, rfl⟩ := e9
  obtain ⟨rfl, hAb⟩ := hea (by omega)
  obtain ⟨xa, xc, c0, c1, c2, c3, hxr⟩ := tm_cells hee hAb (Keeps.refl _ _) (k := 0) (by omega)
  obtain ⟨ya, yc, d0, d1, d2, d3, hyr⟩ := tm_cells hee hAb (Keeps.refl _ _) (k := 1) (by omega)
  have HXI := hid (hg0.arg (List.getElem_mem (l := gt.t.args) (n := 0) (by omega)))
  have HYI := hid (hg0.arg (List.getElem_mem (l := gt.t.args) (n := 1) (by omega)))
  have e0 : (gt.t.args[0]?).getD default = gt.t.args[0] := by rw [List.getElem?_eq_getElem (by omega)]; rfl
  have e1 : (gt.t.args[1]?).getD default = gt.t.args[1] := by rw [List.getElem?_eq_getElem (by omega)]; rfl
  obtain ⟨za, zc, f0, f1, f2, f3, hzr⟩ := tm_cells hee hAb (Keeps.refl _ _) (k := 2) (by omega)
  have HZI := hid (hg0.arg (List.getElem_mem (l := gt.t.args) (n := 2) (by omega)))
  have e2 : (gt.t.args[2]?).getD default = gt.t.args[2] := by rw [List.getElem?_eq_getElem (by omega)]; rfl
  obtain ⟨z, hz⟩ : ∃ z, z = gt.t.args[2] := ⟨_, rfl⟩
  rw [← hz] at f0 f1 f2 f3 hzr HZI e2
  simp only [Nat.reduceMul] at f0 f1 f2 f3
  have HZR := hid hzr
  have HZC := hid (show w.cell? ⟨ab, aoff + 8, none⟩ = some (.int .i64 z.kind) ∧ w.cell? ⟨ab, aoff + 8 + 1, none⟩ = some (.int .i64 z.n) ∧ w.cell? ⟨ab, aoff + 8 + 2, none⟩ = some (.string z.s) ∧ w.cell? ⟨ab, aoff + 8 + 3, none⟩ = some (.slice za z.args.length zc) from ⟨f0, f1, f2, f3⟩)
  clear f0 f1 f2 f3 hzr hz
  obtain ⟨x, hx⟩ : ∃ x, x = gt.t.args[0] := ⟨_, rfl⟩
  obtain ⟨y, hy⟩ : ∃ y, y = gt.t.args[1] := ⟨_, rfl⟩
  rw [← hx] at c0 c1 c2 c3 hxr HXI e0
  rw [← hy] at d0 d1 d2 d3 hyr HYI e1
  simp only [Nat.zero_mul, Nat.add_zero, Nat.one_mul] at c0 c1 c2 c3 d0 d1 d2 d3
  have HXR := hid hxr
  have HYR := hid hyr
  have habl : ab < w.heap.size := World.block_lt_of_cell? w _ c0
  rw [hk2] at g03 hac1
  have hkf := hid (show simpleR pr gt rest E p = (if (slook E x).kind ≠ 2 ∨ (slook E y).kind ≠ 2 then (-1, p.put 5)
    else if (slook E x).n + (slook E y).n > 1099511627776 ∨ (slook E x).n + (slook E y).n < -1099511627776 then (-1, p.put 5)
    else if (uniS 400 [(z, .mk 2 ((slook E x).n + (slook E y).n) ByteArray.empty [])] E).ok = false then (-1, p) else pr rest (uniS 400 [(z, .mk 2 ((slook E x).n + (slook E y).n) ByteArray.empty [])] E).env p) by
    rw [simpleR, if_neg s1, if_neg s2, if_neg s3, if_neg s4, e0, e1, e2]
    simp only
    rw [if_neg s5])
  have HG03 := hid g03
  have HG02 := hid g02
  clear hxr hyr hea hee hx hy e0 e1 hk2 e2
  clear h hE hg0 hgA hgb hgr hgrest hpr hok hev
  go_enter Tryd.func95, Tryd.ntmps95
  go_wp2_with fail
  have HA0 := hid (fun (w' : World) (hb : Below w.heap.size w w') => (show w'.cell? ⟨ab, aoff, none⟩ = _ ∧ w'.cell? ⟨ab, aoff + 1, none⟩ = _ ∧ w'.cell? ⟨ab, aoff + 2, none⟩ = _ ∧ w'.cell? ⟨ab, aoff + 3, none⟩ = _ ∧ w'.cell? ⟨ab, aoff + 4, none⟩ = _ ∧ w'.cell? ⟨ab, aoff + 4 + 1, none⟩ = _ ∧ w'.cell? ⟨ab, aoff + 4 + 2, none⟩ = _ ∧ w'.cell? ⟨ab, aoff + 4 + 3, none⟩ = _ from
    have hk := Keeps.of_below (A := fun _ => True) hb
    ⟨hk.cell trivial c0, hk.cell trivial c1, hk.cell trivial c2, hk.cell trivial c3, hk.cell trivial d0, hk.cell trivial d1, hk.cell trivial d2, hk.cell trivial d3⟩))
  have HEA := hid (EnvQ.mono (A' := (fun b => PA g ov b ∧ b < w.heap.size)) HEV.out fun b hb h => ⟨h, hb⟩)
  have HXA := hid (Tm.rep_lasts.2.1 _ (fun b => PA g ov b ∧ b < w.heap.size) _ _ _ HXR.out fun b hb h => ⟨h, hb⟩)
  have HYA := hid (Tm.rep_lasts.2.1 _ (fun b => PA g ov b ∧ b < w.heap.size) _ _ _ HYR.out fun b hb h => ⟨h, hb⟩)
  clear g00 g01 g02 g03 g04 g05 gf c0 c1 c2 c3 d0 d1 d2 d3
  refine wp_region_front4 12 (fun _ => false) 10 (D := fun k v u _ => k = 11 → v ≠ u) (Inv := fun w' => Below w.heap.size w w') (Po := posts [IsV (.pointer ep), IsV (.slice (some ⟨ab, aoff, none⟩) 3 gcap), IsV (.pointer (some ⟨ab, aoff, none⟩)), IsV (.agg #[.int .i64 x.kind, .int .i64 x.n, .string x.s, .slice xa x.args.length xc]), IsTA1 (fun b => PA g ov b ∧ b < w.heap.size) (slook E x), IsV (.pointer ep), IsV (.slice (some ⟨ab, aoff, none⟩) 3 gcap), IsV (.pointer (some ⟨ab, aoff + 4, none⟩)), IsV (.agg #[.int .i64 y.kind, .int .i64 y.n, .string y.s, .slice ya y.args.length yc]), IsTA1 (fun b => PA g ov b ∧ b < w.heap.size) (slook E y), IsTB1 w.heap.size, IsTB1 w.heap.size]) (Rl := fun w w' => Below w.heap.size w w') (by kernel_rfl) ⟨by decide, rfl⟩ (fun p v u w hp => by cases hp) (fun _ _ _ _ _ h _ => h) (by kernel_rfl) (by kernel_rfl) (fun _ _ _ _ h => h) (by kernel_rfl) (by kernel_rfl) ((Below.refl _ _).drew) ?_ ?_ ?_ ?_ ?_
  · refine posts_stay fun R hR => ?_
    simp only [List.mem_cons, List.not_mem_nil, or_false] at hR
    rcases hR with rfl | rfl | rfl | rfl | rfl | rfl | rfl | rfl | rfl | rfl | rfl | rfl <;> first | exact stays_V _ | exact stays_TA1 _ _ | exact stays_TB1 _
  · exact fun w1 w2 h h' => h.trans (h'.mono h.size)
  · intro i o ho hps; cases hps
  · intro i o ho hps f ac ww hinv hpo hdst hold
    clear hps
    match i, ho with
    | 0, ho =>
      obtain rfl : _ = o := Option.some.inj ho
      have t2 := hold 2 (by kernel_rfl)
      refine Or.inl ⟨want0 rfl, ?_⟩
      clear hdst hpo hold ho
      clear hinv
      unfold Ans
      go_simp
      exact ⟨rfl, Below.refl _ _⟩
    | 1, ho =>
      obtain rfl : _ = o := Option.some.inj ho
      have t8 := hold 8 (by kernel_rfl)
      refine Or.inl ⟨want0 rfl, ?_⟩
      clear hdst hpo hold ho
      clear hinv
      unfold Ans
      go_simp
      exact ⟨rfl, Below.refl _ _⟩
    | 2, ho =>
      obtain rfl : _ = o := Option.some.inj ho
      have t66 : ac.tmps[66]? = some (f 1) := hdst 1 66 (by kernel_rfl) (by kernel_rfl)
      have p1 : (IsV (.slice (some ⟨ab, aoff, none⟩) 3 gcap)) (f 1) ww := hpo 1 (by kernel_rfl)
      refine Or.inl ⟨want0 rfl, ?_⟩
      clear hdst hpo hold ho
      rw [show f 1 = _ from p1] at t66
      clear hinv
      unfold Ans
      go_simp
      exact ⟨rfl, Below.refl _ _⟩
    | 3, ho =>
      obtain rfl : _ = o := Option.some.inj ho
      have t67 : ac.tmps[67]? = some (f 2) := hdst 2 67 (by kernel_rfl) (by kernel_rfl)
      have p2 : (IsV (.pointer (some ⟨ab, aoff, none⟩))) (f 2) ww := hpo 2 (by kernel_rfl)
      refine Or.inl ⟨want0 rfl, ?_⟩
      clear hdst hpo hold ho
      rw [show f 2 = _ from p2] at t67
      obtain ⟨k0, k1, k2, k3, m0, m1, m2, m3⟩ := HA0.out ww hinv
      unfold Ans
      go_simp
      exact ⟨rfl, Below.refl _ _⟩
    | 4, ho =>
      obtain rfl : _ = o := Option.some.inj ho
      have t65 : ac.tmps[65]? = some (f 0) := hdst 0 65 (by kernel_rfl) (by kernel_rfl)
      have p0 : (IsV (.pointer ep)) (f 0) ww := hpo 0 (by kernel_rfl)
      have t68 : ac.tmps[68]? = some (f 3) := hdst 3 68 (by kernel_rfl) (by kernel_rfl)
      have p3 : (IsV (.agg #[.int .i64 x.kind, .int .i64 x.n, .string x.s, .slice xa x.args.length xc])) (f 3) ww := hpo 3 (by kernel_rfl)
      refine Or.inl ⟨want0 rfl, ?_⟩
      clear hdst hpo hold ho
      rw [show f 0 = _ from p0] at t65
      rw [show f 3 = _ from p3] at t68
      unfold Ans
      go_simp
      refine (elook_ok HE.out x HXI.out (fun b => PA g ov b ∧ b < w.heap.size) ww _ [_, _, _, _] (HEA.out.keeps (Keeps.of_below hinv)) (Tm.rep_lasts.1 _ _ _ _ _ HXA.out (Keeps.of_below hinv))).mono ?_
      rintro e w1 ⟨v, rfl, hb1, hv⟩
      exact ⟨_, rfl, hv, hb1⟩
    | 5, ho =>
      obtain rfl : _ = o := Option.some.inj ho
      have t2 := hold 2 (by kernel_rfl)
      refine Or.inl ⟨want0 rfl, ?_⟩
      clear hdst hpo hold ho
      clear hinv
      unfold Ans
      go_simp
      exact ⟨rfl, Below.refl _ _⟩
    | 6, ho =>
      obtain rfl : _ = o := Option.some.inj ho
      have t8 := hold 8 (by kernel_rfl)
      refine Or.inl ⟨want0 rfl, ?_⟩
      clear hdst hpo hold ho
      clear hinv
      unfold Ans
      go_simp
      exact ⟨rfl, Below.refl _ _⟩
    | 7, ho =>
      obtain rfl : _ = o := Option.some.inj ho
      have t71 : ac.tmps[71]? = some (f 6) := hdst 6 71 (by kernel_rfl) (by kernel_rfl)
      have p6 : (IsV (.slice (some ⟨ab, aoff, none⟩) 3 gcap)) (f 6) ww := hpo 6 (by kernel_rfl)
      refine Or.inl ⟨want0 rfl, ?_⟩
      clear hdst hpo hold ho
      rw [show f 6 = _ from p6] at t71
      clear hinv
      unfold Ans
      go_simp
      exact ⟨rfl, Below.refl _ _⟩
    | 8, ho =>
      obtain rfl : _ = o := Option.some.inj ho
      have t72 : ac.tmps[72]? = some (f 7) := hdst 7 72 (by kernel_rfl) (by kernel_rfl)
      have p7 : (IsV (.pointer (some ⟨ab, aoff + 4, none⟩))) (f 7) ww := hpo 7 (by kernel_rfl)
      refine Or.inl ⟨want0 rfl, ?_⟩
      clear hdst hpo hold ho
      rw [show f 7 = _ from p7] at t72
      obtain ⟨k0, k1, k2, k3, m0, m1, m2, m3⟩ := HA0.out ww hinv
      unfold Ans
      go_simp
      exact ⟨rfl, Below.refl _ _⟩
    | 9, ho =>
      obtain rfl : _ = o := Option.some.inj ho
      have t70 : ac.tmps[70]? = some (f 5) := hdst 5 70 (by kernel_rfl) (by kernel_rfl)
      have p5 : (IsV (.pointer ep)) (f 5) ww := hpo 5 (by kernel_rfl)
      have t73 : ac.tmps[73]? = some (f 8) := hdst 8 73 (by kernel_rfl) (by kernel_rfl)
      have p8 : (IsV (.agg #[.int .i64 y.kind, .int .i64 y.n, .string y.s, .slice ya y.args.length yc])) (f 8) ww := hpo 8 (by kernel_rfl)
      refine Or.inl ⟨want0 rfl, ?_⟩
      clear hdst hpo hold ho
      rw [show f 5 = _ from p5] at t70
      rw [show f 8 = _ from p8] at t73
      unfold Ans
      go_simp
      refine (elook_ok HE.out y HYI.out (fun b => PA g ov b ∧ b < w.heap.size) ww _ [_, _, _, _] (HEA.out.keeps (Keeps.of_below hinv)) (Tm.rep_lasts.1 _ _ _ _ _ HYA.out (Keeps.of_below hinv))).mono ?_
      rintro e w1 ⟨v, rfl, hb1, hv⟩
      exact ⟨_, rfl, hv, hb1⟩
    | 10, ho =>
      obtain rfl : _ = o := Option.some.inj ho
      refine Or.inl ⟨want0 rfl, ?_⟩
      clear hdst hpo hold ho
      unfold Ans
      go_simp
      refine ⟨⟨_, rfl, hinv.size, blk_new _ _⟩, (Below.refl _ _).alloc (Nat.le_refl _) _, fun k u hu hk => ?_⟩
      subst hk
      obtain ⟨gg, rfl, -, hgg⟩ := (show IsTB1 w.heap.size u ww from hu)
      have := blk_lt hgg
      intro e
      simp only [Value.pointer.injEq, Option.some.injEq, Addr.mk.injEq] at e
      omega
    | 11, ho =>
      obtain rfl : _ = o := Option.some.inj ho
      refine Or.inl ⟨want0 rfl, ?_⟩
      clear hdst hpo hold ho
      unfold Ans
      go_simp
      refine ⟨⟨_, rfl, hinv.size, blk_new _ _⟩, (Below.refl _ _).alloc (Nat.le_refl _) _, fun u hu _ => ?_⟩
      obtain ⟨gg, rfl, -, hgg⟩ := (show IsTB1 w.heap.size u ww from hu)
      have := blk_lt hgg
      intro e
      simp only [Value.pointer.injEq, Option.some.injEq, Addr.mk.injEq] at e
      omega
    | i + 12, ho => simp at ho
  · intro f ww hinv hpo hD
    have p4 : (IsTA1 (fun b => PA g ov b ∧ b < w.heap.size) (slook E x)) (f 4) ww := hpo 4 (by decide)
    have p9 : (IsTA1 (fun b => PA g ov b ∧ b < w.heap.size) (slook E y)) (f 9) ww := hpo 9 (by decide)
    have p10 : (IsTB1 w.heap.size) (f 10) ww := hpo 10 (by decide)
    have p11 : (IsTB1 w.heap.size) (f 11) ww := hpo 11 (by decide)
    have hD11 : f 11 ≠ f 10 := hD 11 (by decide) (by decide) rfl
    obtain ⟨us4, e4, hr4⟩ := p4
    obtain ⟨us9, e9, hr9⟩ := p9
    obtain ⟨b7, e10, hg7, hx7⟩ := p10
    obtain ⟨b8, e11, hg8, hx8⟩ := p11
    rw [e10, e11] at hD11
    have hne : b8 ≠ b7 := fun e => hD11 (by rw [e])
    have hne' : b7 ≠ b8 := fun e => hne e.symm
    have e0 := (show f 0 = _ from hpo 0 (by decide))
    have e1 := (show f 1 = _ from hpo 1 (by decide))
    have e2 := (show f 2 = _ from hpo 2 (by decide))
    have e3 := (show f 3 = _ from hpo 3 (by decide))
    have e5 := (show f 5 = _ from hpo 5 (by decide))
    have e6 := (show f 6 = _ from hpo 6 (by decide))
    have e7 := (show f 7 = _ from hpo 7 (by decide))
    have e8 := (show f 8 = _ from hpo 8 (by decide))
    simp only [fillT, List.take_succ_cons, List.take_zero, List.setIfInBounds_toArray, List.set_cons_succ, List.set_cons_zero]
    rw [e0, e1, e2, e3, e4, e5, e6, e7, e8, e9, e10, e11]
    have HAI := hid (slook_in HE.out HXI.out)
    have HBI := hid (slook_in HE.out HYI.out)
    clear e0 e1 e2 e3 e4 e5 e6 e7 e8 e9 e10 e11 hD11 hpo hD
    generalize slook E x = a at *
    generalize slook E y = b at *
    obtain ⟨aa, aca, rfl, -⟩ := Tm.rep4 hr4
    obtain ⟨ba, bca, rfl, -⟩ := Tm.rep4 hr9
    have HINV := hid hinv
    obtain ⟨y0, y1, y2, y3, yf⟩ := blk4 hx7
    obtain ⟨z0, z1, z2, z3, zf⟩ := blk4 hx8
    have hb7l := blk_lt hx7
    have hb8l := blk_lt hx8
    have HX7 := hid hx7
    have HX8 := hid hx8
    clear hinv hr4 hr9 hx7 hx8
    refine wpAny_only (i := 12) (by kernel_rfl) (wpOp_run rfl (by rfl) ?_)
    go_simp
    refine wpAny_only (i := 13) (by kernel_rfl) (wpOp_run rfl (by rfl) ?_)
    go_simp
    refine wpAny_all (by kernel_rfl) ?_ _
    have HBW := hid (show Below w.heap.size w ((((((((ww.setCell ⟨b7, 0, none⟩ (.int .i64 a.kind)).setCell ⟨b7, 1, none⟩ (.int .i64 a.n)).setCell ⟨b7, 2, none⟩ (.string a.s)).setCell ⟨b7, 3, none⟩ (.slice aa a.args.length aca)).setCell ⟨b8, 0, none⟩ (.int .i64 b.kind)).setCell ⟨b8, 1, none⟩ (.int .i64 b.n)).setCell ⟨b8, 2, none⟩ (.string b.s)).setCell ⟨b8, 3, none⟩ (.slice ba b.args.length bca)) from below_set4 (below_set4 HINV.out hg7 _ _ _ _) hg8 _ _ _ _)
    have HX7' := hid (show ((((((((ww.setCell ⟨b7, 0, none⟩ (.int .i64 a.kind)).setCell ⟨b7, 1, none⟩ (.int .i64 a.n)).setCell ⟨b7, 2, none⟩ (.string a.s)).setCell ⟨b7, 3, none⟩ (.slice aa a.args.length aca)).setCell ⟨b8, 0, none⟩ (.int .i64 b.kind)).setCell ⟨b8, 1, none⟩ (.int .i64 b.n)).setCell ⟨b8, 2, none⟩ (.string b.s)).setCell ⟨b8, 3, none⟩ (.slice ba b.args.length bca)).heap[b7]? = some (.cells #[.int .i64 a.kind, .int .i64 a.n, .string a.s, .slice aa a.args.length aca] 31 (0, 0)) from (set4_other _ _ _ _ _ _ _ hne').trans (set4 HX7.out))
    have HX8' := hid (show ((((((((ww.setCell ⟨b7, 0, none⟩ (.int .i64 a.kind)).setCell ⟨b7, 1, none⟩ (.int .i64 a.n)).setCell ⟨b7, 2, none⟩ (.string a.s)).setCell ⟨b7, 3, none⟩ (.slice aa a.args.length aca)).setCell ⟨b8, 0, none⟩ (.int .i64 b.kind)).setCell ⟨b8, 1, none⟩ (.int .i64 b.n)).setCell ⟨b8, 2, none⟩ (.string b.s)).setCell ⟨b8, 3, none⟩ (.slice ba b.args.length bca)).heap[b8]? = some (.cells #[.int .i64 b.kind, .int .i64 b.n, .string b.s, .slice ba b.args.length bca] 31 (0, 0)) from set4 ((set4_other _ _ _ _ _ _ _ hne).trans HX8.out))
    clear y0 y1 y2 y3 yf z0 z1 z2 z3 zf
    generalize ((((((((ww.setCell ⟨b7, 0, none⟩ (.int .i64 a.kind)).setCell ⟨b7, 1, none⟩ (.int .i64 a.n)).setCell ⟨b7, 2, none⟩ (.string a.s)).setCell ⟨b7, 3, none⟩ (.slice aa a.args.length aca)).setCell ⟨b8, 0, none⟩ (.int .i64 b.kind)).setCell ⟨b8, 1, none⟩ (.int .i64 b.n)).setCell ⟨b8, 2, none⟩ (.string b.s)).setCell ⟨b8, 3, none⟩ (.slice ba b.args.length bca)) = W5 at *
    have hWS := HBW.out.size
    have hb7s := blk_lt HX7'.out
    have hb8s := blk_lt HX8'.out
    have HU5 := hid (HU.out.below HBW.out)
    have HG5 := hid (blk_below HGB.out HBW.out)
    have HRS5 := hid (HREST.out.keeps (Keeps.of_below HBW.out))
    have HEV5 := hid (HEV.out.keeps (Keeps.of_below HBW.out))
    obtain ⟨y0, y1, y2, y3, yf⟩ := blk4 HX7'.out
    obtain ⟨z0, z1, z2, z3, zf⟩ := blk4 HX8'.out
    obtain ⟨g00, g01, g02, g03, g04, g05, gf⟩ := blk6 HG5.out
    have hgb5 := blk_lt HG5.out
    have HST5 := hid (fun (p' : Pv) (w' : World) (hh : PStep base P q g pv ov p' W5 w') => (PStep.trans (Ch.of_below HBW.out) (fun b h => .inl h) hh : PStep base P q g pv ov p' w w'))
    by_cases hka : a.kind = 2
    · by_cases hkb : b.kind = 2
      · rw [hka] at y0
        rw [hkb] at z0
        have hkf2 := hid (hkf.out.trans (if_neg (by simp [hka, hkb])))
        obtain ⟨hna0, hna1⟩ := HAI.out.num hka
        obtain ⟨hnb0, hnb1⟩ := HBI.out.num hkb
        have hi1 : -9223372036854775808 ≤ a.n + b.n := by omega
        have hi2 : a.n + b.n ≤ 9223372036854775807 := by omega
        clear hka hkb
        by_cases hbig : a.n + b.n > 1099511627776
        · have hbig' : decide (1099511627776 < a.n + b.n) = true := by simpa using hbig
          have hkf3 := hid (hkf2.out.trans (if_pos (.inl hbig)))
          go_wp2_with fail
          refine (pend_ok 5 (by unfold I64; omega) HU5.out HOUT.out).mono ?_
          rintro e W9 ⟨rfl, hst⟩
          have HST := hid (HST5.out _ _ hst)
          clear hst
          go_wp2_with fail
          go_ret
          rw [hkf3.out]
          exact ⟨rfl, HST.out⟩
        have hbigN : ¬ 1099511627776 < a.n + b.n := hbig
        by_cases hsm : a.n + b.n < -1099511627776
        · have hkf3 := hid (hkf2.out.trans (if_pos (.inr hsm)))
          go_wp2_with fail
          refine (pend_ok 5 (by unfold I64; omega) HU5.out HOUT.out).mono ?_
          rintro e W9 ⟨rfl, hst⟩
          have HST := hid (HST5.out _ _ hst)
          clear hst
          go_wp2_with fail
          go_ret
          rw [hkf3.out]
          exact ⟨rfl, HST.out⟩
        have hkf3 := hid (hkf2.out.trans (if_neg (fun h => h.elim hbig hsm)))
        have hI64 : I64 (a.n + b.n) := by unfold I64; omega
        have hNI : (Tm.mk 2 (a.n + b.n) ByteArray.empty []).In p.vars := Tm.Good.int _ (by omega) (by omega)
        clear hbig
        have hk5 := Keeps.of_below (A := fun _ => True) HBW.out
        have f0 := hk5.cell trivial HZC.out.1
        have f1 := hk5.cell trivial HZC.out.2.1
        have f2 := hk5.cell trivial HZC.out.2.2.1
        have f3 := hk5.cell trivial HZC.out.2.2.2
        have hab5 : ab < W5.heap.size := by omega
        clear hk5
        go_wp2_with fail
        go_still_tail 9, (by kernel_rfl)
        change wpList _ _ _ _ _ W5.drew
        have HI64 := hid hI64
        have HNI := hid hNI
        have hsd : W5.drew.heap.size = W5.heap.size := rfl
        have HBd := hid (show Below W5.heap.size W5 W5.drew from (Below.refl _ _).drew)
        generalize W5.drew = Wd at *
        generalize hn : a.n + b.n = n at *
        go_wp2_with fail
        obtain ⟨W6, hW6⟩ : ∃ W6, W6 = Wd.alloc (.cells #[.int .i64 z.kind, .int .i64 z.n, .string z.s, .slice za z.args.length zc, .int .i64 2, .int .i64 n, .string ⟨#[]⟩, .slice none 0 0] 31) := ⟨_, rfl⟩
        obtain ⟨nb, hnb⟩ : ∃ nb, nb = W5.heap.size := ⟨_, rfl⟩
        have HN6 := hid (show W6.heap[nb]? = some (.cells #[.int .i64 z.kind, .int .i64 z.n, .string z.s, .slice za z.args.length zc, .int .i64 2, .int .i64 n, .string ByteArray.empty, .slice none 0 0] 31 (0, 0)) by rw [hnb, hW6, ← hsd]; exact blk_new _ _)
        have HB6 := hid (show Below W5.heap.size W5 W6 by rw [hW6]; exact HBd.out.alloc (by omega) _)
        have HU6 := hid (HU5.out.below HB6.out)
        have HG6 := hid (blk_below HG5.out HB6.out)
        have HRS6 := hid (HRS5.out.keeps (Keeps.of_below HB6.out))
        have HEV6 := hid (HEV5.out.keeps (Keeps.of_below HB6.out))
        have HZ6 := hid (Tm.rep_lasts.1 _ _ _ _ _ HZR.out (Keeps.of_below (HBW.out.trans (HB6.out.mono hWS))))
        have HST6 := hid (fun (p' : Pv) (w' : World) (hh : PStep base P q g pv ov p' W6 w') => HST5.out p' w' (PStep.trans (Ch.of_below HB6.out) (fun b h => .inl h) hh))
        rw [← hW6, ← hnb]
        obtain ⟨k0, k1, k2, k3, k4, k5, k6, k7, kf⟩ := blk8 HN6.out
        clear hW6 hnb g00 g01 g02 g03 g04 g05 gf y0 y1 y2 y3 yf z0 z1 z2 z3 zf f0 f1 f2 f3 hbigN hsm hn hi1 hi2 hna0 hna1 hnb0 hnb1
        obtain ⟨g00, g01, g02, g03, g04, g05, gf⟩ := blk6 HG6.out
        go_wp2_with fail
        refine wp_region_F (F := fun _ w' => Below W6.heap.size W6 w') (by kernel_rfl) ?_
        have HF : Below W6.heap.size W6 W6.drew := (Below.refl _ _).drew
        refine wpAnyF_take (i := 0) (v := ?_) rfl (by kernel_rfl) (by kernel_rfl) (by kernel_rfl) (fun _ _ _ h => h) (Or.inl ⟨by rfl, ?_⟩) HF ?_
        rotate_left
        · (intro w' hw; clear hw; go_simp <;> with_reducible rfl)
        try simp only [Act.put, List.setIfInBounds_toArray, List.set_cons_zero, List.set_cons_succ]
        refine wpAnyF_take (i := 1) (v := ?_) rfl (by kernel_rfl) (by kernel_rfl) (by kernel_rfl) (fun _ _ _ h => h) (Or.inl ⟨by rfl, ?_⟩) HF ?_
        rotate_left
        · (intro w' hw; clear hw; go_simp <;> with_reducible rfl)
        try simp only [Act.put, List.setIfInBounds_toArray, List.set_cons_zero, List.set_cons_succ]
        refine wpAnyF_take (i := 2) (v := .pointer (some ⟨nb, 0, none⟩)) rfl (by kernel_rfl) (by kernel_rfl) (by kernel_rfl) (fun _ _ _ h => h) (Or.inl ⟨by rfl, ?_⟩) HF ?_
        · (intro w' hw; clear hw; go_simp <;> omega)
        try simp only [Act.put, List.setIfInBounds_toArray, List.set_cons_zero, List.set_cons_succ]
        refine wpAnyF_take (i := 3) (v := .agg #[.int .i64 z.kind, .int .i64 z.n, .string z.s, .slice za z.args.length zc]) rfl (by kernel_rfl) (by kernel_rfl) (by kernel_rfl) (fun _ _ _ h => h) (Or.inl ⟨by rfl, ?_⟩) HF ?_
        · (intro w' hw; obtain ⟨k0, k1, k2, k3, k4, k5, k6, k7, kf⟩ := blk8 (blk_below HN6.out hw); clear hw; go_simp)
        try simp only [Act.put, List.setIfInBounds_toArray, List.set_cons_zero, List.set_cons_succ]
        refine wpAnyF_take (i := 4) (v := ?_) rfl (by kernel_rfl) (by kernel_rfl) (by kernel_rfl) (fun _ _ _ h => h) (Or.inl ⟨by rfl, ?_⟩) HF ?_
        rotate_left
        · (intro w' hw; clear hw; go_simp <;> with_reducible rfl)
        try simp only [Act.put, List.setIfInBounds_toArray, List.set_cons_zero, List.set_cons_succ]
        refine wpAnyF_take (i := 5) (v := .pointer (some ⟨nb, 4, none⟩)) rfl (by kernel_rfl) (by kernel_rfl) (by kernel_rfl) (fun _ _ _ h => h) (Or.inl ⟨by rfl, ?_⟩) HF ?_
        · (intro w' hw; clear hw; go_simp <;> omega)
        try simp only [Act.put, List.setIfInBounds_toArray, List.set_cons_zero, List.set_cons_succ]
        refine wpAnyF_take (i := 6) (v := .agg #[.int .i64 2, .int .i64 n, .string ByteArray.empty, .slice none 0 0]) rfl (by kernel_rfl) (by kernel_rfl) (by kernel_rfl) (fun _ _ _ h => h) (Or.inl ⟨by rfl, ?_⟩) HF ?_
        · (intro w' hw; obtain ⟨k0, k1, k2, k3, k4, k5, k6, k7, kf⟩ := blk8 (blk_below HN6.out hw); clear hw; go_simp)
        try simp only [Act.put, List.setIfInBounds_toArray, List.set_cons_zero, List.set_cons_succ]
        clear HF
        refine wpAnyF_one (i := 7) (by kernel_rfl) (wpOp_run rfl (by rfl) ?_)
        go_simp
        refine (one_ok HE.out z (.mk 2 n ByteArray.empty []) HZI.out HNI.out (PA g ov) W6.drew _ [_, _, _, _] [_, _, _, _] (HEV6.out.keeps (Keeps.drew _ _)) (Tm.rep_lasts.1 _ _ _ _ _ HZ6.out (Keeps.drew _ _)) (leaf_rep _ _ 2 n ByteArray.empty (by unfold I64; omega) HI64.out (by decide))).mono ?_
        rintro e w1 ⟨uv, rfl, hb1, hq1⟩
        have hb1' : Below W6.heap.size W6 w1 := ((Below.refl W6.heap.size W6).drew).trans hb1
        have HUE := hid (uniS_env 400 [(z, .mk 2 n ByteArray.empty [])] E HE.out (by intro x hx; simp only [List.mem_singleton] at hx; subst hx; exact ⟨HZI.out, HNI.out⟩)).1
        have hw0 := uniS_int HE.out z HZI.out n
        generalize uniS 400 [(z, Tm.mk 2 n ByteArray.empty [])] E = u at *
        obtain ⟨uo, ue, uw⟩ := u
        obtain ⟨up, rfl⟩ := hq1.ptr
        have HB1 := hid hb1'
        have HQ1 := hid (hq1.mono (A' := PA g ov) (fun b _ h => h.elim id (fun h hp => by have := (HU6.out.pm_lt b hp).2; simp only [World.size_drew] at h; omega)))
        have HU1 := hid (HU6.out.below hb1')
        have HR1 := hid (HRS6.out.keeps (Keeps.of_below hb1'))
        have HG1 := hid (blk_below HG6.out hb1')
        clear hb1 hq1 k0 k1 k2 k3 k4 k5 k6 k7 kf
        simp only at *
        refine ⟨fun _ _ _ => hb1', ?_⟩
        refine wpAnyF_one (i := 8) (by kernel_rfl) (wpOp_run rfl (by rfl) ?_)
        go_simp
        refine ⟨fun _ _ _ => hb1', ?_⟩
        have HF := hb1'
        refine wpAnyF_take (i := 9) (v := ?_) rfl (by kernel_rfl) (by kernel_rfl) (by kernel_rfl) (fun _ _ _ h => h) (Or.inl ⟨by rfl, ?_⟩) HF ?_
        rotate_left
        · (intro w' hw; clear hw; go_simp <;> with_reducible rfl)
        try simp only [Act.put, List.setIfInBounds_toArray, List.set_cons_zero, List.set_cons_succ]
        refine wpAnyF_take (i := 10) (v := ?_) rfl (by kernel_rfl) (by kernel_rfl) (by kernel_rfl) (fun _ _ _ h => h) (Or.inl ⟨by rfl, ?_⟩) HF ?_
        rotate_left
        · (intro w' hw; clear hw; go_simp <;> with_reducible rfl)
        try simp only [Act.put, List.setIfInBounds_toArray, List.set_cons_zero, List.set_cons_succ]
        refine wpAnyF_take (i := 11) (v := ?_) rfl (by kernel_rfl) (by kernel_rfl) (by kernel_rfl) (fun _ _ _ h => h) (Or.inl ⟨by rfl, ?_⟩) HF ?_
        rotate_left
        · (intro w' hw; clear hw; go_simp <;> with_reducible rfl)
        try simp only [Act.put, List.setIfInBounds_toArray, List.set_cons_zero, List.set_cons_succ]
        clear HF
        refine wpAnyF_one (i := 12) (by kernel_rfl) (wpOp_run rfl (by rfl) ?_)
        go_simp
        refine ⟨fun _ _ _ => hb1', ?_⟩
        refine wpAnyF_one (i := 13) (by kernel_rfl) (wpOp_run rfl (by rfl) ?_)
        go_simp
        refine ⟨fun _ _ _ => hb1', ?_⟩
        refine wpAnyF_one (i := 14) (by kernel_rfl) (wpOp_run rfl (by rfl) ?_)
        go_simp
        refine ⟨fun _ _ _ => hb1', wpAnyF_done (by kernel_rfl) ?_ _⟩
        clear hb1' g00 g01 g02 g03 g04 g05 gf
        obtain ⟨g00, g01, g02, g03, g04, g05, gf⟩ := blk6 HG1.out
        have hgbl1 := blk_lt HG1.out
        have HST1 := hid (fun (p' : Pv) (w' : World) (hh : PStep base P q g pv ov p' w1 w') => HST6.out p' w' (PStep.trans (Ch.of_below HB1.out) (fun b h => .inl h) hh))
        have hw1 : ¬ uw < 0 := by omega
        cases uo with
        | false =>
          go_wp2_with fail
          go_ret
          rw [hkf3.out, if_pos (by simp)]
          exact ⟨rfl, HST1.out _ _ (PStep.refl HU1.out)⟩
        | true =>
          go_wp2_with fail
          refine (HOK.out ue w1 _ _ _ HUE.out HU1.out HR1.out HQ1.out).mono ?_
          rintro e w9 ⟨rfl, hst⟩
          have HST := hid (HST1.out _ _ hst)
          clear hst
          go_wp2_with fail
          go_ret
          rw [hkf3.out, if_neg (by simp)]
          exact ⟨rfl, HST.out⟩
      · have hkf2 := hid (hkf.out.trans (if_pos (.inr hkb)))
        have hkb' : (b.kind != 2) = true := by simpa using hkb
        rw [hka] at y0
        clear hka
        go_wp2_with fail
        refine (pend_ok 5 (by unfold I64; omega) HU5.out HOUT.out).mono ?_
        rintro e W9 ⟨rfl, hst⟩
        have HST := hid (HST5.out _ _ hst)
        clear hst
        go_wp2_with fail
        go_ret
        rw [hkf2.out]
        exact ⟨rfl, HST.out⟩
    · have hkf2 := hid (hkf.out.trans (if_pos (.inl hka)))
      have hka' : (a.kind != 2) = true := by simpa using hka
      go_wp2_with fail
      refine (pend_ok 5 (by unfold I64; omega) HU5.out HOUT.out).mono ?_
      rintro e W9 ⟨rfl, hst⟩
      have HST := hid (HST5.out _ _ hst)
      clear hst
      go_wp2_with fail
      go_ret
      rw [hkf2.out]
      exact ⟨rfl, HST.out⟩
end
end Go.Proofs.YtlpmfkpefoegeabDoor
