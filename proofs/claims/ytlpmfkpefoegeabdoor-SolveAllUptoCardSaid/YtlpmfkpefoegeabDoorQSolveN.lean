/-
  The document's prover: simple (cut, true, fail, eq).
  The solver: known.
-/
import Derived.Test.YtlpmfkpefoegeabDoorQSolveK
import Derived.Test.YtlpmfkpefoegeabDoorQSolveBk
import Derived.Test.YtlpmfkpefoegeabDoorQProvO
import Derived.Test.YtlpmfkpefoegeabDoorROpenC
namespace Go.Proofs.YtlpmfkpefoegeabDoor
set_option linter.unusedVariables false
set_option linter.unusedSimpArgs false
open Go.RowKit
def ProvOK (base : Nat) (P : List Cl) (q g : Nat) (pv : Value) (pr : List Td → Env → Pv → Int × Pv) (td : List Td) (p : Pv) : Prop := ∀ (E : Env) (w : World) (ov tv ev : Value), EnvOk p.vars E → PvI base P q g pv ov p w → TdQ (PA g ov) w td tv → EnvQ (PA g ov) w E.reverse ev →
  Calls Tryd.prog 62 #[.pointer (some ⟨g, 0, none⟩), tv, ev] w (PProvePost base P q g pv ov (pr td E p) w)
def SimpOK (base : Nat) (P : List Cl) (q g : Nat) (pv : Value) (pr : List Td → Env → Pv → Int × Pv) (gt : Td) (rest : List Td) (p : Pv) (E : Env) (w : World) (ov tv ev : Value) : Prop :=
  (∀ E, -1 ≤ (pr rest E p).1 ∧ (pr rest E p).1 ≤ 1000000) → ProvOK base P q g pv pr rest p → EnvOk p.vars E → PvI base P q g pv ov p w → gt.t.In p.vars → gt.t.Known → gt.call ≤ 1000000 → p.out.length + 1 ≤ 20 → TdQ (PA g ov) w (gt :: rest) tv → EnvQ (PA g ov) w E.reverse ev →
  Calls Tryd.prog 95 #[.pointer (some ⟨g, 0, none⟩), tv, ev] w (PProvePost base P q g pv ov (simpleR pr gt rest E p) w)
section
variable {base : Nat} {P : List Cl} {q g : Nat} {pv : Value} {pr : List Td → Env → Pv → Int × Pv} {gt : Td} {rest : List Td} {p : Pv} {E : Env} {w : World} {ov tv ev : Value}
set_option maxRecDepth 100000 in
set_option maxHeartbeats 4000000 in
theorem psimple_cut (s1 : gt.t.s.toList = [33]) : SimpOK base P q g pv pr gt rest p E w ov tv ev := by
  intro hpr hok hE h hg0 hkn hcall hout htd hev
  have HU := hid h
  have HE := hid hE
  have HG0 := hid hg0
  have HTD := hid htd
  have HPR := hid hpr
  have HOK := hid hok
  have HEV := hid hev
  have HOUT := hid hout
  have hcs := cell_set
  obtain ⟨ep, rfl⟩ := hev.ptr
  obtain ⟨gb, ga, gcap, rv, rfl, hgA, hgb, hgr, hgrest⟩ := htd
  obtain ⟨rp, rfl⟩ := hgrest.ptr
  have HGB := hid hgb
  have HGR := hid hgr
  have HGA := hid hgA
  have HREST := hid hgrest
  obtain ⟨hl1, hl2⟩ := h.lt
  obtain ⟨g00, g01, g02, g03, g04, g05, gf⟩ := blk6 hgb
  have hgbl := blk_lt hgb
  have hc0 : (0 : Int) ≤ (gt.call : Int) := Int.natCast_nonneg _
  have q1 : (gt.t.s.toList == [33]) = true := by simpa using s1
  have hkf := hid (show simpleR pr gt rest E p = (if (pr rest E p).1 ≥ 0 ∧ (pr rest E p).1 < gt.call then pr rest E p else ((gt.call : Int), (pr rest E p).2)) by rw [simpleR, if_pos s1])
  clear h hE hg0 hgA hgb hgr hgrest hpr hok hev
  go_enter Tryd.func95, Tryd.ntmps95
  go_wp2_with fail
  refine (HOK.out E w _ _ _ HE.out HU.out HREST.out HEV.out).mono ?_
  rintro e w1 ⟨rfl, hst⟩
  obtain ⟨hr0, hr1⟩ := HPR.out E
  generalize pr rest E p = r at *
  obtain ⟨i, p1⟩ := r
  have HST := hid hst
  obtain ⟨ov1, hpv1, hch1, hot1⟩ := hst
  have HGB1 := hid (blk_keeps HGB.out (pa_mid hch1 hot1).1 ⟨HGA.out, hgbl⟩)
  clear hpv1 hch1 hot1 g00 g01 g02 g03 g04 g05 gf
  obtain ⟨g00, g01, g02, g03, g04, g05, gf⟩ := blk6 HGB1.out
  have hgbl1 := blk_lt HGB1.out
  simp only at hr0 hr1
  by_cases hi0 : (0 : Int) ≤ i
  · by_cases hi1 : i < (gt.call : Int)
    · go_wp2_with fail
      go_ret
      rw [hkf.out, if_pos ⟨hi0, hi1⟩]
      exact ⟨rfl, HST.out⟩
    · go_wp2_with fail
      go_ret
      rw [hkf.out, if_neg (fun h => Int.not_lt.2 hi1 h.2)]
      exact ⟨rfl, HST.out⟩
  · go_wp2_with fail
    go_ret
    rw [hkf.out, if_neg (fun h => Int.not_le.2 hi0 h.1)]
    exact ⟨rfl, HST.out⟩
set_option maxRecDepth 100000 in
set_option maxHeartbeats 4000000 in
theorem psimple_true (s1 : gt.t.s.toList ≠ [33]) (s2 : gt.t.s.toList = [116, 114, 117, 101]) : SimpOK base P q g pv pr gt rest p E w ov tv ev := by
  intro hpr hok hE h hg0 hkn hcall hout htd hev
  have HU := hid h
  have HE := hid hE
  have HG0 := hid hg0
  have HTD := hid htd
  have HPR := hid hpr
  have HOK := hid hok
  have HEV := hid hev
  have HOUT := hid hout
  have hcs := cell_set
  obtain ⟨ep, rfl⟩ := hev.ptr
  obtain ⟨gb, ga, gcap, rv, rfl, hgA, hgb, hgr, hgrest⟩ := htd
  obtain ⟨rp, rfl⟩ := hgrest.ptr
  have HGB := hid hgb
  have HGR := hid hgr
  have HGA := hid hgA
  have HREST := hid hgrest
  obtain ⟨hl1, hl2⟩ := h.lt
  obtain ⟨g00, g01, g02, g03, g04, g05, gf⟩ := blk6 hgb
  have hgbl := blk_lt hgb
  have hc0 : (0 : Int) ≤ (gt.call : Int) := Int.natCast_nonneg _
  have q1 : (gt.t.s.toList == [33]) = false := by simpa using s1
  have q2 : (gt.t.s.toList == [116, 114, 117, 101]) = true := by simpa using s2
  have hkf := hid (show simpleR pr gt rest E p = pr rest E p by rw [simpleR, if_neg s1, if_pos s2])
  clear h hE hg0 hgA hgb hgr hgrest hpr hok hev
  go_enter Tryd.func95, Tryd.ntmps95
  go_wp2_with fail
  refine (HOK.out E w _ _ _ HE.out HU.out HREST.out HEV.out).mono ?_
  rintro e w1 ⟨rfl, hst⟩
  have HST := hid hst
  clear hst
  go_wp2_with fail
  go_ret
  rw [hkf.out]
  exact ⟨rfl, HST.out⟩
set_option maxRecDepth 100000 in
set_option maxHeartbeats 4000000 in
theorem psimple_fail (s1 : gt.t.s.toList ≠ [33]) (s2 : gt.t.s.toList ≠ [116, 114, 117, 101]) (s3 : gt.t.s.toList = [102, 97, 105, 108]) : SimpOK base P q g pv pr gt rest p E w ov tv ev := by
  intro hpr hok hE h hg0 hkn hcall hout htd hev
  have HU := hid h
  have HE := hid hE
  have HG0 := hid hg0
  have HTD := hid htd
  have HPR := hid hpr
  have HOK := hid hok
  have HEV := hid hev
  have HOUT := hid hout
  have hcs := cell_set
  obtain ⟨ep, rfl⟩ := hev.ptr
  obtain ⟨gb, ga, gcap, rv, rfl, hgA, hgb, hgr, hgrest⟩ := htd
  obtain ⟨rp, rfl⟩ := hgrest.ptr
  have HGB := hid hgb
  have HGR := hid hgr
  have HGA := hid hgA
  have HREST := hid hgrest
  obtain ⟨hl1, hl2⟩ := h.lt
  obtain ⟨g00, g01, g02, g03, g04, g05, gf⟩ := blk6 hgb
  have hgbl := blk_lt hgb
  have hc0 : (0 : Int) ≤ (gt.call : Int) := Int.natCast_nonneg _
  have q1 : (gt.t.s.toList == [33]) = false := by simpa using s1
  have q2 : (gt.t.s.toList == [116, 114, 117, 101]) = false := by simpa using s2
  have q3 : (gt.t.s.toList == [102, 97, 105, 108]) = true := by simpa using s3
  have hkf := hid (show simpleR pr gt rest E p = (-1, p) by rw [simpleR, if_neg s1, if_neg s2, if_pos s3])
  clear h hE hg0 hgA hgb hgr hgrest hpr hok hev
  go_enter Tryd.func95, Tryd.ntmps95
  go_wp2_with fail
  go_ret
  rw [hkf.out]
  exact ⟨rfl, PStep.refl HU.out⟩
set_option maxRecDepth 100000 in
set_option maxHeartbeats 4000000 in
theorem psimple_eq (s1 : gt.t.s.toList ≠ [33]) (s2 : gt.t.s.toList ≠ [116, 114, 117, 101]) (s3 : gt.t.s.toList ≠ [102, 97, 105, 108]) (s4 : gt.t.s.toList = [101, 113]) : SimpOK base P q g pv pr gt rest p E w ov tv ev := by
  intro hpr hok hE h hg0 hkn hcall hout htd hev
  have HU := hid h
  have HE := hid hE
  have HG0 := hid hg0
  have HTD := hid htd
  have HPR := hid hpr
  have HOK := hid hok
  have HEV := hid hev
  have HOUT := hid hout
  have hcs := cell_set
  obtain ⟨ep, rfl⟩ := hev.ptr
  obtain ⟨gb, ga, gcap, rv, rfl, hgA, hgb, hgr, hgrest⟩ := htd
  obtain ⟨rp, rfl⟩ := hgrest.ptr
  have HGB := hid hgb
  have HGR := hid hgr
  have HGA := hid hgA
  have HREST := hid hgrest
  obtain ⟨hl1, hl2⟩ := h.lt
  obtain ⟨g00, g01, g02, g03, g04, g05, gf⟩ := blk6 hgb
  have hgbl := blk_lt hgb
  have hc0 : (0 : Int) ≤ (gt.call : Int) := Int.natCast_nonneg _
  have q1 : (gt.t.s.toList == [33]) = false := by simpa using s1
  have q2 : (gt.t.s.toList == [116, 114, 117, 101]) = false := by simpa using s2
  have q3 : (gt.t.s.toList == [102, 97, 105, 108]) = false := by simpa using s3
  have q4 : (gt.t.s.toList == [101, 113]) = true := by simpa using s4
  have hk2 : gt.t.args.length = 2 := by
    rcases hkn with ⟨_, h1 | h1 | h1⟩ | ⟨h0, _⟩ | ⟨_, h1⟩
    · exact absurd h1 s1
    · exact absurd h1 s2
    · exact absurd h1 s3
    · exact h0
    · rw [s4] at h1; simp at h1
  obtain ⟨_, _, ab, aoff, e9, hac1, hac2, -, hea, hee⟩ := SlR.at (show SlR 4 Tm.rep (PA g ov) w gt.t.args (.slice ga gt.t.args.length gcap) by
    obtain ⟨_, _, e, -, -, -, -, -, -, h8⟩ := Tm.rep4 hgr
    simp only [List.cons.injEq, true_and, and_true] at e
    rw [e]; exact h8)
  simp only [Value.slice.injEq, true_and] at e9
  obtain ⟨rfl, rfl⟩ := e9
  obtain ⟨rfl, hAb⟩ := hea (by omega)
  obtain ⟨xa, xc, c0, c1, c2, c3, hxr⟩ := tm_cells hee hAb (Keeps.refl _ _) (k := 0) (by omega)
  obtain ⟨ya, yc, d0, d1, d2, d3, hyr⟩ := tm_cells hee hAb (Keeps.refl _ _) (k := 1) (by omega)
  have HXI := hid (hg0.arg (List.getElem_mem (l := gt.t.args) (n := 0) (by omega)))
  have HYI := hid (hg0.arg (List.getElem_mem (l := gt.t.args) (n := 1) (by omega)))
  have e0 : (gt.t.args[0]?).getD default = gt.t.args[0] := by rw [List.getElem?_eq_getElem (by omega)]; rfl
  have e1 : (gt.t.args[1]?).getD default = gt.t.args[1] := by rw [List.getElem?_eq_getElem (by omega)]; rfl
  obtain ⟨x, hx⟩ : ∃ x, x = gt.t.args[0] := ⟨_, rfl⟩
  obtain ⟨y, hy⟩ : ∃ y, y = gt.t.args[1] := ⟨_, rfl⟩
  rw [← hx] at c0 c1 c2 c3 hxr HXI e0
  rw [← hy] at d0 d1 d2 d3 hyr HYI e1
  simp only [Nat.zero_mul, Nat.add_zero, Nat.one_mul] at c0 c1 c2 c3 d0 d1 d2 d3
  have HXR := hid hxr
  have HYR := hid hyr
  have habl : ab < w.heap.size := World.block_lt_of_cell? w _ c0
  rw [hk2] at g03 hac1
  have hkf := hid (show simpleR pr gt rest E p = (if (uniS 400 [(x, y)] E).work < 0 then (-1, p.put 4) else if (uniS 400 [(x, y)] E).ok = false then (-1, p) else pr rest (uniS 400 [(x, y)] E).env p) by
    rw [simpleR, if_neg s1, if_neg s2, if_neg s3, if_pos s4, e0, e1])
  clear hxr hyr hea hee hx hy e0 e1 hk2
  clear h hE hg0 hgA hgb hgr hgrest hpr hok hev
  go_enter Tryd.func95, Tryd.ntmps95
  go_wp2_with fail
  refine wp_region_F (F := fun _ w' => Below w.heap.size w w') (by kernel_rfl) ?_
  have HF : Below w.heap.size w w.drew := (Below.refl _ _).drew
  refine wpAnyF_take (i := 0) (v := ?_) rfl (by kernel_rfl) (by kernel_rfl) (by kernel_rfl) (fun _ _ _ h => h) (Or.inl ⟨by rfl, ?_⟩) HF ?_
  rotate_left
  · (intro w' hw; clear hw; go_simp <;> with_reducible rfl)
  try simp only [Act.put, List.setIfInBounds_toArray, List.set_cons_zero, List.set_cons_succ]
  refine wpAnyF_take (i := 1) (v := ?_) rfl (by kernel_rfl) (by kernel_rfl) (by kernel_rfl) (fun _ _ _ h => h) (Or.inl ⟨by rfl, ?_⟩) HF ?_
  rotate_left
  · (intro w' hw; clear hw; go_simp <;> with_reducible rfl)
  try simp only [Act.put, List.setIfInBounds_toArray, List.set_cons_zero, List.set_cons_succ]
  refine wpAnyF_take (i := 2) (v := .pointer (some ⟨ab, aoff, none⟩)) rfl (by kernel_rfl) (by kernel_rfl) (by kernel_rfl) (fun _ _ _ h => h) (Or.inl ⟨by rfl, ?_⟩) HF ?_
  · (intro w' hw; clear hw; go_simp <;> omega)
  try simp only [Act.put, List.setIfInBounds_toArray, List.set_cons_zero, List.set_cons_succ]
  refine wpAnyF_take (i := 3) (v := .agg #[.int .i64 x.kind, .int .i64 x.n, .string x.s, .slice xa x.args.length xc]) rfl (by kernel_rfl) (by kernel_rfl) (by kernel_rfl) (fun _ _ _ h => h) (Or.inl ⟨by rfl, ?_⟩) HF ?_
  · (intro w' hw; have c0 := (Keeps.of_below (A := fun _ => True) hw).cell trivial c0; have c1 := (Keeps.of_below (A := fun _ => True) hw).cell trivial c1; have c2 := (Keeps.of_below (A := fun _ => True) hw).cell trivial c2; have c3 := (Keeps.of_below (A := fun _ => True) hw).cell trivial c3; clear hw; go_simp)
  try simp only [Act.put, List.setIfInBounds_toArray, List.set_cons_zero, List.set_cons_succ]
  refine wpAnyF_take (i := 4) (v := ?_) rfl (by kernel_rfl) (by kernel_rfl) (by kernel_rfl) (fun _ _ _ h => h) (Or.inl ⟨by rfl, ?_⟩) HF ?_
  rotate_left
  · (intro w' hw; clear hw; go_simp <;> with_reducible rfl)
  try simp only [Act.put, List.setIfInBounds_toArray, List.set_cons_zero, List.set_cons_succ]
  refine wpAnyF_take (i := 5) (v := .pointer (some ⟨ab, aoff + 4, none⟩)) rfl (by kernel_rfl) (by kernel_rfl) (by kernel_rfl) (fun _ _ _ h => h) (Or.inl ⟨by rfl, ?_⟩) HF ?_
  · (intro w' hw; clear hw; go_simp <;> omega)
  try simp only [Act.put, List.setIfInBounds_toArray, List.set_cons_zero, List.set_cons_succ]
  refine wpAnyF_take (i := 6) (v := .agg #[.int .i64 y.kind, .int .i64 y.n, .string y.s, .slice ya y.args.length yc]) rfl (by kernel_rfl) (by kernel_rfl) (by kernel_rfl) (fun _ _ _ h => h) (Or.inl ⟨by rfl, ?_⟩) HF ?_
  · (intro w' hw; have d0 := (Keeps.of_below (A := fun _ => True) hw).cell trivial d0; have d1 := (Keeps.of_below (A := fun _ => True) hw).cell trivial d1; have d2 := (Keeps.of_below (A := fun _ => True) hw).cell trivial d2; have d3 := (Keeps.of_below (A := fun _ => True) hw).cell trivial d3; clear hw; go_simp)
  try simp only [Act.put, List.setIfInBounds_toArray, List.set_cons_zero, List.set_cons_succ]
  clear HF
  refine wpAnyF_one (i := 7) (by kernel_rfl) (wpOp_run rfl (by rfl) ?_)
  go_simp
  refine (one_ok HE.out x y HXI.out HYI.out (PA g ov) w.drew _ [_, _, _, _] [_, _, _, _] (HEV.out.keeps (Keeps.drew _ _)) (Tm.rep_lasts.1 _ _ _ _ _ HXR.out (Keeps.drew _ _)) (Tm.rep_lasts.1 _ _ _ _ _ HYR.out (Keeps.drew _ _))).mono ?_
  rintro e w1 ⟨uv, rfl, hb1, hq1⟩
  have hb1' : Below w.heap.size w w1 := ((Below.refl w.heap.size w).drew).trans hb1
  have HUE := hid (uniS_env 400 [(x, y)] E HE.out (by intro z hz; simp only [List.mem_singleton] at hz; subst hz; exact ⟨HXI.out, HYI.out⟩)).1
  generalize uniS 400 [(x, y)] E = u at *
  obtain ⟨uo, ue, uw⟩ := u
  obtain ⟨up, rfl⟩ := hq1.ptr
  have HB1 := hid hb1'
  have HQ1 := hid (hq1.mono (A' := PA g ov) (fun b _ h => h.elim id (fun h hp => by have := (HU.out.pm_lt b hp).2; simp only [World.size_drew] at h; omega)))
  have HU1 := hid (HU.out.below hb1')
  have HR1 := hid (HREST.out.keeps (Keeps.of_below hb1'))
  have HG1 := hid (blk_below HGB.out hb1')
  clear hb1 hq1 c0 c1 c2 c3 d0 d1 d2 d3
  simp only at *
  refine ⟨fun _ _ _ => hb1', ?_⟩
  refine wpAnyF_one (i := 8) (by kernel_rfl) (wpOp_run rfl (by rfl) ?_)
  go_simp
  refine ⟨fun _ _ _ => hb1', ?_⟩
  have HF := hb1'
  refine wpAnyF_take (i := 9) (v := ?_) rfl (by kernel_rfl) (by kernel_rfl) (by kernel_rfl) (fun _ _ _ h => h) (Or.inl ⟨by rfl, ?_⟩) HF ?_
  rotate_left
  · (intro w' hw; clear hw; go_simp <;> with_reducible rfl)
  try simp only [Act.put, List.setIfInBounds_toArray, List.set_cons_zero, List.set_cons_succ]
  refine wpAnyF_take (i := 10) (v := ?_) rfl (by kernel_rfl) (by kernel_rfl) (by kernel_rfl) (fun _ _ _ h => h) (Or.inl ⟨by rfl, ?_⟩) HF ?_
  rotate_left
  · (intro w' hw; clear hw; go_simp <;> with_reducible rfl)
  try simp only [Act.put, List.setIfInBounds_toArray, List.set_cons_zero, List.set_cons_succ]
  refine wpAnyF_take (i := 11) (v := ?_) rfl (by kernel_rfl) (by kernel_rfl) (by kernel_rfl) (fun _ _ _ h => h) (Or.inl ⟨by rfl, ?_⟩) HF ?_
  rotate_left
  · (intro w' hw; clear hw; go_simp <;> with_reducible rfl)
  try simp only [Act.put, List.setIfInBounds_toArray, List.set_cons_zero, List.set_cons_succ]
  clear HF
  refine wpAnyF_one (i := 12) (by kernel_rfl) (wpOp_run rfl (by rfl) ?_)
  go_simp
  refine ⟨fun _ _ _ => hb1', ?_⟩
  refine wpAnyF_one (i := 13) (by kernel_rfl) (wpOp_run rfl (by rfl) ?_)
  go_simp
  refine ⟨fun _ _ _ => hb1', ?_⟩
  refine wpAnyF_one (i := 14) (by kernel_rfl) (wpOp_run rfl (by rfl) ?_)
  go_simp
  refine ⟨fun _ _ _ => hb1', wpAnyF_done (by kernel_rfl) ?_ _⟩
  clear hb1' g00 g01 g02 g03 g04 g05 gf
  obtain ⟨g00, g01, g02, g03, g04, g05, gf⟩ := blk6 HG1.out
  have hgbl1 := blk_lt HG1.out
  have HST1 := hid (fun (p' : Pv) (w' : World) (hh : PStep base P q g pv ov p' w1 w') => (PStep.trans (Ch.of_below HB1.out) (fun b h => .inl h) hh : PStep base P q g pv ov p' w w'))
  by_cases hw0 : uw < 0
  · have hkf1 := hid (hkf.out.trans (if_pos hw0))
    go_wp2_with fail
    refine (pend_ok 4 (by unfold I64; omega) HU1.out HOUT.out).mono ?_
    rintro e w9 ⟨rfl, hst⟩
    have HST := hid (HST1.out _ _ hst)
    clear hst
    go_wp2_with fail
    go_ret
    rw [hkf1.out]
    exact ⟨rfl, HST.out⟩
  have hkf1 := hid (hkf.out.trans (if_neg hw0))
  cases uo with
  | false =>
    go_wp2_with fail
    go_ret
    rw [hkf1.out, if_pos (by simp)]
    exact ⟨rfl, HST1.out _ _ (PStep.refl HU1.out)⟩
  | true =>
    go_wp2_with fail
    refine (HOK.out ue w1 _ _ _ HUE.out HU1.out HR1.out HQ1.out).mono ?_
    rintro e w9 ⟨rfl, hst⟩
    have HST := hid (HST1.out _ _ hst)
    clear hst
    go_wp2_with fail
    go_ret
    rw [hkf1.out, if_neg (by simp)]
    exact ⟨rfl, HST.out⟩
end
end Go.Proofs.YtlpmfkpefoegeabDoor

namespace Go.Proofs.YtlpmfkpefoegeabDoor
set_option linter.unusedVariables false
set_option linter.unusedSimpArgs false
open Go.RowKit
def knownV : Option Bool → Value
  | none => .tuple #[.bool false, .bool false]
  | some b => .tuple #[.bool b, .bool true]
def SKnownPost (base : Nat) (P : List Cl) (q g mb : Nat) (pv tv cv ov : Value) (r : Option Bool × Sv) (w : World) (e : Ending) (w' : World) : Prop := e = .returned (knownV r.1) ∧ SStep base P q g mb pv tv cv ov r.2 w w'
def SKnownOK (base : Nat) (P : List Cl) (q g mb : Nat) (pv tv cv ov : Value) (s : Sv) (w : World) (g0 : Gl) (rest : List Gl) (gv : Value) : Prop :=
  SvI base P q g mb g pv tv cv ov s w → EnvOk s.vars s.env → g0.t.In s.vars → g0.t.Known → GlsR (SA g mb g tv cv ov) w (g0 :: rest) gv → s.env.length ≤ 900000 → s.out.length + 1 ≤ 20 →
    Calls Tryd.prog 92 #[.pointer (some ⟨g, 0, none⟩), gv] w (SKnownPost base P q g mb pv tv cv ov (knownF g0 s) w)
section
variable {base : Nat} {P : List Cl} {q g mb : Nat} {pv tv cv ov : Value} {s : Sv} {w : World} {g0 : Gl} {rest : List Gl} {gv : Value}
set_option maxRecDepth 100000 in
set_option maxHeartbeats 4000000 in
theorem sknown_cut (s1 : g0.t.s.toList = [33]) (hb : g0.bar ≤ s.choices.length) : SKnownOK base P q g mb pv tv cv ov s w g0 rest gv := by
  intro h hE hg0 hkn hgv hlen hout
  have HU := hid h
  have HE := hid hE
  have HG0 := hid hg0
  have HGV := hid hgv
  have HLEN := hid hlen
  have HOUT := hid hout
  have hcs := cell_set
  obtain ⟨gb, ga, gcap, rv, rfl, hgA, hgb, hgr, hgrest⟩ := hgv
  obtain ⟨pa, pc, ta, tc, ca, cc, oa, oc, hpv, htv, hcv, hov, hvl1, hvl2, hvl3, hvl4, hvl5, hvl6, hvl7, hvl8⟩ := h.vals
  have HGB := hid hgb
  have HGR := hid hgr
  have HGA := hid hgA
  obtain ⟨hl1, hl2, hl3⟩ := h.lt
  obtain ⟨b0, b1, b2, b3, b4, b5, b6, b7, bf⟩ := box8 h.box
  obtain ⟨g00, g01, g02, g03, g04, g05, gf⟩ := blk6 hgb
  have hgbl := blk_lt hgb
  have hbar0 : (0 : Int) ≤ (g0.bar : Int) := Int.natCast_nonneg _
  have q1 : (g0.t.s.toList == [33]) = true := by simpa using s1
  have hkf := hid (show knownF g0 s = (some true, { s with choices := s.choices.drop (s.choices.length - g0.bar) }) by rw [knownF, if_pos s1])
  subst hcv
  unfold maxLen at hvl6
  have hcl0 : (0 : Int) ≤ (s.choices.length : Int) := Int.natCast_nonneg _
  have hcl1 : (g0.bar : Int) ≤ (s.choices.length : Int) := by omega
  have hcl2 : min (g0.bar : Int) (s.choices.length : Int) = (g0.bar : Int) := by omega
  have hcl3 : (g0.bar : Int) ≤ (cc : Int) := by omega
  have hcl4 : ¬ s.choices.length < g0.bar := by omega
  clear h hE hg0 hlen hout hgA hgb hgr hgrest hpv htv hov
  try clear hcv
  go_enter Tryd.func92, Tryd.ntmps92
  go_wp2_with fail
  go_still_tail 16, (by kernel_rfl)
  change wpList _ _ _ _ _ w.drew
  have HB2 := hid (show Below w.heap.size w w.drew from (Below.refl _ _).drew)
  have HSV2 := hid (HU.out.below HB2.out)
  have hgl2 : g < w.drew.heap.size := HSV2.out.lt.1
  generalize w.drew = W2 at *
  clear b0 b1 b2 b3 b4 b5 b6 b7 bf
  obtain ⟨b0, b1, b2, b3, b4, b5, b6, b7, bf⟩ := box8 HSV2.out.box
  go_wp2_with fail
  go_ret2
  rw [hkf.out]
  have HCUT := HSV2.out.cutChc (k := g0.bar) (by omega)
  have hst := SStep.trans (Ch.of_below HB2.out) (fun b h => .inl h) (fun b h => .inl h) (fun b h => .inl h) HCUT
  refine ⟨rfl, ?_⟩
  exact hst
set_option maxRecDepth 100000 in
set_option maxHeartbeats 4000000 in
theorem sknown_cutN (s1 : g0.t.s.toList = [33]) (hb : ¬ g0.bar ≤ s.choices.length) : SKnownOK base P q g mb pv tv cv ov s w g0 rest gv := by
  intro h hE hg0 hkn hgv hlen hout
  have HU := hid h
  have HE := hid hE
  have HG0 := hid hg0
  have HGV := hid hgv
  have HLEN := hid hlen
  have HOUT := hid hout
  have hcs := cell_set
  obtain ⟨gb, ga, gcap, rv, rfl, hgA, hgb, hgr, hgrest⟩ := hgv
  obtain ⟨pa, pc, ta, tc, ca, cc, oa, oc, hpv, htv, hcv, hov, hvl1, hvl2, hvl3, hvl4, hvl5, hvl6, hvl7, hvl8⟩ := h.vals
  have HGB := hid hgb
  have HGR := hid hgr
  have HGA := hid hgA
  obtain ⟨hl1, hl2, hl3⟩ := h.lt
  obtain ⟨b0, b1, b2, b3, b4, b5, b6, b7, bf⟩ := box8 h.box
  obtain ⟨g00, g01, g02, g03, g04, g05, gf⟩ := blk6 hgb
  have hgbl := blk_lt hgb
  have hbar0 : (0 : Int) ≤ (g0.bar : Int) := Int.natCast_nonneg _
  have q1 : (g0.t.s.toList == [33]) = true := by simpa using s1
  have hkf := hid (show knownF g0 s = (some true, { s with choices := s.choices.drop (s.choices.length - g0.bar) }) by rw [knownF, if_pos s1])
  subst hcv
  unfold maxLen at hvl6
  have hcl0 : (0 : Int) ≤ (s.choices.length : Int) := Int.natCast_nonneg _
  have hcl1 : ¬ (g0.bar : Int) ≤ (s.choices.length : Int) := by omega
  have hcl2 : min (g0.bar : Int) (s.choices.length : Int) = (s.choices.length : Int) := by omega
  have hcl3 : (s.choices.length : Int) ≤ (cc : Int) := by omega
  have hcl4 : s.choices.length < g0.bar := by omega
  clear h hE hg0 hlen hout hgA hgb hgr hgrest hpv htv hov
  try clear hcv
  go_enter Tryd.func92, Tryd.ntmps92
  go_wp2_with fail
  go_still_tail 16, (by kernel_rfl)
  change wpList _ _ _ _ _ w.drew
  have HB2 := hid (show Below w.heap.size w w.drew from (Below.refl _ _).drew)
  have HSV2 := hid (HU.out.below HB2.out)
  have hgl2 : g < w.drew.heap.size := HSV2.out.lt.1
  generalize w.drew = W2 at *
  clear b0 b1 b2 b3 b4 b5 b6 b7 bf
  obtain ⟨b0, b1, b2, b3, b4, b5, b6, b7, bf⟩ := box8 HSV2.out.box
  go_wp2_with fail
  go_ret2
  rw [hkf.out]
  have HCUT := HSV2.out.cutChc (k := s.choices.length) (by omega)
  have hst := SStep.trans (Ch.of_below HB2.out) (fun b h => .inl h) (fun b h => .inl h) (fun b h => .inl h) HCUT
  refine ⟨rfl, ?_⟩
  rw [show s.choices.length - g0.bar = s.choices.length - s.choices.length by omega]
  exact hst
set_option maxRecDepth 100000 in
set_option maxHeartbeats 4000000 in
theorem sknown_true (s1 : g0.t.s.toList ≠ [33]) (s2 : g0.t.s.toList = [116, 114, 117, 101]) : SKnownOK base P q g mb pv tv cv ov s w g0 rest gv := by
  intro h hE hg0 hkn hgv hlen hout
  have HU := hid h
  have HE := hid hE
  have HG0 := hid hg0
  have HGV := hid hgv
  have HLEN := hid hlen
  have HOUT := hid hout
  have hcs := cell_set
  obtain ⟨gb, ga, gcap, rv, rfl, hgA, hgb, hgr, hgrest⟩ := hgv
  obtain ⟨pa, pc, ta, tc, ca, cc, oa, oc, hpv, htv, hcv, hov, hvl1, hvl2, hvl3, hvl4, hvl5, hvl6, hvl7, hvl8⟩ := h.vals
  have HGB := hid hgb
  have HGR := hid hgr
  have HGA := hid hgA
  obtain ⟨hl1, hl2, hl3⟩ := h.lt
  obtain ⟨b0, b1, b2, b3, b4, b5, b6, b7, bf⟩ := box8 h.box
  obtain ⟨g00, g01, g02, g03, g04, g05, gf⟩ := blk6 hgb
  have hgbl := blk_lt hgb
  have hbar0 : (0 : Int) ≤ (g0.bar : Int) := Int.natCast_nonneg _
  have q1 : (g0.t.s.toList == [33]) = false := by simpa using s1
  have q2 : (g0.t.s.toList == [116, 114, 117, 101]) = true := by simpa using s2
  have hkf := hid (show knownF g0 s = (some true, s) by rw [knownF, if_neg s1, if_pos s2])
  clear h hE hg0 hlen hout hgA hgb hgr hgrest hpv htv hov
  try clear hcv
  go_enter Tryd.func92, Tryd.ntmps92
  go_wp2_with fail
  go_ret2
  rw [hkf.out]
  exact ⟨rfl, SStep.refl HU.out⟩
set_option maxRecDepth 100000 in
set_option maxHeartbeats 4000000 in
theorem sknown_fail (s1 : g0.t.s.toList ≠ [33]) (s2 : g0.t.s.toList ≠ [116, 114, 117, 101]) (s3 : g0.t.s.toList = [102, 97, 105, 108]) : SKnownOK base P q g mb pv tv cv ov s w g0 rest gv := by
  intro h hE hg0 hkn hgv hlen hout
  have HU := hid h
  have HE := hid hE
  have HG0 := hid hg0
  have HGV := hid hgv
  have HLEN := hid hlen
  have HOUT := hid hout
  have hcs := cell_set
  obtain ⟨gb, ga, gcap, rv, rfl, hgA, hgb, hgr, hgrest⟩ := hgv
  obtain ⟨pa, pc, ta, tc, ca, cc, oa, oc, hpv, htv, hcv, hov, hvl1, hvl2, hvl3, hvl4, hvl5, hvl6, hvl7, hvl8⟩ := h.vals
  have HGB := hid hgb
  have HGR := hid hgr
  have HGA := hid hgA
  obtain ⟨hl1, hl2, hl3⟩ := h.lt
  obtain ⟨b0, b1, b2, b3, b4, b5, b6, b7, bf⟩ := box8 h.box
  obtain ⟨g00, g01, g02, g03, g04, g05, gf⟩ := blk6 hgb
  have hgbl := blk_lt hgb
  have hbar0 : (0 : Int) ≤ (g0.bar : Int) := Int.natCast_nonneg _
  have q1 : (g0.t.s.toList == [33]) = false := by simpa using s1
  have q2 : (g0.t.s.toList == [116, 114, 117, 101]) = false := by simpa using s2
  have q3 : (g0.t.s.toList == [102, 97, 105, 108]) = true := by simpa using s3
  have hkf := hid (show knownF g0 s = (some false, s) by rw [knownF, if_neg s1, if_neg s2, if_pos s3])
  clear h hE hg0 hlen hout hgA hgb hgr hgrest hpv htv hov
  try clear hcv
  go_enter Tryd.func92, Tryd.ntmps92
  go_wp2_with fail
  go_ret2
  rw [hkf.out]
  exact ⟨rfl, SStep.refl HU.out⟩
set_option maxRecDepth 100000 in
set_option maxHeartbeats 4000000 in
theorem sknown_eq (s1 : g0.t.s.toList ≠ [33]) (s2 : g0.t.s.toList ≠ [116, 114, 117, 101]) (s3 : g0.t.s.toList ≠ [102, 97, 105, 108]) (s4 : g0.t.s.toList = [101, 113]) : SKnownOK base P q g mb pv tv cv ov s w g0 rest gv := by
  intro h hE hg0 hkn hgv hlen hout
  have HU := hid h
  have HE := hid hE
  have HG0 := hid hg0
  have HGV := hid hgv
  have HLEN := hid hlen
  have HOUT := hid hout
  have hcs := cell_set
  obtain ⟨gb, ga, gcap, rv, rfl, hgA, hgb, hgr, hgrest⟩ := hgv
  obtain ⟨pa, pc, ta, tc, ca, cc, oa, oc, hpv, htv, hcv, hov, hvl1, hvl2, hvl3, hvl4, hvl5, hvl6, hvl7, hvl8⟩ := h.vals
  have HGB := hid hgb
  have HGR := hid hgr
  have HGA := hid hgA
  obtain ⟨hl1, hl2, hl3⟩ := h.lt
  obtain ⟨b0, b1, b2, b3, b4, b5, b6, b7, bf⟩ := box8 h.box
  obtain ⟨g00, g01, g02, g03, g04, g05, gf⟩ := blk6 hgb
  have hgbl := blk_lt hgb
  have hbar0 : (0 : Int) ≤ (g0.bar : Int) := Int.natCast_nonneg _
  have q1 : (g0.t.s.toList == [33]) = false := by simpa using s1
  have q2 : (g0.t.s.toList == [116, 114, 117, 101]) = false := by simpa using s2
  have q3 : (g0.t.s.toList == [102, 97, 105, 108]) = false := by simpa using s3
  have q4 : (g0.t.s.toList == [101, 113]) = true := by simpa using s4
  have hk2 : g0.t.args.length = 2 := by
    rcases hkn with ⟨_, h1 | h1 | h1⟩ | ⟨h0, _⟩ | ⟨_, h1⟩
    · exact absurd h1 s1
    · exact absurd h1 s2
    · exact absurd h1 s3
    · exact h0
    · rw [s4] at h1; simp at h1
  obtain ⟨_, _, ab, aoff, e9, hac1, hac2, -, hea, hee⟩ := SlR.at (show SlR 4 Tm.rep (SA g mb g tv cv ov) w g0.t.args (.slice ga g0.t.args.length gcap) by
    obtain ⟨_, _, e, -, -, -, -, -, -, h8⟩ := Tm.rep4 hgr
    simp only [List.cons.injEq, true_and, and_true] at e
    rw [e]; exact h8)
  simp only [Value.slice.injEq, true_and] at e9
  obtain ⟨rfl, rfl⟩ := e9
  obtain ⟨rfl, hAb⟩ := hea (by omega)
  obtain ⟨xa, xc, c0, c1, c2, c3, hxr⟩ := tm_cells hee hAb (Keeps.refl _ _) (k := 0) (by omega)
  obtain ⟨ya, yc, d0, d1, d2, d3, hyr⟩ := tm_cells hee hAb (Keeps.refl _ _) (k := 1) (by omega)
  have HXI := hid (hg0.arg (List.getElem_mem (l := g0.t.args) (n := 0) (by omega)))
  have HYI := hid (hg0.arg (List.getElem_mem (l := g0.t.args) (n := 1) (by omega)))
  have e0 : (g0.t.args[0]?).getD default = g0.t.args[0] := by rw [List.getElem?_eq_getElem (by omega)]; rfl
  have e1 : (g0.t.args[1]?).getD default = g0.t.args[1] := by rw [List.getElem?_eq_getElem (by omega)]; rfl
  obtain ⟨x, hx⟩ : ∃ x, x = g0.t.args[0] := ⟨_, rfl⟩
  obtain ⟨y, hy⟩ : ∃ y, y = g0.t.args[1] := ⟨_, rfl⟩
  rw [← hx] at c0 c1 c2 c3 hxr HXI e0
  rw [← hy] at d0 d1 d2 d3 hyr HYI e1
  simp only [Nat.zero_mul, Nat.add_zero, Nat.one_mul] at c0 c1 c2 c3 d0 d1 d2 d3
  have HXR := hid hxr
  have HYR := hid hyr
  have habl : ab < w.heap.size := World.block_lt_of_cell? w _ c0
  rw [hk2] at g03 hac1
  have hkf := hid (show knownF g0 s = (if (uniS 400 [(x, y)] s.env).work < 0 then (none, { s with env := (uniS 400 [(x, y)] s.env).env }.put 4) else (some (uniS 400 [(x, y)] s.env).ok, { s with env := (uniS 400 [(x, y)] s.env).env })) by
    rw [knownF, if_neg s1, if_neg s2, if_neg s3, if_pos s4, e0, e1])
  clear hxr hyr hea hee hx hy e0 e1 hk2
  clear h hE hg0 hlen hout hgA hgb hgr hgrest hpv htv hov
  try clear hcv
  go_enter Tryd.func92, Tryd.ntmps92
  go_wp2_with fail
  obtain ⟨W1, hW1⟩ : ∃ W1, W1 = w.alloc (.cells #[.int .i64 400] 3) := ⟨_, rfl⟩
  obtain ⟨xb, hxb⟩ : ∃ xb, xb = w.heap.size := ⟨_, rfl⟩
  have HSV1 := hid (show SvI base P q g mb xb _ _ _ _ s W1 by rw [hxb, hW1]; exact HU.out.leave _)
  have HWK1 := hid (show WkAt xb 400 W1 by rw [hxb, hW1]; exact blk_new _ _)
  have HB1 := hid (show Below w.heap.size w W1 by rw [hW1]; exact (Below.refl _ _).alloc (Nat.le_refl _) _)
  have hs1 : W1.heap.size = xb + 1 := by rw [hW1, hxb]; simp
  have hxw : w.heap.size ≤ xb := by omega
  have hxw9 : xb ≤ w.heap.size := by omega
  have hxg : xb ≠ g := by omega
  rw [← hW1, ← hxb]
  clear hW1 hxb b0 b1 b2 b3 b4 b5 b6 b7 bf
  have hk1 := Keeps.of_below (A := fun _ => True) HB1.out
  replace g03 := hk1.cell trivial g03
  replace c0 := hk1.cell trivial c0
  replace c1 := hk1.cell trivial c1
  replace c2 := hk1.cell trivial c2
  replace c3 := hk1.cell trivial c3
  replace d0 := hk1.cell trivial d0
  replace d1 := hk1.cell trivial d1
  replace d2 := hk1.cell trivial d2
  replace d3 := hk1.cell trivial d3
  clear g00 g01 g02 g04 g05 gf hk1
  go_wp2_with fail
  go_still_tail 15, (by kernel_rfl)
  change wpList _ _ _ _ _ W1.drew
  have HB2 := hid (show Below w.heap.size w W1.drew from HB1.out.drew)
  have HSV2 := hid (HSV1.out.below ((Below.refl _ W1).drew))
  have HWK2 := hid (show WkAt xb 400 W1.drew from HWK1.out)
  have hs2 : W1.drew.heap.size = xb + 1 := hs1
  generalize W1.drew = W2 at *
  have HRA := hid (Tm.rep_lasts.1 _ _ _ _ _ (Tm.rep_lasts.2.1 _ (SA g mb xb tv cv ov) _ _ _ HXR.out fun b hb h => ⟨h.1, by omega⟩) (Keeps.of_below HB2.out))
  have HRB := hid (Tm.rep_lasts.1 _ _ _ _ _ (Tm.rep_lasts.2.1 _ (SA g mb xb tv cv ov) _ _ _ HYR.out fun b hb h => ⟨h.1, by omega⟩) (Keeps.of_below HB2.out))
  have HXI2 := HXI
  have HYI2 := HYI
  clear g03 c0 c1 c2 c3 d0 d1 d2 d3
  go_wp2_with fail
  refine (sunify_ok (by omega) 400 (Nat.le_refl _) tv s x y W2 _ _ HSV2.out HWK2.out HE.out HXI2.out HYI2.out HRA.out HRB.out (by have := HLEN.out; omega)).mono ?_
  rintro e W8 ⟨rfl, ⟨t8, hsv8, hch8, hta8⟩, hwk8⟩
  generalize uniS 400 [(x, y)] s.env = u at *
  obtain ⟨uo, ue, uw⟩ := u
  have HWK8 := hid hwk8
  obtain ⟨w0, wf, wl⟩ := hwk8.cell
  have HSV8 := hid hsv8.take_in
  have HCHw := hid (show Ch (SM g mb tv cv ov) w W8 from (Ch.of_below (M := SM g mb tv cv ov) HB2.out).trans hch8 (fun b hb => hb.elim .inl (fun e => .inr (by omega))))
  have HTA8 := hid (show ∀ b, ownB t8 = some b → ownB tv = some b ∨ w.heap.size ≤ b from fun b hb => (hta8 b hb).imp id (fun e => by omega))
  have HSTEP := hid (fun (s' : Sv) (w' : World) (hh : SStep base P q g mb pv t8 cv ov s' W8 w') =>
    (SStep.trans HCHw.out HTA8.out (fun b h => .inl h) (fun b h => .inl h) hh : SStep base P q g mb pv tv cv ov s' w w'))
  clear hsv8 hch8 hwk8 hta8
  simp only at w0
  by_cases huw : uw < 0
  · have hres := hid (hkf.out.trans (if_pos huw))
    go_wp2_with fail
    refine (send_ok 4 (by unfold I64; omega) HSV8.out HOUT.out).mono ?_
    rintro e W9 ⟨rfl, hst⟩
    have HST := hid (HSTEP.out _ _ hst)
    clear hst
    go_wp2_with fail
    go_ret2
    rw [hres.out]
    exact ⟨rfl, HST.out⟩
  · have hres := hid (hkf.out.trans (if_neg huw))
    have hun : decide (uw < 0) = false := by simpa using huw
    clear huw
    go_wp2_with fail
    go_ret2
    rw [hres.out]
    exact ⟨rfl, HSTEP.out _ _ (SStep.refl HSV8.out)⟩
end
end Go.Proofs.YtlpmfkpefoegeabDoor
