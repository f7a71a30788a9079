/-
  The solver: known.
-/
import Derived.Test.YtlpmfkpefoegeabQSolveBk
import Derived.Test.YtlpmfkpefoegeabQFits
namespace Go.Proofs.Ytlpmfkpefoegeab
set_option linter.unusedVariables false
set_option linter.unusedSimpArgs false
open Go.RowKit

/-- how the answer of known reads -/
def knownV : Option Bool → Value
  | none => .tuple #[.bool false, .bool false]
  | some b => .tuple #[.bool b, .bool true]
def SKnownPost (base : Nat) (P : List Cl) (q g mb : Nat) (pv tv cv ov : Value) (r : Option Bool × Sv) (w : World) (e : Ending) (w' : World) : Prop := e = .returned (knownV r.1) ∧ SStep base P q g mb pv tv cv ov r.2 w w'

/-- what is asked of a call of known -/
def SKnownOK (base : Nat) (P : List Cl) (q g mb : Nat) (pv tv cv ov : Value) (s : Sv) (w : World) (g0 : Gl) (rest : List Gl) (gv : Value) : Prop :=
  SvI base P q g mb g pv tv cv ov s w → EnvOk s.vars s.env → g0.t.In s.vars → g0.t.Known → GlsR (SA g mb g tv cv ov) w (g0 :: rest) gv → s.env.length ≤ 900000 → s.out.length + 1 ≤ 20 →
    Calls Try.prog 63 #[.pointer (some ⟨g, 0, none⟩), gv] w (SKnownPost base P q g mb pv tv cv ov (knownF g0 s) w)

section
variable {base : Nat} {P : List Cl} {q g mb : Nat} {pv tv cv ov : Value} {s : Sv} {w : World} {g0 : Gl} {rest : List Gl} {gv : Value}

set_option maxRecDepth 100000 in
set_option maxHeartbeats 4000000 in
theorem sknown_cut (s1 : g0.t.s.toList = [33]) (hb : g0.bar ≤ s.choices.length) : SKnownOK base P q g mb pv tv cv ov s w g0 rest gv := by
  intro h hE hg0 hkn hgv hlen hout
  have HU := hid h
  have HE := hid hE
  have HG0 := hid hg0
  have HGV := hid hgv
  have HLEN := hid hlen
  have HOUT := hid hout
  have hcs := cell_set
  obtain ⟨gb, ga, gcap, rv, rfl, hgA, hgb, hgr, hgrest⟩ := hgv
  obtain ⟨pa, pc, ta, tc, ca, cc, oa, oc, hpv, htv, hcv, hov, hvl1, hvl2, hvl3, hvl4, hvl5, hvl6, hvl7, hvl8⟩ := h.vals
  have HGB := hid hgb
  have HGR := hid hgr
  have HGA := hid hgA
  obtain ⟨hl1, hl2, hl3⟩ := h.lt
  obtain ⟨b0, b1, b2, b3, b4, b5, b6, b7, bf⟩ := box8 h.box
  obtain ⟨g00, g01, g02, g03, g04, g05, gf⟩ := blk6 hgb
  have hgbl := blk_lt hgb
  have hbar0 : (0 : Int) ≤ (g0.bar : Int) := Int.natCast_nonneg _
  have q1 : (g0.t.s.toList == [33]) = true := by simpa using s1
  have hkf := hid (show knownF g0 s = (some true, { s with choices := s.choices.drop (s.choices.length - g0.bar) }) by rw [knownF, if_pos s1])
  subst hcv
  unfold maxLen at hvl6
  have hcl0 : (0 : Int) ≤ (s.choices.length : Int) := Int.natCast_nonneg _
  have hcl1 : (g0.bar : Int) ≤ (s.choices.length : Int) := by omega
  have hcl2 : min (g0.bar : Int) (s.choices.length : Int) = (g0.bar : Int) := by omega
  have hcl3 : (g0.bar : Int) ≤ (cc : Int) := by omega
  have hcl4 : ¬ s.choices.length < g0.bar := by omega
  clear h hE hg0 hlen hout hgA hgb hgr hgrest hpv htv hov
  try clear hcv
  go_enter Try.func63, Try.ntmps63
  go_wp2_with fail
  go_still_tail 16, (by kernel_rfl)
  change wpList _ _ _ _ _ w.drew
  have HB2 := hid (show Below w.heap.size w w.drew from (Below.refl _ _).drew)
  have HSV2 := hid (HU.out.below HB2.out)
  have hgl2 : g < w.drew.heap.size := HSV2.out.lt.1
  generalize w.drew = W2 at *
  clear b0 b1 b2 b3 b4 b5 b6 b7 bf
  obtain ⟨b0, b1, b2, b3, b4, b5, b6, b7, bf⟩ := box8 HSV2.out.box
  go_wp2_with fail
  go_ret2
  rw [hkf.out]
  have HCUT := HSV2.out.cutChc (k := g0.bar) (by omega)
  have hst := SStep.trans (Ch.of_below HB2.out) (fun b h => .inl h) (fun b h => .inl h) (fun b h => .inl h) HCUT
  refine ⟨rfl, ?_⟩
  exact hst

set_option maxRecDepth 100000 in
set_option maxHeartbeats 4000000 in
theorem sknown_cutN (s1 : g0.t.s.toList = [33]) (hb : ¬ g0.bar ≤ s.choices.length) : SKnownOK base P q g mb pv tv cv ov s w g0 rest gv := by
  intro h hE hg0 hkn hgv hlen hout
  have HU := hid h
  have HE := hid hE
  have HG0 := hid hg0
  have HGV := hid hgv
  have HLEN := hid hlen
  have HOUT := hid hout
  have hcs := cell_set
  obtain ⟨gb, ga, gcap, rv, rfl, hgA, hgb, hgr, hgrest⟩ := hgv
  obtain ⟨pa, pc, ta, tc, ca, cc, oa, oc, hpv, htv, hcv, hov, hvl1, hvl2, hvl3, hvl4, hvl5, hvl6, hvl7, hvl8⟩ := h.vals
  have HGB := hid hgb
  have HGR := hid hgr
  have HGA := hid hgA
  obtain ⟨hl1, hl2, hl3⟩ := h.lt
  obtain ⟨b0, b1, b2, b3, b4, b5, b6, b7, bf⟩ := box8 h.box
  obtain ⟨g00, g01, g02, g03, g04, g05, gf⟩ := blk6 hgb
  have hgbl := blk_lt hgb
  have hbar0 : (0 : Int) ≤ (g0.bar : Int) := Int.natCast_nonneg _
  have q1 : (g0.t.s.toList == [33]) = true := by simpa using s1
  have hkf := hid (show knownF g0 s = (some true, { s with choices := s.choices.drop (s.choices.length - g0.bar) }) by rw [knownF, if_pos s1])
  subst hcv
  unfold maxLen at hvl6
  have hcl0 : (0 : Int) ≤ (s.choices.length : Int) := Int.natCast_nonneg _
  have hcl1 : ¬ (g0.bar : Int) ≤ (s.choices.length : Int) := by omega
  have hcl2 : min (g0.bar : Int) (s.choices.length : Int) = (s.choices.length : Int) := by omega
  have hcl3 : (s.choices.length : Int) ≤ (cc : Int) := by omega
  have hcl4 : s.choices.length < g0.bar := by omega
  clear h hE hg0 hlen hout hgA hgb hgr hgrest hpv htv hov
  try clear hcv
  go_enter Try.func63, Try.ntmps63
  go_wp2_with fail
  go_still_tail 16, (by kernel_rfl)
  change wpList _ _ _ _ _ w.drew
  have HB2 := hid (show Below w.heap.size w w.drew from (Below.refl _ _).drew)
  have HSV2 := hid (HU.out.below HB2.out)
  have hgl2 : g < w.drew.heap.size := HSV2.out.lt.1
  generalize w.drew = W2 at *
  clear b0 b1 b2 b3 b4 b5 b6 b7 bf
  obtain ⟨b0, b1, b2, b3, b4, b5, b6, b7, bf⟩ := box8 HSV2.out.box
  go_wp2_with fail
  go_ret2
  rw [hkf.out]
  have HCUT := HSV2.out.cutChc (k := s.choices.length) (by omega)
  have hst := SStep.trans (Ch.of_below HB2.out) (fun b h => .inl h) (fun b h => .inl h) (fun b h => .inl h) HCUT
  refine ⟨rfl, ?_⟩
  rw [show s.choices.length - g0.bar = s.choices.length - s.choices.length by omega]
  exact hst

set_option maxRecDepth 100000 in
set_option maxHeartbeats 4000000 in
theorem sknown_true (s1 : g0.t.s.toList ≠ [33]) (s2 : g0.t.s.toList = [116, 114, 117, 101]) : SKnownOK base P q g mb pv tv cv ov s w g0 rest gv := by
  intro h hE hg0 hkn hgv hlen hout
  have HU := hid h
  have HE := hid hE
  have HG0 := hid hg0
  have HGV := hid hgv
  have HLEN := hid hlen
  have HOUT := hid hout
  have hcs := cell_set
  obtain ⟨gb, ga, gcap, rv, rfl, hgA, hgb, hgr, hgrest⟩ := hgv
  obtain ⟨pa, pc, ta, tc, ca, cc, oa, oc, hpv, htv, hcv, hov, hvl1, hvl2, hvl3, hvl4, hvl5, hvl6, hvl7, hvl8⟩ := h.vals
  have HGB := hid hgb
  have HGR := hid hgr
  have HGA := hid hgA
  obtain ⟨hl1, hl2, hl3⟩ := h.lt
  obtain ⟨b0, b1, b2, b3, b4, b5, b6, b7, bf⟩ := box8 h.box
  obtain ⟨g00, g01, g02, g03, g04, g05, gf⟩ := blk6 hgb
  have hgbl := blk_lt hgb
  have hbar0 : (0 : Int) ≤ (g0.bar : Int) := Int.natCast_nonneg _
  have q1 : (g0.t.s.toList == [33]) = false := by simpa using s1
  have q2 : (g0.t.s.toList == [116, 114, 117, 101]) = true := by simpa using s2
  have hkf := hid (show knownF g0 s = (some true, s) by rw [knownF, if_neg s1, if_pos s2])
  clear h hE hg0 hlen hout hgA hgb hgr hgrest hpv htv hov
  try clear hcv
  go_enter Try.func63, Try.ntmps63
  go_wp2_with fail
  go_ret2
  rw [hkf.out]
  exact ⟨rfl, SStep.refl HU.out⟩

set_option maxRecDepth 100000 in
set_option maxHeartbeats 4000000 in
theorem sknown_fail (s1 : g0.t.s.toList ≠ [33]) (s2 : g0.t.s.toList ≠ [116, 114, 117, 101]) (s3 : g0.t.s.toList = [102, 97, 105, 108]) : SKnownOK base P q g mb pv tv cv ov s w g0 rest gv := by
  intro h hE hg0 hkn hgv hlen hout
  have HU := hid h
  have HE := hid hE
  have HG0 := hid hg0
  have HGV := hid hgv
  have HLEN := hid hlen
  have HOUT := hid hout
  have hcs := cell_set
  obtain ⟨gb, ga, gcap, rv, rfl, hgA, hgb, hgr, hgrest⟩ := hgv
  obtain ⟨pa, pc, ta, tc, ca, cc, oa, oc, hpv, htv, hcv, hov, hvl1, hvl2, hvl3, hvl4, hvl5, hvl6, hvl7, hvl8⟩ := h.vals
  have HGB := hid hgb
  have HGR := hid hgr
  have HGA := hid hgA
  obtain ⟨hl1, hl2, hl3⟩ := h.lt
  obtain ⟨b0, b1, b2, b3, b4, b5, b6, b7, bf⟩ := box8 h.box
  obtain ⟨g00, g01, g02, g03, g04, g05, gf⟩ := blk6 hgb
  have hgbl := blk_lt hgb
  have hbar0 : (0 : Int) ≤ (g0.bar : Int) := Int.natCast_nonneg _
  have q1 : (g0.t.s.toList == [33]) = false := by simpa using s1
  have q2 : (g0.t.s.toList == [116, 114, 117, 101]) = false := by simpa using s2
  have q3 : (g0.t.s.toList == [102, 97, 105, 108]) = true := by simpa using s3
  have hkf := hid (show knownF g0 s = (some false, s) by rw [knownF, if_neg s1, if_neg s2, if_pos s3])
  clear h hE hg0 hlen hout hgA hgb hgr hgrest hpv htv hov
  try clear hcv
  go_enter Try.func63, Try.ntmps63
  go_wp2_with fail
  go_ret2
  rw [hkf.out]
  exact ⟨rfl, SStep.refl HU.out⟩

set_option maxRecDepth 100000 in
set_option maxHeartbeats 4000000 in
theorem sknown_eq (s1 : g0.t.s.toList ≠ [33]) (s2 : g0.t.s.toList ≠ [116, 114, 117, 101]) (s3 : g0.t.s.toList ≠ [102, 97, 105, 108]) (s4 : g0.t.s.toList = [101, 113]) : SKnownOK base P q g mb pv tv cv ov s w g0 rest gv := by
  intro h hE hg0 hkn hgv hlen hout
  have HU := hid h
  have HE := hid hE
  have HG0 := hid hg0
  have HGV := hid hgv
  have HLEN := hid hlen
  have HOUT := hid hout
  have hcs := cell_set
  obtain ⟨gb, ga, gcap, rv, rfl, hgA, hgb, hgr, hgrest⟩ := hgv
  obtain ⟨pa, pc, ta, tc, ca, cc, oa, oc, hpv, htv, hcv, hov, hvl1, hvl2, hvl3, hvl4, hvl5, hvl6, hvl7, hvl8⟩ := h.vals
  have HGB := hid hgb
  have HGR := hid hgr
  have HGA := hid hgA
  obtain ⟨hl1, hl2, hl3⟩ := h.lt
  obtain ⟨b0, b1, b2, b3, b4, b5, b6, b7, bf⟩ := box8 h.box
  obtain ⟨g00, g01, g02, g03, g04, g05, gf⟩ := blk6 hgb
  have hgbl := blk_lt hgb
  have hbar0 : (0 : Int) ≤ (g0.bar : Int) := Int.natCast_nonneg _
  have q1 : (g0.t.s.toList == [33]) = false := by simpa using s1
  have q2 : (g0.t.s.toList == [116, 114, 117, 101]) = false := by simpa using s2
  have q3 : (g0.t.s.toList == [102, 97, 105, 108]) = false := by simpa using s3
  have q4 : (g0.t.s.toList == [101, 113]) = true := by simpa using s4
  have hk2 : g0.t.args.length = 2 := by
    rcases hkn with ⟨_, h1 | h1 | h1⟩ | ⟨h0, _⟩ | ⟨_, h1⟩
    · exact absurd h1 s1
    · exact absurd h1 s2
    · exact absurd h1 s3
    · exact h0
    · rw [s4] at h1; simp at h1
  obtain ⟨_, _, ab, aoff, e9, hac1, hac2, -, hea, hee⟩ := SlR.at (show SlR 4 Tm.rep (SA g mb g tv cv ov) w g0.t.args (.slice ga g0.t.args.length gcap) by
    obtain ⟨_, _, e, -, -, -, -, -, -, h8⟩ := Tm.rep4 hgr
    simp only [List.cons.injEq, true_and, and_true] at e
    rw [e]; exact h8)
  simp only [Value.slice.injEq, true_and] at e9
  obtain ⟨rfl, rfl⟩ := e9
  obtain ⟨rfl, hAb⟩ := hea (by omega)
  obtain ⟨xa, xc, c0, c1, c2, c3, hxr⟩ := tm_cells hee hAb (Keeps.refl _ _) (k := 0) (by omega)
  obtain ⟨ya, yc, d0, d1, d2, d3, hyr⟩ := tm_cells hee hAb (Keeps.refl _ _) (k := 1) (by omega)
  have HXI := hid (hg0.arg (List.getElem_mem (l := g0.t.args) (n := 0) (by omega)))
  have HYI := hid (hg0.arg (List.getElem_mem (l := g0.t.args) (n := 1) (by omega)))
  have e0 : (g0.t.args[0]?).getD default = g0.t.args[0] := by rw [List.getElem?_eq_getElem (by omega)]; rfl
  have e1 : (g0.t.args[1]?).getD default = g0.t.args[1] := by rw [List.getElem?_eq_getElem (by omega)]; rfl
  obtain ⟨x, hx⟩ : ∃ x, x = g0.t.args[0] := ⟨_, rfl⟩
  obtain ⟨y, hy⟩ : ∃ y, y = g0.t.args[1] := ⟨_, rfl⟩
  rw [← hx] at c0 c1 c2 c3 hxr HXI e0
  rw [← hy] at d0 d1 d2 d3 hyr HYI e1
  simp only [Nat.zero_mul, Nat.add_zero, Nat.one_mul] at c0 c1 c2 c3 d0 d1 d2 d3
  have HXR := hid hxr
  have HYR := hid hyr
  have habl : ab < w.heap.size := World.block_lt_of_cell? w _ c0
  rw [hk2] at g03 hac1
  have hkf := hid (show knownF g0 s = (if (uniS 400 [(x, y)] s.env).work < 0 then (none, { s with env := (uniS 400 [(x, y)] s.env).env }.put 4) else (some (uniS 400 [(x, y)] s.env).ok, { s with env := (uniS 400 [(x, y)] s.env).env })) by
    rw [knownF, if_neg s1, if_neg s2, if_neg s3, if_pos s4, e0, e1])
  clear hxr hyr hea hee hx hy e0 e1 hk2
  clear h hE hg0 hlen hout hgA hgb hgr hgrest hpv htv hov
  try clear hcv
  go_enter Try.func63, Try.ntmps63
  go_wp2_with fail
  obtain ⟨W1, hW1⟩ : ∃ W1, W1 = w.alloc (.cells #[.int .i64 400] 3) := ⟨_, rfl⟩
  obtain ⟨xb, hxb⟩ : ∃ xb, xb = w.heap.size := ⟨_, rfl⟩
  have HSV1 := hid (show SvI base P q g mb xb _ _ _ _ s W1 by rw [hxb, hW1]; exact HU.out.leave _)
  have HWK1 := hid (show WkAt xb 400 W1 by rw [hxb, hW1]; exact blk_new _ _)
  have HB1 := hid (show Below w.heap.size w W1 by rw [hW1]; exact (Below.refl _ _).alloc (Nat.le_refl _) _)
  have hs1 : W1.heap.size = xb + 1 := by rw [hW1, hxb]; simp
  have hxw : w.heap.size ≤ xb := by omega
  have hxw9 : xb ≤ w.heap.size := by omega
  have hxg : xb ≠ g := by omega
  rw [← hW1, ← hxb]
  clear hW1 hxb b0 b1 b2 b3 b4 b5 b6 b7 bf
  have hk1 := Keeps.of_below (A := fun _ => True) HB1.out
  replace g03 := hk1.cell trivial g03
  replace c0 := hk1.cell trivial c0
  replace c1 := hk1.cell trivial c1
  replace c2 := hk1.cell trivial c2
  replace c3 := hk1.cell trivial c3
  replace d0 := hk1.cell trivial d0
  replace d1 := hk1.cell trivial d1
  replace d2 := hk1.cell trivial d2
  replace d3 := hk1.cell trivial d3
  clear g00 g01 g02 g04 g05 gf hk1
  go_wp2_with fail
  go_still_tail 15, (by kernel_rfl)
  change wpList _ _ _ _ _ W1.drew
  have HB2 := hid (show Below w.heap.size w W1.drew from HB1.out.drew)
  have HSV2 := hid (HSV1.out.below ((Below.refl _ W1).drew))
  have HWK2 := hid (show WkAt xb 400 W1.drew from HWK1.out)
  have hs2 : W1.drew.heap.size = xb + 1 := hs1
  generalize W1.drew = W2 at *
  have HRA := hid (Tm.rep_lasts.1 _ _ _ _ _ (Tm.rep_lasts.2.1 _ (SA g mb xb tv cv ov) _ _ _ HXR.out fun b hb h => ⟨h.1, by omega⟩) (Keeps.of_below HB2.out))
  have HRB := hid (Tm.rep_lasts.1 _ _ _ _ _ (Tm.rep_lasts.2.1 _ (SA g mb xb tv cv ov) _ _ _ HYR.out fun b hb h => ⟨h.1, by omega⟩) (Keeps.of_below HB2.out))
  have HXI2 := HXI
  have HYI2 := HYI
  clear g03 c0 c1 c2 c3 d0 d1 d2 d3
  go_wp2_with fail
  refine (sunify_ok (by omega) 400 (Nat.le_refl _) tv s x y W2 _ _ HSV2.out HWK2.out HE.out HXI2.out HYI2.out HRA.out HRB.out (by have := HLEN.out; omega)).mono ?_
  rintro e W8 ⟨rfl, ⟨t8, hsv8, hch8, hta8⟩, hwk8⟩
  generalize uniS 400 [(x, y)] s.env = u at *
  obtain ⟨uo, ue, uw⟩ := u
  have HWK8 := hid hwk8
  obtain ⟨w0, wf, wl⟩ := hwk8.cell
  have HSV8 := hid hsv8.take_in
  have HCHw := hid (show Ch (SM g mb tv cv ov) w W8 from (Ch.of_below (M := SM g mb tv cv ov) HB2.out).trans hch8 (fun b hb => hb.elim .inl (fun e => .inr (by omega))))
  have HTA8 := hid (show ∀ b, ownB t8 = some b → ownB tv = some b ∨ w.heap.size ≤ b from fun b hb => (hta8 b hb).imp id (fun e => by omega))
  have HSTEP := hid (fun (s' : Sv) (w' : World) (hh : SStep base P q g mb pv t8 cv ov s' W8 w') =>
    (SStep.trans HCHw.out HTA8.out (fun b h => .inl h) (fun b h => .inl h) hh : SStep base P q g mb pv tv cv ov s' w w'))
  clear hsv8 hch8 hwk8 hta8
  simp only at w0
  by_cases huw : uw < 0
  · have hres := hid (hkf.out.trans (if_pos huw))
    go_wp2_with fail
    refine (send_ok 4 (by unfold I64; omega) HSV8.out HOUT.out).mono ?_
    rintro e W9 ⟨rfl, hst⟩
    have HST := hid (HSTEP.out _ _ hst)
    clear hst
    go_wp2_with fail
    go_ret2
    rw [hres.out]
    exact ⟨rfl, HST.out⟩
  · have hres := hid (hkf.out.trans (if_neg huw))
    have hun : decide (uw < 0) = false := by simpa using huw
    clear huw
    go_wp2_with fail
    go_ret2
    rw [hres.out]
    exact ⟨rfl, HSTEP.out _ _ (SStep.refl HSV8.out)⟩
end
end Go.Proofs.Ytlpmfkpefoegeab
