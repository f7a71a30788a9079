/-
  The solver: step.
-/
import Derived.Test.YtlpmfkpefoegeabDoorQSolveO
import Derived.Test.YtlpmfkpefoegeabDoorQSolveBk
namespace Go.Proofs.YtlpmfkpefoegeabDoor
set_option linter.unusedVariables false
set_option linter.unusedSimpArgs false
open Go.RowKit
section
variable {base : Nat} {P : List Cl} {q g mb : Nat} {pv tv cv ov : Value} {s : Sv} {w : World} {g0 : Gl} {rest : List Gl} {gv : Value}
theorem sknown_ok : SKnownOK base P q g mb pv tv cv ov s w g0 rest gv := by
  by_cases s1 : g0.t.s.toList = [33]
  · by_cases hb : g0.bar ≤ s.choices.length
    · exact sknown_cut s1 hb
    · exact sknown_cutN s1 hb
  by_cases s2 : g0.t.s.toList = [116, 114, 117, 101]
  · exact sknown_true s1 s2
  by_cases s3 : g0.t.s.toList = [102, 97, 105, 108]
  · exact sknown_fail s1 s2 s3
  by_cases s4 : g0.t.s.toList = [101, 113]
  · exact sknown_eq s1 s2 s3 s4
  by_cases s5 : g0.t.s.toList = [108, 101, 115, 115]
  · exact sknown_less s1 s2 s3 s4 s5
  · exact sknown_add s1 s2 s3 s4 s5
theorem stepF_zero (h : s.fuel = 0) : stepF P g0 rest s = (.off, s.put 3) := by unfold stepF; rw [if_pos h]
theorem stepF_known (h : s.fuel ≠ 0) (hk : g0.t.Known) : stepF P g0 rest s = (match knownF g0 { s with fuel := s.fuel - 1 } with
      | (none, s') => (.off, s')
      | (some true, s') => (.next rest, s')
      | (some false, s') => backF P s'.choices s') := by unfold stepF; rw [if_neg h]; simp only; rw [if_pos hk]; rfl
theorem stepF_none (h : s.fuel ≠ 0) (hk : ¬ g0.t.Known) (hn : ∀ c ∈ P, ¬ likeF c.head g0.t) : stepF P g0 rest s = (.off, ({ s with fuel := s.fuel - 1 } : Sv).put 5) := by unfold stepF; rw [if_neg h]; simp only; rw [if_neg hk, if_pos hn]
theorem stepF_call (h : s.fuel ≠ 0) (hk : ¬ g0.t.Known) (hn : ¬ ∀ c ∈ P, ¬ likeF c.head g0.t) : stepF P g0 rest s = (match callF P g0 rest P.length 0 { s with fuel := s.fuel - 1 } with
      | (.no, s') => backF P s'.choices s'
      | r => r) := by unfold stepF; rw [if_neg h]; simp only; rw [if_neg hk, if_neg hn]; rfl
theorem SvOk.less (h : SvOk P s) (hf : s.fuel ≠ 0) : SvOk P { s with fuel := s.fuel - 1 } ∧ s.env.length + 400 + 400 * pot (s.fuel - 1) s.choices ≤ 1500000 := by
  have hp := pot_fuel s.fuel s.choices hf
  obtain ⟨h1, h2, h3, h4, h5, h6, h7, h8⟩ := h
  rw [hp] at h6 h7
  exact ⟨⟨h1, h2, h3, h4, h5, by simp only; omega, by simp only; omega, by simp only; omega⟩, by omega⟩
theorem sstep_zero (hf : s.fuel = 0) (h : SvI base P q g mb g pv tv cv ov s w) (hgv : GlsR (SA g mb g tv cv ov) w (g0 :: rest) gv) (hout : s.out.length + 1 ≤ 20) :
    Calls Tryd.prog 61 #[.pointer (some ⟨g, 0, none⟩), gv] w (SBackPost base P q g mb pv tv cv ov (stepF P g0 rest s) w) := by
  have HU := hid h
  have HOUT := hid hout
  obtain ⟨gb, ga, gcap, rv, rfl, hgA, hgb, hgr, hgrest⟩ := hgv
  obtain ⟨hl1, hl2, hl3⟩ := h.lt
  obtain ⟨b0, b1, b2, b3, b4, b5, b6, b7, bf⟩ := box8 h.box
  rw [hf] at b5
  rw [stepF_zero hf]
  clear h hout hgA hgb hgr hgrest
  go_enter Tryd.func61, Tryd.ntmps61
  go_wp2_with fail
  refine (send_ok 3 (by unfold I64; omega) HU.out HOUT.out).mono ?_
  rintro e W9 ⟨rfl, hst⟩
  have HST := hid hst
  clear hst
  go_wp2_with fail
  go_ret2
  obtain ⟨t', c', o', z1, z2, z3, z4, z5⟩ := HST.out
  exact ⟨_, rfl, t', c', o', z1, z2, z3, z4, z5, _, rfl⟩
set_option maxRecDepth 100000 in
set_option maxHeartbeats 8000000 in
theorem sstep_ok (h : SvI base P q g mb g pv tv cv ov s w) (hok : SvOk P s) (hgls : GlsOk s.vars (g0 :: rest)) (hgv : GlsR (SA g mb g tv cv ov) w (g0 :: rest) gv) (hout : s.out.length + 1 ≤ 20) :
    Calls Tryd.prog 61 #[.pointer (some ⟨g, 0, none⟩), gv] w (SBackPost base P q g mb pv tv cv ov (stepF P g0 rest s) w) := by
  by_cases hf : s.fuel = 0
  · exact sstep_zero hf h hgv hout
  have HU := hid h
  have HF := hid hf
  have HOK := hid (hok.less hf)
  have HGLS := hid hgls
  have HGV := hid hgv
  have HOUT := hid hout
  have hcs := cell_set
  obtain ⟨gb, ga, gcap, rv, rfl, hgA, hgb, hgr, hgrest⟩ := hgv
  obtain ⟨hl1, hl2, hl3⟩ := h.lt
  obtain ⟨pa, pc, pb, poff, hpv, hpl1, hpl2, hpl3, hpA, hpE⟩ := SlR.at h.prog
  have HPV := hid hpv
  have HPA := hid hpA
  have HPE := hid hpE
  unfold maxLen at hpl2
  obtain ⟨b0, b1, b2, b3, b4, b5, b6, b7, bf⟩ := box8 h.box
  obtain ⟨g00, g01, g02, g03, g04, g05, gf⟩ := blk6 hgb
  have hgbl := blk_lt hgb
  have hgg : gb ≠ g := fun e => hgA.2 e
  have hgg' : g ≠ gb := fun e => hgA.2 e.symm
  obtain ⟨f', hf'⟩ : ∃ f' : Nat, s.fuel = f' + 1 := ⟨s.fuel - 1, by omega⟩
  have hf150 := h.fu
  have hfb : (f' : Int) ≤ 150 := by omega
  have hf0 : (0 : Int) ≤ (f' : Int) := Int.natCast_nonneg _
  have hfe : s.fuel - 1 = f' := by omega
  rw [hf', show ((f' + 1 : Nat) : Int) = (f' : Int) + 1 by omega] at b5
  have hfz : ((f' : Int) + 1 == 0) = false := by simp; omega
  have HSF := hid (h.setFuel (v := f') (by omega))
  rw [hfe] at HOK
  have HFE := hid hfe
  have HGB := hid hgb
  have HGR := hid hgr
  clear h hok hgls hout hgA hgb hgr hgrest hpA hpE hf hf' hpv hfe
  go_enter Tryd.func61, Tryd.ntmps61
  go_wp2_with fail
  obtain ⟨W1, hW1⟩ : ∃ W1, W1 = w.setCell ⟨g, 5, none⟩ (.int .i64 (f' : Int)) := ⟨_, rfl⟩
  have HGB1 := hid ((show W1.heap[gb]? = w.heap[gb]? by rw [hW1]; exact Below.heap_setCell _ _ _ _ hgg).trans HGB.out)
  rw [← hW1] at HSF ⊢
  clear hW1 b0 b1 b2 b3 b4 b5 b6 b7 bf g00 g01 g02 g03 g04 g05 gf
  obtain ⟨t1, c1, o1, hsv1, hch1, hta1, hca1, hoa1⟩ := HSF.out
  have HSV1 := hid hsv1
  have HG1 := hid (HGV.out.move hch1 hta1 hca1 hoa1)
  have HSTEP := hid (fun (s' : Sv) (w' : World) (Z : Value → Value → Value → Prop) (hh : SStepZ base P q g mb pv t1 c1 o1 s' Z W1 w') => (SStepZ.trans hch1 hta1 hca1 hoa1 hh : SStepZ base P q g mb pv tv cv ov s' Z w w'))
  have hz1 := hch1.size
  have hmid := sa_midg hch1 hta1 hca1 hoa1
  have HGR1 := hid (Tm.rep_lasts.2.1 _ (SA g mb g t1 c1 o1) _ _ _ (Tm.rep_lasts.1 _ _ _ _ _ (Tm.rep_lasts.2.1 _ (fun b => SA g mb g tv cv ov b ∧ b < w.heap.size) _ _ _ HGR.out fun b hb h => ⟨h, hb⟩) hmid.1) (fun b _ h => hmid.2 b h))
  clear hsv1 hch1 hta1 hca1 hoa1 HSF hmid
  obtain ⟨b0, b1, b2, b3, b4, b5, b6, b7, bf⟩ := box8 HSV1.out.box
  obtain ⟨g00, g01, g02, g03, g04, g05, gf⟩ := blk6 HGB1.out
  have hgl1 := HSV1.out.lt.1
  have hgbl1 := blk_lt HGB1.out
  have HKN := hid (known_ok g0.t _ W1 [_, _, _, _] HGR1.out)
  refine (HKN.out).mono ?_
  rintro e W2 ⟨v, rfl, hb2, kb, rfl, hkb⟩
  have HB2 := hid hb2
  have HSV2 := hid (HSV1.out.below hb2)
  have HG2 := hid (HG1.out.keeps (Keeps.of_below hb2))
  have HGB2 := hid (blk_below HGB1.out hb2)
  have HKB := hid hkb
  have hz2 := hb2.size
  clear hb2 hkb b0 b1 b2 b3 b4 b5 b6 b7 bf g00 g01 g02 g03 g04 g05 gf HKN
  have HSTEP2 := hid (fun (s' : Sv) (w' : World) (Z : Value → Value → Value → Prop) (hh : SStepZ base P q g mb pv t1 c1 o1 s' Z W2 w') => HSTEP.out s' w' Z (SStepZ.trans (Ch.of_below HB2.out) (fun b h => .inl h) (fun b h => .inl h) (fun b h => .inl h) hh))
  obtain ⟨b0, b1, b2, b3, b4, b5, b6, b7, bf⟩ := box8 HSV2.out.box
  obtain ⟨g00, g01, g02, g03, g04, g05, gf⟩ := blk6 HGB2.out
  have HLEN := hid (show s.env.length ≤ 900000 by have h8 := HOK.out.1.env.len; have := HOK.out.1.potV; simp only at this h8 ⊢; omega)
  cases kb with
  | true =>
    have hk := HKB.out.1 rfl
    have HSN := hid (show stepF P g0 rest s = _ from stepF_known HF.out hk)
    rw [HFE.out] at HSN
    have HKO := hid (fun r s' => knownF_ok (g := g0) (s := { s with fuel := f' }) (s' := s') (r := r) HOK.out.1 (HGLS.out g0 (by simp)).1 hk (by simpa using HOK.out.2))
    have HCALL := hid ((sknown_ok (base := base) (P := P) (q := q) (g := g) (mb := mb) (s := { s with fuel := f' }) (w := W2) (g0 := g0) (rest := rest)) HSV2.out HOK.out.1.env (HGLS.out g0 (by simp)).1 hk HG2.out (by simpa using HLEN.out) (by simpa using HOUT.out))
    go_wp2_with fail
    refine (HCALL.out).mono ?_
    rintro e W3 ⟨rfl, hst3⟩
    generalize knownF g0 { s with fuel := f' } = kr at *
    obtain ⟨r, s3⟩ := kr
    obtain ⟨t3, c3, o3, hsv3, hch3, hta3, hca3, hoa3⟩ := hst3
    have HSV3 := hid (show SvI base P q g mb g pv t3 c3 o3 s3 W3 from hsv3)
    have HG3 := hid (HG2.out.move hch3 hta3 hca3 hoa3)
    have HSTEP3 := hid (fun (s' : Sv) (w' : World) (Z : Value → Value → Value → Prop) (hh : SStepZ base P q g mb pv t3 c3 o3 s' Z W3 w') => HSTEP2.out s' w' Z (SStepZ.trans hch3 hta3 hca3 hoa3 hh))
    obtain ⟨gb', ga3, gcap3, rv3, e, hgA, hgb, hgr, hgrest⟩ := HG3.out
    simp only [Value.pointer.injEq, Option.some.injEq, Addr.mk.injEq, and_true] at e
    subst e
    have HGREST3 := hid hgrest
    clear hsv3 hch3 hta3 hca3 hoa3 HCALL b0 b1 b2 b3 b4 b5 b6 b7 bf g00 g01 g02 g03 g04 g05 gf
    obtain ⟨g00, g01, g02, g03, g04, g05, gf⟩ := blk6 hgb
    have hgbl3 := blk_lt hgb
    clear hgA hgb hgr hgrest
    match r with
    | none =>
      simp only [knownV]
      go_wp2_with fail
      go_ret2
      rw [HSN.out]
      obtain ⟨t', c', o', z1, z2, z3, z4, z5, -⟩ := HSTEP3.out s3 W3 (fun _ _ _ => True) ⟨t3, c3, o3, HSV3.out, Ch.refl _ _, fun b h => .inl h, fun b h => .inl h, fun b h => .inl h, trivial⟩
      exact ⟨_, rfl, t', c', o', z1, z2, z3, z4, z5, _, rfl⟩
    | some true =>
      simp only [knownV]
      obtain ⟨rp, hrp⟩ := HGREST3.out.ptr
      subst hrp
      go_wp2_with fail
      go_ret2
      rw [HSN.out]
      obtain ⟨t', c', o', z1, z2, z3, z4, z5, z6⟩ := HSTEP3.out s3 W3 (fun t c o => GlsR (SA g mb g t c o) W3 rest (.pointer rp)) ⟨t3, c3, o3, HSV3.out, Ch.refl _ _, fun b h => .inl h, fun b h => .inl h, fun b h => .inl h, HGREST3.out⟩
      exact ⟨_, rfl, t', c', o', z1, z2, z3, z4, z5, _, rfl, z6⟩
    | some false =>
      simp only [knownV]
      obtain ⟨a1, a2, a3, a4⟩ := HKO.out (some false) s3 rfl (by simp)
      have HBACK := hid (sback_ok HSV3.out a1 (by rw [a3]; simpa using HOUT.out))
      clear a1 a2 a3 a4
      go_wp2_with fail
      refine (HBACK.out).mono ?_
      rintro e W4 ⟨v4, rfl, t4, c4, o4, hsv4, hch4, hta4, hca4, hoa4, hres4⟩
      have hb : stepF P g0 rest s = backF P s3.choices s3 := HSN.out
      have HBB := hid hb
      have hst4 := HSTEP3.out _ W4 (fun t c o => ResR2 (SA g mb g t c o) W4 (backF P s3.choices s3).1 v4) ⟨t4, c4, o4, hsv4, hch4, hta4, hca4, hoa4, hres4⟩
      have HST4 := hid hst4
      have hv4 : ∃ x b, v4 = .tuple #[x, .bool b] := by
        unfold ResR2 at hres4
        split at hres4
        · obtain ⟨x, e, -⟩ := hres4; exact ⟨x, _, e⟩
        · obtain ⟨x, e⟩ := hres4; exact ⟨x, _, e⟩
      obtain ⟨xv, xb, rfl⟩ := hv4
      clear hsv4 hch4 hta4 hca4 hoa4 hres4 hst4 hb
      go_wp2_with fail
      go_ret2
      rw [HBB.out]
      obtain ⟨t', c', o', z1, z2, z3, z4, z5, z6⟩ := HST4.out
      exact ⟨_, rfl, t', c', o', z1, z2, z3, z4, z5, z6⟩
  | false =>
    have hk : ¬ g0.t.Known := fun h => by have := HKB.out.2 h; cases this
    have HNK := hid hk
    have hpl : (0 : Int) ≤ (P.length : Int) := Int.natCast_nonneg _
    clear hk
    have hpv := HPV.out
    rw [hpv] at b0
    have HPV2 := hid hpv
    clear hpv
    go_wp2_with fail
    go_loopw [55, 8] (fun i b wr => ∃ (k : Nat) (bb : Bool), k ≤ P.length ∧ i = .int .i64 (k : Int) ∧ b = .bool bb ∧ Below W2.heap.size W2 wr ∧ (bb = true ↔ ∃ c ∈ P.take k, likeF c.head g0.t)) (fun i _ _ => P.length - (intOf i).toNat)
    case atStart => exact ⟨0, false, Nat.zero_le _, rfl, rfl, Below.refl _ _, by simp⟩
    case round =>
      obtain ⟨k, bb, hk, rfl, rfl, hb, hbb⟩ := hrel
      have HB := hid hb
      have HBB := hid hbb
      have hzr := hb.size
      have HSV := hid (HSV2.out.below hb)
      have HG := hid (HG2.out.keeps (Keeps.of_below hb))
      have HGB := hid (blk_below HGB2.out hb)
      have hk0 : (0 : Int) ≤ (k : Int) := Int.natCast_nonneg _
      clear hb hbb b0 b1 b2 b3 b4 b5 b6 b7 bf g00 g01 g02 g03 g04 g05 gf
      obtain ⟨g00, g01, g02, g03, g04, g05, gf⟩ := blk6 HGB.out
      have hgbw := blk_lt HGB.out
      by_cases hlt : k < P.length
      · obtain ⟨rfl, hpb⟩ := HPA.out (by omega)
        have hk1 : (k : Int) < (P.length : Int) := by omega
        have HKP := hid (show Keeps (fun b => b < base) w wr from by
          obtain ⟨_, _, _, -, z, -⟩ := HSTEP2.out { s with fuel := f' } wr (fun _ _ _ => True) ⟨t1, c1, o1, HSV.out, Ch.of_below HB.out, fun b h => .inl h, fun b h => .inl h, fun b h => .inl h, trivial⟩
          exact z.keeps fun b _ hb e => by have := (HU.out.sm_lt b e).1; omega)
        obtain ⟨ha, hca, ba, bca, p0, p1, p2, p3, p4, p5, hr⟩ := cl_cells HPE.out hpb HKP.out hlt
        have hpbl : pb < wr.heap.size := World.block_lt_of_cell? wr _ p0
        have HMR := hid (show Tm.rep (fun b => b < base) wr (P[k]).head [.int .i64 (P[k]).head.kind, .int .i64 (P[k]).head.n, .string (P[k]).head.s, .slice ha (P[k]).head.args.length hca] by
          obtain ⟨_, _, _, _, e, h1, -⟩ := hr
          simp only [List.cons.injEq, Value.slice.injEq, and_true, true_and] at e
          obtain ⟨⟨rfl, rfl⟩, -⟩ := e
          exact h1)
        clear hr
        go_wp2_with fail
        obtain ⟨W4, hW4⟩ : ∃ W4, W4 = wr.alloc (.cells #[.int .i64 (P[k]).head.kind, .int .i64 (P[k]).head.n, .string (P[k]).head.s, .slice ha (P[k]).head.args.length hca, .slice ba (P[k]).body.length bca, .int .i64 (P[k]).vars] 39) := ⟨_, rfl⟩
        have HB4 := hid (show Below wr.heap.size wr W4 by rw [hW4]; exact (Below.refl _ _).alloc (Nat.le_refl _) _)
        have HX4 := hid (show W4.heap[wr.heap.size]? = some (.cells #[.int .i64 (P[k]).head.kind, .int .i64 (P[k]).head.n, .string (P[k]).head.s, .slice ha (P[k]).head.args.length hca, .slice ba (P[k]).body.length bca, .int .i64 (P[k]).vars] 39 (0, 0)) by rw [hW4]; exact blk_new _ _)
        have HGB4 := hid (blk_below HGB.out HB4.out)
        have hs4 : W4.heap.size = wr.heap.size + 1 := by rw [hW4]; simp
        rw [← hW4]
        clear hW4 g00 g01 g02 g03 g04 g05 gf p0 p1 p2 p3 p4 p5
        have hz4 : wr.heap.size < W4.heap.size := by omega
        obtain ⟨g00, g01, g02, g03, g04, g05, gf⟩ := blk6 HGB4.out
        obtain ⟨q0, q1, q2, q3, q4, q5, qf⟩ := blk6 HX4.out
        have hgb4 := blk_lt HGB4.out
        have hnext : ∀ b' : Bool, (b' = true ↔ (bb = true ∨ likeF (P[k]).head g0.t)) → (b' = true ↔ ∃ c ∈ P.take (k + 1), likeF c.head g0.t) := fun b' hb' => by
          rw [hb', HBB.out, List.take_succ_eq_append_getElem hlt]
          simp only [List.mem_append, List.mem_singleton]
          constructor
          · rintro (⟨c, h1, h2⟩ | h)
            · exact ⟨c, .inl h1, h2⟩
            · exact ⟨_, .inr rfl, h⟩
          · rintro ⟨c, h1 | rfl, h2⟩
            · exact .inl ⟨c, h1, h2⟩
            · exact .inr h2
        have HNEXT := hid hnext
        clear hnext
        cases bb with
        | true =>
          go_quiet (fail)
          have HBQ := hid (show Below W4.heap.size W4 (W4.drewN nq) from ⟨rfl, rfl, rfl, Nat.le_refl _, fun _ _ => rfl⟩)
          generalize W4.drewN nq = W5 at *
          go_wp2_with fail
          go_roundw
          case rel => exact ⟨k + 1, true, by omega, by go_num, rfl, HB.out.trans ((HB4.out.trans (HBQ.out.mono (by omega))).mono hzr), HNEXT.out true (by simp)⟩
          case measure => simp [intOf]; omega
        | false =>
          go_still_tail 8, (by kernel_rfl)
          change wpList _ _ _ _ _ W4.drew
          have HLIKE := hid (slike_ok (P[k]).head g0.t _ _ W4.drew [_, _, _, _] [_, _, _, _] (Tm.rep_lasts.1 _ _ _ _ _ HMR.out ((Keeps.of_below HB4.out).trans (Keeps.drew _ _))) (Tm.rep_lasts.1 _ _ _ _ _ HGR1.out ((Keeps.of_below HB2.out).trans ((Keeps.of_below HB.out).trans ((Keeps.of_below HB4.out).trans (Keeps.drew _ _))))))
          have HBD1 := hid (show Below W4.heap.size W4 W4.drew from (Below.refl _ _).drew)
          have hzd : W4.heap.size ≤ W4.drew.heap.size := Nat.le_refl _
          generalize W4.drew = W5 at *
          clear g00 g01 g02 g03 g04 g05 gf q0 q1 q2 q3 q4 q5 qf
          go_wp2_with fail
          refine (HLIKE.out).mono ?_
          rintro e W6 ⟨lk, rfl, hb6, hlk⟩
          have HB6 := hid (show Below W2.heap.size W2 W6 from HB.out.trans ((HB4.out.trans ((HBD1.out.trans (hb6.mono hzd)).mono (by omega))).mono hzr))
          have HLK := hid hlk
          clear hb6 hlk HLIKE HBD1
          go_wp2_with fail
          go_roundw
          case rel => exact ⟨k + 1, lk, by omega, by go_num, rfl, HB6.out, HNEXT.out lk (by rw [HLK.out]; simp)⟩
          case measure => simp [intOf]; omega
      · have hke : k = P.length := by omega
        have hbb := HBB.out
        rw [hke, List.take_length] at hbb
        have HBP := hid hbb
        clear hbb hke
        have HSTEP4 := hid (fun (s' : Sv) (w' : World) (Z : Value → Value → Value → Prop) (hh : SStepZ base P q g mb pv t1 c1 o1 s' Z wr w') => HSTEP2.out s' w' Z (SStepZ.trans (Ch.of_below HB.out) (fun b h => .inl h) (fun b h => .inl h) (fun b h => .inl h) hh))
        cases bb with
        | false =>
          have hno : ∀ c ∈ P, ¬ likeF c.head g0.t := fun c hc hl => by have := HBP.out.2 ⟨c, hc, hl⟩; cases this
          have hres := hid (show stepF P g0 rest s = _ from stepF_none HF.out HNK.out hno)
          rw [HFE.out] at hres
          clear hno
          go_wp2_with fail
          refine (send_ok 5 (by unfold I64; omega) HSV.out (by simpa using HOUT.out)).mono ?_
          rintro e W9 ⟨rfl, t9, c9, o9, hsv9, hch9, hta9, hca9, hoa9⟩
          have HST := hid (HSTEP4.out _ W9 (fun _ _ _ => True) ⟨t9, c9, o9, hsv9, hch9, hta9, hca9, hoa9, trivial⟩)
          clear hsv9 hch9 hta9 hca9 hoa9
          go_wp2_with fail
          go_ret2
          rw [hres.out]
          obtain ⟨t', c', o', z1, z2, z3, z4, z5, -⟩ := HST.out
          exact ⟨_, rfl, t', c', o', z1, z2, z3, z4, z5, _, rfl⟩
        | true =>
          have hyes : ¬ ∀ c ∈ P, ¬ likeF c.head g0.t := fun h => by
            obtain ⟨c, hc, hl⟩ := HBP.out.1 rfl
            exact h c hc hl
          have HRES := hid (show stepF P g0 rest s = _ from stepF_call HF.out HNK.out hyes)
          rw [HFE.out] at HRES
          clear hyes
          have HCALL := hid (scall_ok (s := { s with fuel := f' }) g0 rest (.pointer (some ⟨gb, 0, none⟩)) 0 HSV.out HOK.out.1.prog HOK.out.1.env (by have := HOK.out.1.potV; simp only at this ⊢; omega) HGLS.out HG.out (Nat.zero_le _) (by have := HOK.out.1.few; simp only at this ⊢; omega) (by simpa using HLEN.out) (by simpa using HOUT.out))
          rw [Nat.sub_zero] at HCALL
          go_wp2_with fail
          refine (HCALL.out).mono ?_
          rintro e W5 ⟨v5, rfl, t5, c5, o5, hsv5, hch5, hta5, hca5, hoa5, hres5⟩
          have hno := fun s' => callF_no (P := P) (g := g0) (rest := rest) P.length 0 { s with fuel := f' } s'
          generalize callF P g0 rest P.length 0 { s with fuel := f' } = x at *
          obtain ⟨res, sr⟩ := x
          have HSV5 := hid (show SvI base P q g mb g pv t5 c5 o5 sr W5 from hsv5)
          have HSTEP5 := hid (fun (s' : Sv) (w' : World) (Z : Value → Value → Value → Prop) (hh : SStepZ base P q g mb pv t5 c5 o5 s' Z W5 w') => HSTEP4.out s' w' Z (SStepZ.trans hch5 hta5 hca5 hoa5 hh))
          have HNO := hid hno
          clear hsv5 hch5 hta5 hca5 hoa5 hno HCALL
          cases res with
          | next gl =>
            obtain ⟨xv, rfl, hgx⟩ := hres5
            obtain ⟨xp, rfl⟩ := hgx.ptr
            have HGX := hid hgx
            clear hgx
            go_wp2_with fail
            go_ret2
            rw [show stepF P g0 rest s = (.next gl, sr) from HRES.out]
            obtain ⟨t', c', o', z1, z2, z3, z4, z5, z6⟩ := HSTEP5.out sr W5 (fun t c o => GlsR (SA g mb g t c o) W5 gl (.pointer xp)) ⟨t5, c5, o5, HSV5.out, Ch.refl _ _, fun b h => .inl h, fun b h => .inl h, fun b h => .inl h, HGX.out⟩
            exact ⟨_, rfl, t', c', o', z1, z2, z3, z4, z5, _, rfl, z6⟩
          | off =>
            obtain ⟨xv, rfl⟩ := hres5
            go_wp2_with fail
            go_ret2
            rw [show stepF P g0 rest s = (.off, sr) from HRES.out]
            obtain ⟨t', c', o', z1, z2, z3, z4, z5, -⟩ := HSTEP5.out sr W5 (fun _ _ _ => True) ⟨t5, c5, o5, HSV5.out, Ch.refl _ _, fun b h => .inl h, fun b h => .inl h, fun b h => .inl h, trivial⟩
            exact ⟨_, rfl, t', c', o', z1, z2, z3, z4, z5, _, rfl⟩
          | no =>
            obtain ⟨xv, rfl⟩ := hres5
            have hsr : sr = { s with fuel := f' } := HNO.out sr rfl
            have HBB2 := hid (show stepF P g0 rest s = backF P sr.choices sr from HRES.out)
            have HBACK := hid (sback_ok HSV5.out (by rw [hsr]; exact HOK.out.1) (by rw [hsr]; simpa using HOUT.out))
            clear hsr
            go_wp2_with fail
            refine (HBACK.out).mono ?_
            rintro e W6 ⟨v4, rfl, t4, c4, o4, hsv4, hch4, hta4, hca4, hoa4, hres4⟩
            have HST4 := hid (HSTEP5.out _ W6 (fun t c o => ResR2 (SA g mb g t c o) W6 (backF P sr.choices sr).1 v4) ⟨t4, c4, o4, hsv4, hch4, hta4, hca4, hoa4, hres4⟩)
            have hv4 : ∃ x b, v4 = .tuple #[x, .bool b] := by
              unfold ResR2 at hres4
              split at hres4
              · obtain ⟨x, e, -⟩ := hres4; exact ⟨x, _, e⟩
              · obtain ⟨x, e⟩ := hres4; exact ⟨x, _, e⟩
            obtain ⟨xv2, xb, rfl⟩ := hv4
            clear hsv4 hch4 hta4 hca4 hoa4 hres4
            go_wp2_with fail
            go_ret2
            rw [HBB2.out]
            obtain ⟨t', c', o', z1, z2, z3, z4, z5, z6⟩ := HST4.out
            exact ⟨_, rfl, t', c', o', z1, z2, z3, z4, z5, z6⟩
end
end Go.Proofs.YtlpmfkpefoegeabDoor
