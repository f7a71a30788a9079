/-
  The solver: All.
-/
import Derived.Test.YtlpmfkpefoegeabDoorQSolveA
import Derived.Test.YtlpmfkpefoegeabDoorQSolveS
import Derived.Test.YtlpmfkpefoegeabDoorPProve
namespace Go.Proofs.YtlpmfkpefoegeabDoor
set_option linter.unusedVariables false
set_option linter.unusedSimpArgs false
open Go.RowKit
abbrev EvsR (A : Nat → Prop) (w : World) (l : List Ev) (v : Value) : Prop := SlR 2 evR A w l v
def SAllPost (w : World) (r : List Ev × Int) (e : Ending) (w' : World) : Prop := ∃ ev, e = .returned (.tuple #[ev, .int .i64 r.2]) ∧ Below w.heap.size w w' ∧ EvsR (fun _ => True) w' r.1 ev
def svMu (g : Nat) (w : World) : Nat := match w.cell? ⟨g, 5, none⟩, w.cell? ⟨g, 6, none⟩ with
  | some (.int _ k), some (.slice _ n _) => k.toNat + 13 - n
  | _, _ => 0
def onMu (on : Value) (g : Nat) (w : World) : Nat := match on with
  | .bool true => svMu g w + 1
  | _ => 0
section
variable {base : Nat} {P : List Cl} {q g mb : Nat} {pv tv cv ov : Value} {s : Sv} {w : World}
theorem svMu_of (h : SvI base P q g mb g pv tv cv ov s w) : svMu g w = s.fuel + 13 - s.out.length := by
  obtain ⟨_, _, _, _, _, _, oa, oc, _, _, _, e, _⟩ := h.vals
  obtain ⟨-, -, -, -, -, b5, b6, -⟩ := box8 h.box
  unfold svMu
  rw [b5, b6, e]
  simp
theorem answer_true {s' : Sv} (h : SvOk P s) (hq : (q : Int) ≤ s.vars) (e : answerF q s = (true, s')) : SvOk P s' ∧ s'.out.length = s.out.length + 1 ∧ s.out.length < 11 ∧ s'.fuel = s.fuel ∧ s'.vars = s.vars := by
  rcases answerF_ok h.env hq e with ⟨h0, _⟩ | ⟨l, hl, ⟨_, h1, h2, h3, h4, h5, h6⟩ | ⟨h0, _⟩⟩
  · cases h0
  · obtain ⟨a1, a2, a3, a4, a5, a6, a7, a8⟩ := h
    exact ⟨⟨a1, by rw [h5]; exact a2, by rw [h5, h3]; exact a3, by rw [h4, h5, h3]; exact a4, by rw [h4]; exact a5, by rw [h5, h6, h4]; exact a6, by rw [h3, h6, h4]; exact a7, by rw [h4, h6]; exact a8⟩, by rw [h1]; simp, h2, h6, h5⟩
  · cases h0
end
section
variable {P : List Cl} {Q : List Tm} {vars fuel : Int}
set_option maxHeartbeats 2000000 in
theorem sall_bad (h0 : ¬ (GoodP P ∧ GoodQ Q vars) ∨ (fuel < 0 ∨ fuel > 150)) (hnp : clsNodes P ≤ 1099511627776) (hnq : Tm.nodesL Q ≤ 1099511627776) (hv : I64 vars) (hf : I64 fuel) (w : World) (pv qv : Value) (hpv : ClsR (fun b => b < w.heap.size) w P pv) (hqv : TmsR (fun b => b < w.heap.size) w Q qv) :
    Calls Tryd.prog 38 #[pv, qv, .int .i64 vars, .int .i64 fuel] w (SAllPost w (solveF P Q vars fuel)) := by
  have HGP := hid (goodProgram_ok P hnp _ w pv hpv)
  have HGQ := hid (fun (w' : World) (hb : Below w.heap.size w w') => goodQuery_ok Q vars hnq hv _ w' qv (SlR.keeps Tm.rep_lasts hqv (Keeps.of_below hb)))
  have HV := hid hv
  have HS := hid (solveF_cases P Q vars fuel)
  have H0 := hid h0
  obtain ⟨pa, pc, -, -, rfl, -⟩ := SlR.at hpv
  obtain ⟨qa, qc, -, -, rfl, -⟩ := SlR.at hqv
  clear hpv hqv h0 hv
  go_enter Tryd.func38, Tryd.ntmps38
  go_wp2_with fail
  refine (HGP.out).mono ?_
  rintro e w1 ⟨v, rfl, hb1, b1, rfl, hgb1⟩
  have HB1 := hid hb1
  have HG1 := hid hgb1
  clear hb1 hgb1
  cases b1 with
  | false =>
    have hres : solveF P Q vars fuel = ([], 1) := by
      rcases HS.out with ⟨_, h⟩ | ⟨h, _⟩ | ⟨h, _⟩
      · exact h
      · have := HG1.out.2 h.1; cases this
      · have := HG1.out.2 h.1; cases this
    have HR := hid hres
    clear hres
    go_wp2_with fail
    go_ret2
    rw [HR.out]
    exact ⟨_, rfl, HB1.out, SlR.nil ..⟩
  | true =>
    go_wp2_with fail
    refine (HGQ.out w1 HB1.out).mono ?_
    rintro e w2 ⟨v, rfl, hb2, b2, rfl, hgb2⟩
    have HB2 := hid (HB1.out.trans (hb2.mono HB1.out.size))
    have HG2 := hid hgb2
    clear hb2 hgb2
    cases b2 with
    | false =>
      have hres : solveF P Q vars fuel = ([], 1) := by
        rcases HS.out with ⟨_, h⟩ | ⟨h, _⟩ | ⟨h, _⟩
        · exact h
        · have := HG2.out.2 h.2; cases this
        · have := HG2.out.2 h.2; cases this
      have HR := hid hres
      clear hres
      go_wp2_with fail
      go_ret2
      rw [HR.out]
      exact ⟨_, rfl, HB2.out, SlR.nil ..⟩
    | true =>
      have hfb : fuel < 0 ∨ fuel > 150 := by
        rcases H0.out with h | h
        · exact absurd ⟨HG1.out.1 (by simp), HG2.out.1 (by simp)⟩ h
        · exact h
      have hres : solveF P Q vars fuel = ([], 2) := by
        rcases HS.out with ⟨h, _⟩ | ⟨_, _, h⟩ | ⟨_, h1, h2, _⟩
        · exact absurd ⟨HG1.out.1 (by simp), HG2.out.1 (by simp)⟩ h
        · exact h
        · omega
      have HR := hid hres
      clear hres
      by_cases h1 : fuel < 0
      · have hd : decide (fuel < 0) = true := by simpa using h1
        go_wp2_with fail
        go_ret2
        rw [HR.out]
        exact ⟨_, rfl, HB2.out, SlR.nil ..⟩
      · have hd : decide (fuel < 0) = false := by simpa using h1
        have hd2 : (150 : Int) < fuel := by omega
        have hd3 : decide (150 < fuel) = true := by simpa using hd2
        go_wp2_with fail
        go_ret2
        rw [HR.out]
        exact ⟨_, rfl, HB2.out, SlR.nil ..⟩
set_option maxRecDepth 100000 in
set_option maxHeartbeats 8000000 in
theorem sall_good (hgp : GoodP P) (hgq : GoodQ Q vars) (hf0 : 0 ≤ fuel) (hf1 : fuel ≤ 150) (hnp : clsNodes P ≤ 1099511627776) (hnq : Tm.nodesL Q ≤ 1099511627776) (w : World) (pv qv : Value) (hpv : ClsR (fun b => b < w.heap.size) w P pv) (hqv : TmsR (fun b => b < w.heap.size) w Q qv) :
    Calls Tryd.prog 38 #[pv, qv, .int .i64 vars, .int .i64 fuel] w (SAllPost w (solveF P Q vars fuel)) := by
  have hv0 := hgq.1
  have hv8 := hgq.2.1
  have hq5 := hgq.2.2.1
  have HGP := hid (goodProgram_ok P hnp _ w pv hpv)
  have HGQ := hid (fun (w' : World) (hb : Below w.heap.size w w') => goodQuery_ok Q vars hnq (by unfold I64; omega) _ w' qv (SlR.keeps Tm.rep_lasts hqv (Keeps.of_below hb)))
  have HPR := hid hpv
  have HQR := hid hqv
  obtain ⟨vn, rfl⟩ := Int.eq_ofNat_of_zero_le hv0
  obtain ⟨fn, rfl⟩ := Int.eq_ofNat_of_zero_le hf0
  have HS := hid (show solveF P Q (vn : Int) (fn : Int) = ((runF P vn (fn + 14) (Q.map fun t => ⟨t, 0⟩) ⟨[], [], (vn : Int), fn, []⟩).out, 0) by
    rcases solveF_cases P Q (vn : Int) (fn : Int) with ⟨h, _⟩ | ⟨_, h, _⟩ | ⟨_, _, _, h⟩
    · exact absurd ⟨hgp, hgq⟩ h
    · omega
    · exact h)
  obtain ⟨hst1, hst2⟩ := start_ok (f := fn) hgp hgq (by omega)
  have HOK0 := hid hst1
  have HGL0 := hid hst2
  have HIP := hid hgp
  have HIQ := hid hgq
  obtain ⟨pa, pc, -, -, rfl, hpl1, hpl2, hpl3, -⟩ := SlR.at hpv
  obtain ⟨qa, qc, qb, qoff, rfl, hql1, hql2, hql3, hqa, hqe⟩ := SlR.at hqv
  have HQA := hid hqa
  have HQE := hid hqe
  unfold maxLen at hpl2 hql2
  clear hpv hqv hst1 hst2 hgp hgq hqa hqe
  have hmm := @run_makeMap Tryd.prog
  go_enter Tryd.func38, Tryd.ntmps38
  go_wp2_with fail
  refine (HGP.out).mono ?_
  rintro e w1 ⟨v, rfl, hb1, b1, rfl, hgb1⟩
  obtain rfl : b1 = true := hgb1.2 HIP.out
  have HB1 := hid hb1
  clear hb1 hgb1
  go_wp2_with fail
  refine (HGQ.out w1 HB1.out).mono ?_
  rintro e w2 ⟨v, rfl, hb2, b2, rfl, hgb2⟩
  obtain rfl : b2 = true := hgb2.2 HIQ.out
  have HB2 := hid (HB1.out.trans (hb2.mono HB1.out.size))
  clear hb2 hgb2
  have hd : decide ((fn : Int) < 0) = false := by simp
  have hd3 : decide (150 < (fn : Int)) = false := by simp; omega
  have hz2 := HB2.out.size
  go_wp2_with fail
  obtain ⟨W5, hW5⟩ : ∃ W5, W5 = (w2.alloc (.map #[] 0)).alloc (.cells #[.slice pa P.length pc, .map (some w2.heap.size), .slice none 0 0, .slice none 0 0, .int .i64 (vn : Int), .int .i64 (fn : Int), .slice none 0 0, .int .i64 (vn : Int)] 85) := ⟨_, rfl⟩
  have HB5 := hid (show Below w.heap.size w W5 by rw [hW5]; exact (HB2.out.alloc hz2 _).alloc (by simp; omega) _)
  have HX5 := hid (show W5.heap[w2.heap.size + 1]? = some (.cells #[.slice pa P.length pc, .map (some w2.heap.size), .slice none 0 0, .slice none 0 0, .int .i64 (vn : Int), .int .i64 (fn : Int), .slice none 0 0, .int .i64 (vn : Int)] 85 (0, 0)) by rw [hW5]; exact (heap2 w2 (.map #[] 0) _).2)
  have HM5 := hid (show MapIs W5 w2.heap.size [] by rw [hW5]; exact (MapIs.made w2).keeps (Keeps.alloc (fun _ => True) _ _) trivial)
  have hs5 : W5.heap.size = w2.heap.size + 2 := by rw [hW5]; simp
  obtain ⟨mb, hmb⟩ : ∃ mb, mb = w2.heap.size := ⟨_, rfl⟩
  obtain ⟨g, hg⟩ : ∃ g, g = w2.heap.size + 1 := ⟨_, rfl⟩
  rw [← hW5]
  rw [← hg, ← hmb] at HX5
  rw [← hmb] at HM5
  rw [← hg]
  have hgm : g ≠ mb := by omega
  have hgw : w.heap.size ≤ g := by omega
  have hmw : w.heap.size ≤ mb := by omega
  have hg5 : g < W5.heap.size := by omega
  have hm5 : mb < W5.heap.size := by omega
  have HSV5 := hid (show SvI w.heap.size P vn g mb g (.slice pa P.length pc) (.slice none 0 0) (.slice none 0 0) (.slice none 0 0) ⟨[], [], (vn : Int), fn, []⟩ W5 from
    { box := HX5.out
      prog := SlR.keeps Cl.rep_lasts HPR.out (Keeps.of_below HB5.out)
      env := ⟨[], HM5.out, trivial⟩
      trail := OwnF.nil
      chc := OwnR.nil ..
      out := OwnR.nil ..
      bg := hgw, bm := hmw, bx := hgw, bxl := hg5, nx := .inl rfl
      v0 := Int.natCast_nonneg _, v1 := by show (vn : Int) ≤ 1000000; omega
      fu := by show fn ≤ 150; omega
      qq := by omega
      len := by simp, few := by simp, out13 := by simp })
  clear hW5 hmb hg hmm
  go_wp2_with fail
  go_loopw [12, 11] (fun i v wr => ∃ j : Nat, j ≤ Q.length ∧ i = .int .i64 ((j : Int) - 1) ∧ Below W5.heap.size W5 wr ∧ GlsR (SA g mb g (.slice none 0 0) (.slice none 0 0) (.slice none 0 0)) wr ((Q.drop j).map fun t => (⟨t, 0⟩ : Gl)) v) (fun i _ _ => (intOf i + 1).toNat)
  case atStart => exact ⟨Q.length, Nat.le_refl _, rfl, Below.refl _ _, by rw [List.drop_length]; rfl⟩
  case round =>
    obtain ⟨j, hj, rfl, hb, hgl⟩ := hrel
    have HB := hid hb
    have HGL := hid hgl
    have hzr := hb.size
    obtain ⟨gp, rfl⟩ := hgl.ptr
    clear hb hgl
    cases j with
    | succ j =>
      rw [show ((j + 1 : Nat) : Int) - 1 = (j : Int) by omega]
      have hj0 : (0 : Int) ≤ (j : Int) := Int.natCast_nonneg _
      have hj1 : (j : Int) < (Q.length : Int) := by omega
      have hjl : j < Q.length := by omega
      obtain ⟨rfl, hqb⟩ := HQA.out (by omega)
      obtain ⟨sa, sc, c0, c1, c2, c3, hr⟩ := tm_cells HQE.out hqb (Keeps.of_below (HB5.out.trans (HB.out.mono HB5.out.size))) hjl
      have hqbl : qb < wr.heap.size := World.block_lt_of_cell? wr _ c0
      have HR := hid (Tm.rep_lasts.2.1 _ (SA g mb g (.slice none 0 0) (.slice none 0 0) (.slice none 0 0)) _ _ _ hr fun b _ hb => ⟨by
        rintro (e | e | e | e | e)
        · omega
        · omega
        · simp [ownB] at e
        · simp [ownB] at e
        · simp [ownB] at e, by omega⟩)
      clear hr
      go_wp2_with fail
      go_roundw
      case rel =>
        refine ⟨j, by omega, rfl, HB.out.alloc hzr _, ?_⟩
        rw [List.drop_eq_getElem_cons hjl, List.map_cons]
        refine ⟨wr.heap.size, sa, sc, _, rfl, ⟨by
          rintro (e | e | e | e | e)
          · omega
          · omega
          · simp [ownB] at e
          · simp [ownB] at e
          · simp [ownB] at e, by omega⟩, blk_new _ _, Tm.rep_lasts.1 _ _ _ _ _ HR.out (Keeps.alloc _ _ _), HGL.out.keeps (Keeps.alloc _ _ _)⟩
      case measure => simp [intOf]
    | zero =>
      rw [show ((0 : Nat) : Int) - 1 = -1 by omega]
      have HGL0' := hid (show GlsR (SA g mb g (.slice none 0 0) (.slice none 0 0) (.slice none 0 0)) wr (Q.map fun t => (⟨t, 0⟩ : Gl)) (.pointer gp) by have := HGL.out; rwa [List.drop_zero] at this)
      have HSV6 := hid (HSV5.out.below HB.out)
      have HBw6 := hid (HB5.out.trans (HB.out.mono HB5.out.size))
      clear HGL
      obtain ⟨W6, hW6⟩ : ∃ W6, W6 = wr := ⟨_, rfl⟩
      rw [← hW6] at HB HGL0' HSV6 HBw6 hzr
      rw [← hW6]
      clear hW6
      go_wp2_with fail
      go_loopw [13, 11] (fun on v wr => ∃ (sx : Sv) (t1 c1 o1 : Value), SvI w.heap.size P vn g mb g (.slice pa P.length pc) t1 c1 o1 sx wr ∧ Ch (SM g mb (.slice none 0 0) (.slice none 0 0) (.slice none 0 0)) W6 wr ∧ (∀ b, ownB t1 = some b → ownB (.slice none 0 0) = some b ∨ W6.heap.size ≤ b) ∧ (∀ b, ownB c1 = some b → ownB (.slice none 0 0) = some b ∨ W6.heap.size ≤ b) ∧ (∀ b, ownB o1 = some b → ownB (.slice none 0 0) = some b ∨ W6.heap.size ≤ b) ∧
        ((on = .bool false ∧ runF P vn (fn + 14) (Q.map fun t => ⟨t, 0⟩) ⟨[], [], (vn : Int), fn, []⟩ = sx) ∨ (on = .bool true ∧ ∃ (n : Nat) (gl : List Gl), GlsR (SA g mb g t1 c1 o1) wr gl v ∧ SvOk P sx ∧ GlsOk sx.vars gl ∧ (vn : Int) ≤ sx.vars ∧ sx.out.length ≤ 11 ∧ sx.fuel + 13 ≤ n + sx.out.length ∧
          runF P vn (fn + 14) (Q.map fun t => ⟨t, 0⟩) ⟨[], [], (vn : Int), fn, []⟩ = runF P vn n gl sx))) (fun on _ wr => onMu on g wr)
      case atStart => exact ⟨_, _, _, _, HSV6.out, Ch.refl _ _, fun b h => .inl h, fun b h => .inl h, fun b h => .inl h, .inr ⟨rfl, fn + 14, _, HGL0'.out, HOK0.out, HGL0.out, Int.le_refl _, by simp, by simp, rfl⟩⟩
      case round =>
        obtain ⟨sx, t1, c1, o1, hsv, hch, hta, hca, hoa, hst⟩ := hrel
        have HSV := hid hsv
        have HCH := hid hch
        have HTA := hid hta
        have HCA := hid hca
        have HOA := hid hoa
        have HSTEP := hid (fun (s' : Sv) (w' : World) (Z : Value → Value → Value → Prop) (hh : SStepZ w.heap.size P vn g mb (.slice pa P.length pc) t1 c1 o1 s' Z wr w') => (SStepZ.trans hch hta hca hoa hh : SStepZ w.heap.size P vn g mb (.slice pa P.length pc) (.slice none 0 0) (.slice none 0 0) (.slice none 0 0) s' Z W6 w'))
        obtain ⟨_, _, _, _, _, _, oa, oc, -, -, -, ho1, -, -, -, -, -, -, hol1, hol2⟩ := hsv.vals
        have hgl := hsv.lt.1
        unfold maxLen at hol2
        clear hsv hch hta hca hoa
        rcases hst with ⟨rfl, hrun⟩ | ⟨rfl, n, gl, hgv, hok, hgo, hqv, hout, hn, hrun⟩
        · have HRUN := hid hrun
          subst ho1
          obtain ⟨b0, b1, b2, b3, b4, b5, b6, b7, bf⟩ := box8 HSV.out.box
          clear hrun
          go_wp2_with fail
          go_ret2
          rw [HS.out, HRUN.out]
          have hBf : Below w.heap.size w wr := by
            have h1 : Ch (SM g mb (.slice none 0 0) (.slice none 0 0) (.slice none 0 0)) w wr := (Ch.of_below HBw6.out).trans HCH.out (fun x h => .inl h)
            refine h1.below fun k hk e => ?_
            rcases e with e | e | e | e | e
            · omega
            · omega
            · simp [ownB] at e
            · simp [ownB] at e
            · simp [ownB] at e
          exact ⟨_, rfl, hBf, (HSV.out.out.mono' (A' := fun _ => True) evR_lasts fun _ _ _ _ => trivial).sl evR_lasts (show sx.out.length ≤ 1048576 by have := HSV.out.out13; omega) (fun _ _ => trivial)⟩
        · have HOK := hid hok
          have HGO := hid hgo
          have HQV := hid hqv
          have HOUT := hid hout
          have HRUN := hid hrun
          have HGV := hid hgv
          obtain ⟨n, rfl⟩ : ∃ m, n = m + 1 := ⟨n - 1, by omega⟩
          have HN := hid hn
          clear hok hgo hqv hrun hn hout ho1
          cases gl with
          | nil =>
            simp only [GlsR] at hgv
            subst hgv
            have HANS := hid (sanswer_ok HSV.out HOK.out.env HQV.out (by have := HOUT.out; omega))
            go_wp2_with fail
            refine (HANS.out).mono ?_
            rintro e W7 ⟨rfl, hst7⟩
            have hat := fun s' => answer_true (s' := s') HOK.out HQV.out
            have HRUN2 := hid (show runF P vn (fn + 14) (Q.map fun t => ⟨t, 0⟩) ⟨[], [], (vn : Int), fn, []⟩ = (match answerF vn sx with
              | (false, s') => s'
              | (true, s') => match backF P s'.choices s' with
                | (.next g, s'') => runF P vn n g s''
                | (_, s'') => s'') by
              rw [HRUN.out, runF]
              cases answerF vn sx with
              | mk b s' =>
                cases b with
                | false => rfl
                | true =>
                  simp only
                  cases backF P s'.choices s' with
                  | mk r s'' => cases r <;> rfl)
            generalize answerF vn sx = ar at *
            obtain ⟨ab, s7⟩ := ar
            obtain ⟨t7, c7, o7, hsv7, hch7, hta7, hca7, hoa7⟩ := hst7
            have HSV7 := hid (show SvI w.heap.size P vn g mb g _ t7 c7 o7 s7 W7 from hsv7)
            have HSTEP7 := hid (fun (s' : Sv) (w' : World) (Z : Value → Value → Value → Prop) (hh : SStepZ w.heap.size P vn g mb (.slice pa P.length pc) t7 c7 o7 s' Z W7 w') => HSTEP.out s' w' Z (SStepZ.trans hch7 hta7 hca7 hoa7 hh))
            have HAT := hid hat
            clear hsv7 hch7 hta7 hca7 hoa7 hat HANS
            cases ab with
            | false =>
              have hr : runF P vn (fn + 14) (Q.map fun t => ⟨t, 0⟩) ⟨[], [], (vn : Int), fn, []⟩ = s7 := HRUN2.out
              have HR := hid hr
              clear hr
              go_wp2_with fail
              go_roundw
              case rel =>
                obtain ⟨t', c', o', z1, z2, z3, z4, z5, -⟩ := HSTEP7.out s7 W7 (fun _ _ _ => True) ⟨t7, c7, o7, HSV7.out, Ch.refl _ _, fun b h => .inl h, fun b h => .inl h, fun b h => .inl h, trivial⟩
                exact ⟨s7, t', c', o', z1, z2, z3, z4, z5, .inl ⟨rfl, HR.out⟩⟩
              case measure => simp [onMu]
            | true =>
              obtain ⟨a1, a2, a3, a4, a5⟩ := HAT.out s7 rfl
              have HA1 := hid a1
              have HA := hid (show s7.out.length = sx.out.length + 1 ∧ sx.out.length < 11 ∧ s7.fuel = sx.fuel ∧ s7.vars = sx.vars from ⟨a2, a3, a4, a5⟩)
              have HBACK := hid (sback_ok HSV7.out a1 (by omega))
              have HBN := hid (fun s' gl => backF_next (P := P) s7.choices s7 s' gl a1)
              clear a1 a2 a3 a4 a5
              go_wp2_with fail
              refine (HBACK.out).mono ?_
              rintro e W8 ⟨v8, rfl, t8, c8, o8, hsv8, hch8, hta8, hca8, hoa8, hres8⟩
              have HRUN3 := hid (show runF P vn (fn + 14) (Q.map fun t => ⟨t, 0⟩) ⟨[], [], (vn : Int), fn, []⟩ = (match backF P s7.choices s7 with
                | (.next g, s'') => runF P vn n g s''
                | (_, s'') => s'') from HRUN2.out)
              generalize backF P s7.choices s7 = br at *
              obtain ⟨r8, s8⟩ := br
              have HSV8 := hid (show SvI w.heap.size P vn g mb g _ t8 c8 o8 s8 W8 from hsv8)
              have HSTEP8 := hid (fun (s' : Sv) (w' : World) (Z : Value → Value → Value → Prop) (hh : SStepZ w.heap.size P vn g mb (.slice pa P.length pc) t8 c8 o8 s' Z W8 w') => HSTEP7.out s' w' Z (SStepZ.trans hch8 hta8 hca8 hoa8 hh))
              clear hsv8 hch8 hta8 hca8 hoa8 HBACK
              have hoff : (∀ gl, r8 ≠ .next gl) → ∃ x, v8 = .tuple #[x, .bool false] := fun h => by
                cases r8 with
                | next gl => exact absurd rfl (h gl)
                | no => exact hres8
                | off => exact hres8
              have hrun8 : (∀ gl, r8 ≠ .next gl) → runF P vn (fn + 14) (Q.map fun t => ⟨t, 0⟩) ⟨[], [], (vn : Int), fn, []⟩ = s8 := fun h => by
                cases r8 with
                | next gl => exact absurd rfl (h gl)
                | no => exact HRUN3.out
                | off => exact HRUN3.out
              by_cases hnx : ∃ gl, r8 = .next gl
              · obtain ⟨gl8, rfl⟩ := hnx
                obtain ⟨xv, rfl, hgx⟩ := hres8
                have HGX := hid hgx
                obtain ⟨b1, b2, b3, b4, b5⟩ := HBN.out s8 gl8 rfl
                have HB8 := hid b1
                have HB82 := hid b2
                have HB83 := hid (show s8.fuel = s7.fuel ∧ s8.out = s7.out ∧ s7.vars ≤ s8.vars from ⟨b3, b4, b5⟩)
                clear hgx b1 b2 b3 b4 b5 hoff hrun8
                go_wp2_with fail
                go_roundw
                case rel =>
                  obtain ⟨t', c', o', z1, z2, z3, z4, z5, z6⟩ := HSTEP8.out s8 W8 (fun t c o => GlsR (SA g mb g t c o) W8 gl8 xv) ⟨t8, c8, o8, HSV8.out, Ch.refl _ _, fun b h => .inl h, fun b h => .inl h, fun b h => .inl h, HGX.out⟩
                  have hA := HA.out
                  have hB := HB83.out
                  have hN := HN.out
                  have hQ := HQV.out
                  exact ⟨s8, t', c', o', z1, z2, z3, z4, z5, .inr ⟨rfl, n, gl8, z6, HB8.out, HB82.out, by omega, by rw [hB.2.1]; omega, by rw [hB.2.1]; omega, HRUN3.out⟩⟩
                case measure =>
                  have hA := HA.out
                  have hB := HB83.out
                  simp only [onMu]
                  rw [svMu_of HSV.out, svMu_of HSV8.out, hB.1, hB.2.1]
                  omega
              · have hnx' : ∀ gl, r8 ≠ .next gl := fun gl e => hnx ⟨gl, e⟩
                obtain ⟨xv, rfl⟩ := hoff hnx'
                have HR := hid (hrun8 hnx')
                clear hoff hrun8 hres8 hnx hnx'
                go_wp2_with fail
                go_roundw
                case rel =>
                  obtain ⟨t', c', o', z1, z2, z3, z4, z5, -⟩ := HSTEP8.out s8 W8 (fun _ _ _ => True) ⟨t8, c8, o8, HSV8.out, Ch.refl _ _, fun b h => .inl h, fun b h => .inl h, fun b h => .inl h, trivial⟩
                  exact ⟨s8, t', c', o', z1, z2, z3, z4, z5, .inl ⟨rfl, HR.out⟩⟩
                case measure => simp [onMu]
          | cons g0 rest =>
            have HSTP := hid (sstep_ok HSV.out HOK.out HGO.out HGV.out (by have := HOUT.out; omega))
            have HSN := hid (fun s' gl => stepF_next (P := P) (g := g0) (rest := rest) (gl := gl) (s := sx) (s' := s') HOK.out HGO.out)
            obtain ⟨gb, _, _, _, rfl, -⟩ := hgv
            go_wp2_with fail
            refine (HSTP.out).mono ?_
            rintro e W8 ⟨v8, rfl, t8, c8, o8, hsv8, hch8, hta8, hca8, hoa8, hres8⟩
            have HRUN3 := hid (show runF P vn (fn + 14) (Q.map fun t => ⟨t, 0⟩) ⟨[], [], (vn : Int), fn, []⟩ = (match stepF P g0 rest sx with
              | (.next g', s') => runF P vn n g' s'
              | (_, s') => s') by
              rw [HRUN.out, runF]
              cases stepF P g0 rest sx with
              | mk r s' => cases r <;> rfl)
            generalize stepF P g0 rest sx = br at *
            obtain ⟨r8, s8⟩ := br
            have HSV8 := hid (show SvI w.heap.size P vn g mb g _ t8 c8 o8 s8 W8 from hsv8)
            have HSTEP8 := hid (fun (s' : Sv) (w' : World) (Z : Value → Value → Value → Prop) (hh : SStepZ w.heap.size P vn g mb (.slice pa P.length pc) t8 c8 o8 s' Z W8 w') => HSTEP.out s' w' Z (SStepZ.trans hch8 hta8 hca8 hoa8 hh))
            clear hsv8 hch8 hta8 hca8 hoa8 HSTP
            have hoff : (∀ gl, r8 ≠ .next gl) → ∃ x, v8 = .tuple #[x, .bool false] := fun h => by
              cases r8 with
              | next gl => exact absurd rfl (h gl)
              | no => exact hres8
              | off => exact hres8
            have hrun8 : (∀ gl, r8 ≠ .next gl) → runF P vn (fn + 14) (Q.map fun t => ⟨t, 0⟩) ⟨[], [], (vn : Int), fn, []⟩ = s8 := fun h => by
              cases r8 with
              | next gl => exact absurd rfl (h gl)
              | no => exact HRUN3.out
              | off => exact HRUN3.out
            by_cases hnx : ∃ gl, r8 = .next gl
            · obtain ⟨gl8, rfl⟩ := hnx
              obtain ⟨xv, rfl, hgx⟩ := hres8
              have HGX := hid hgx
              obtain ⟨b1, b2, b3, b4, b5⟩ := HSN.out s8 gl8 rfl
              have HB8 := hid b1
              have HB82 := hid b2
              have HB83 := hid (show s8.fuel + 1 = sx.fuel ∧ s8.out = sx.out ∧ sx.vars ≤ s8.vars from ⟨b3, b4, b5⟩)
              clear hgx b1 b2 b3 b4 b5 hoff hrun8
              go_wp2_with fail
              go_roundw
              case rel =>
                obtain ⟨t', c', o', z1, z2, z3, z4, z5, z6⟩ := HSTEP8.out s8 W8 (fun t c o => GlsR (SA g mb g t c o) W8 gl8 xv) ⟨t8, c8, o8, HSV8.out, Ch.refl _ _, fun b h => .inl h, fun b h => .inl h, fun b h => .inl h, HGX.out⟩
                have hB := HB83.out
                have hN := HN.out
                have hQ := HQV.out
                have hO := HOUT.out
                exact ⟨s8, t', c', o', z1, z2, z3, z4, z5, .inr ⟨rfl, n, gl8, z6, HB8.out, HB82.out, by omega, by rw [hB.2.1]; omega, by rw [hB.2.1]; omega, HRUN3.out⟩⟩
              case measure =>
                have hB := HB83.out
                have hO := HOUT.out
                simp only [onMu]
                rw [svMu_of HSV.out, svMu_of HSV8.out, hB.2.1]
                omega
            · have hnx' : ∀ gl, r8 ≠ .next gl := fun gl e => hnx ⟨gl, e⟩
              obtain ⟨xv, rfl⟩ := hoff hnx'
              have HR := hid (hrun8 hnx')
              clear hoff hrun8 hres8 hnx hnx'
              go_wp2_with fail
              go_roundw
              case rel =>
                obtain ⟨t', c', o', z1, z2, z3, z4, z5, -⟩ := HSTEP8.out s8 W8 (fun _ _ _ => True) ⟨t8, c8, o8, HSV8.out, Ch.refl _ _, fun b h => .inl h, fun b h => .inl h, fun b h => .inl h, trivial⟩
                exact ⟨s8, t', c', o', z1, z2, z3, z4, z5, .inl ⟨rfl, HR.out⟩⟩
              case measure => simp [onMu]
theorem sall_ok (hnp : clsNodes P ≤ 1099511627776) (hnq : Tm.nodesL Q ≤ 1099511627776) (hv : I64 vars) (hf : I64 fuel) (w : World) (pv qv : Value) (hpv : ClsR (fun b => b < w.heap.size) w P pv) (hqv : TmsR (fun b => b < w.heap.size) w Q qv) :
    Calls Tryd.prog 38 #[pv, qv, .int .i64 vars, .int .i64 fuel] w (SAllPost w (solveF P Q vars fuel)) := by
  by_cases h : GoodP P ∧ GoodQ Q vars
  · by_cases h2 : fuel < 0 ∨ fuel > 150
    · exact sall_bad (.inr h2) hnp hnq hv hf w pv qv hpv hqv
    · exact sall_good h.1 h.2 (by omega) (by omega) hnp hnq w pv qv hpv hqv
  · exact sall_bad (.inl h) hnp hnq hv hf w pv qv hpv hqv
end
end Go.Proofs.YtlpmfkpefoegeabDoor
