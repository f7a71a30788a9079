/-
  queristref.CollectAll: the heap with just the cells that are reached.
-/
import Derived.Test.YtlpmfkpefoegeaaQAhead
namespace Go.Proofs.Ytlpmfkpefoegeaa
set_option linter.unusedVariables false
set_option linter.unusedSimpArgs false
open Go.RowKit

theorem trailM_len (m : List Bool) (t : List Int) : (trailM m t).length = t.length := by simp [trailM]

theorem ahead_i64 (m : List Bool) (hm : m.length ≤ 65536) (n : Int) : I64 (ahead m n) := by
  have h1 := cnt_min m n.toNat
  have h2 := cnt_le m (min n.toNat m.length)
  unfold ahead I64
  omega

set_option maxRecDepth 100000 in
set_option maxHeartbeats 3000000 in
theorem collectAll_ok (h : Hp) (roots tops mks : List Int) (A : Nat → Prop) (w : World) (vs : List Value) (v1 v2 v3 : Value) (hh : Hp.rep A w h vs) (hv1 : NumsR A w roots v1) (hv2 : NumsR A w tops v2) (hv3 : NumsR A w mks v3) :
    Calls Try.prog 51 #[.agg vs.toArray, v1, v2, v3] w (Pure w (ColPost (fun b => A b ∨ New w b) (collectF h roots tops mks))) := by
  obtain ⟨va, cap, vb, tap, rfl, hc1, hc2, hc3, ht1, ht2, ht3, hc, ht⟩ := Hp.rep2 hh
  obtain ⟨_, _, cb, coff, e, -, -, -, hca, hce⟩ := hc.at
  simp only [Value.slice.injEq, true_and] at e
  obtain ⟨rfl, rfl⟩ := e
  have HTR := hid ht
  obtain ⟨_, _, tb, toff, e, -, -, -, hta, hte⟩ := ht.at
  simp only [Value.slice.injEq, true_and] at e
  obtain ⟨rfl, rfl⟩ := e
  obtain ⟨r1a, r1c, r1b, r1o, rfl, hr11, hr12, hr13, hr1a, hr1e⟩ := hv1.at
  obtain ⟨r2a, r2c, r2b, r2o, rfl, hr21, hr22, hr23, hr2a, hr2e⟩ := hv2.at
  obtain ⟨r3a, r3c, r3b, r3o, rfl, hr31, hr32, hr33, hr3a, hr3e⟩ := hv3.at
  have HH := hid hh
  have HV1 := hid hv1
  have HCA := hid hca
  have HCE := hid hce
  have HTA := hid hta
  have HTE := hid hte
  have R1A := hid hr1a
  have R1E := hid hr1e
  have R2A := hid hr2a
  have R2E := hid hr2e
  have R3A := hid hr3a
  have R3E := hid hr3e
  have hmf : ∀ (fn : Fn) (first cap : Array Value) (w : World), (Instr.makeFunc fn first cap).run Try.prog w = .ok (.func fn first cap) w := fun _ _ _ _ => rfl
  clear hh hv1 hv2 hv3 hca hce hta hte hc ht hr1a hr1e hr2a hr2e hr3a hr3e
  go_enter Try.func51, Try.ntmps51
  go_wp2_with fail
  refine (marksOf_ok h roots A _ [_, _] _ (Hp.rep.keeps HH.out ((Keeps.alloc _ _ _).trans (Keeps.alloc _ _ _))) (SlR.keeps numR_lasts HV1.out ((Keeps.alloc _ _ _).trans (Keeps.alloc _ _ _)))).mono ?_
  rintro e w1 ⟨v, rfl, hb1, mv, rfl, hmk⟩
  have h2 := heap2 w (.cells #[.slice va h.cells.length cap, .slice vb h.trail.length tap] 38) (.cells #[.slice none 0 0, .slice none 0 0] 38)
  have HX1 := hid (blk_below h2.1 hb1)
  have HX2 := hid (blk_below h2.2 hb1)
  have HB := hid (show Below w.heap.size w w1 from below_pure (below_pure (hb1.mono (by simp))))
  have hz : w.heap.size + 2 ≤ w1.heap.size := by have := hb1.size; simp at this; omega
  have hz' : w.heap.size < w1.heap.size := by omega
  have hz1 : w.heap.size + 1 < w1.heap.size := by omega
  have HMK := hid (show OwnB w1 (w.heap.size + 2) (marksF h roots).1 mv by simpa using hmk)
  have hcs := cell_set
  clear h2 hb1 hmk
  obtain ⟨gi, hgi⟩ : ∃ g, g = w1.heap.size := ⟨_, rfl⟩
  have HGI := hid hgi
  obtain ⟨x0, x1, xf⟩ := box2 HX1.out
  obtain ⟨y0, y1, yf⟩ := box2 HX2.out
  by_cases hg : h.Good
  case neg =>
    have HG := hid hg
    rw [show (marksF h roots).2 = 1 by rw [marksF, if_neg hg]]
    obtain ⟨ma, mc, rfl, hma, hmc⟩ := OwnF.val HMK.out
    obtain ⟨mn, hmn⟩ : ∃ n, n = (marksF h roots).1.length := ⟨_, rfl⟩
    rw [← hmn] at hma ⊢
    clear hg hgi hmn
    go_wp2_with fail
    have hal : ∀ (W : World) (o : Obj) (off : Nat), w.heap.size + 1 < W.heap.size → (W.alloc o).cell? ⟨w.heap.size + 1, off, none⟩ = W.cell? ⟨w.heap.size + 1, off, none⟩ := fun W o off hW => World.cell?_alloc_past _ _ _ hW
    refine bodyPost_ret (v := .tuple #[.agg #[.slice va h.cells.length cap, .slice vb h.trail.length tap], .slice none 0 0, .slice none 0 0, .slice none 0 0, .int .i64 1]) (by simp [results, Try.results51, go_sem, hcs, hal, hz1, x0, x1, y0, y1]) rfl ?_
    have hb : Below w.heap.size w (((w1.setCell ⟨w.heap.size + 1, 0, none⟩ (.slice va h.cells.length cap)).setCell ⟨w.heap.size + 1, 1, none⟩ (.slice vb h.trail.length tap)).alloc (.cells #[.slice ma mn mc] 55)) := (Below.setCell (Below.setCell HB.out (by simp) _) (by simp) _).alloc (by simp; omega) _
    rw [collectF, if_pos HG.out]
    exact Pure.mk hb ⟨_, _, _, _, rfl, Hp.rep.mono (Hp.rep.keeps HH.out (Keeps.of_below hb)) (fun _ _ h => .inl h), SlR.nil .., SlR.nil .., SlR.nil ..⟩
  case pos =>
    have HG := hid hg
    have hL1 : h.cells.length ≤ 65536 := hg.2.2.1
    have hL2 : h.trail.length ≤ 65536 := hg.2.2.2
    have em : marksF h roots = (marks h.cells roots, 0) := by rw [marksF, if_pos hg]
    rw [em] at HMK ⊢
    obtain ⟨m, hm⟩ : ∃ m, m = marks h.cells roots := ⟨_, rfl⟩
    rw [← hm] at HMK
    have HM := hid hm
    have hml : m.length = h.cells.length := by rw [hm, marks_len]
    obtain ⟨ma, mc, rfl, hma, hmc⟩ := OwnF.val HMK.out
    rw [hml] at hma HMK
    rw [hml]
    have HMA := hid (fun b (hb : ownB (.slice ma h.cells.length mc) = some b) => (HMK.out.lt b hb).2)
    rw [← hgi] at HMA
    have I0 := hid (HB.out.alloc HB.out.size (.cells #[.slice ma h.cells.length mc] 55))
    have I1 := hid (blk_alloc HX1.out (.cells #[.slice ma h.cells.length mc] 55))
    have I2 := hid (blk_alloc HX2.out (.cells #[.slice ma h.cells.length mc] 55))
    have II := hid (blk_new w1 (.cells #[.slice ma h.cells.length mc] 55))
    rw [← hgi] at II
    have IM := hid (OwnF.below HMK.out ((Below.refl _ _).alloc (Nat.le_refl _) (.cells #[.slice ma h.cells.length mc] 55)))
    have hgi2 : w.heap.size + 2 ≤ gi := by omega
    have hml' : m.length ≤ 65536 := by omega
    clear hg em hm
    go_wp2_with fail
    rw [← HGI.out]
    clear hgi x0 x1 xf y0 y1 yf
    go_loopw [45] (fun i W => ∃ j : Nat, j ≤ roots.length ∧ i = .int .i64 (j : Int) ∧ (Below w.heap.size w W ∧ W.heap[w.heap.size]? = some (.cells #[.slice va h.cells.length cap, .slice vb h.trail.length tap] 38 (0, 0)) ∧ W.heap[w.heap.size + 1]? = some (.cells #[.slice none 0 0, .slice none 0 0] 38 (0, 0)) ∧ W.heap[gi]? = some (.cells #[.slice ma h.cells.length mc] 55 (0, 0)) ∧ OwnB W (w.heap.size + 2) m (.slice ma h.cells.length mc)) ∧ ∀ q (hq : q < roots.length), q < j → Inb h.cells roots[q]) (fun i _ => roots.length - (intOf i).toNat)
    case atStart => exact ⟨0, Nat.zero_le _, rfl, ⟨I0.out, I1.out, I2.out, II.out, IM.out⟩, fun q _ hq => absurd hq (Nat.not_lt_zero _)⟩
    case round =>
      obtain ⟨j, hj, rfl, ⟨jb, j1, j2, ji, jm⟩, hin⟩ := hrel
      have JB := hid jb
      have J1 := hid j1
      have J2 := hid j2
      have JI := hid ji
      have JM := hid jm
      have HIN := hid hin
      obtain ⟨x0, x1, xf⟩ := box2 j1
      obtain ⟨y0, y1, yf⟩ := box2 j2
      obtain ⟨z0, zf⟩ := box1 ji
      have hzr0 := blk_lt j1
      have hzr1 := blk_lt j2
      have hzri := blk_lt ji
      clear hin j1 j2 ji jm
      by_cases hlt : j < roots.length
      · obtain ⟨rfl, hAr⟩ := R1A.out (by omega)
        obtain ⟨c0, ci⟩ := num_cell R1E.out hAr (Keeps.of_below jb) hlt
        have hlt' : (j : Int) < (roots.length : Int) := by omega
        have HLT := hid hlt
        obtain ⟨q, hq⟩ : ∃ q : Int, q = roots[j]'hlt := ⟨_, rfl⟩
        rw [← hq] at c0 ci
        have HQ := hid hq
        clear hq jb
        by_cases hq1 : 0 ≤ q ∧ q < (h.cells.length : Int)
        · have HQ1 := hid hq1
          obtain ⟨k1, k2⟩ := hq1
          go_wp2_with fail
          go_roundw
          case rel =>
            refine ⟨j + 1, by omega, by go_num, ⟨JB.out, J1.out, J2.out, JI.out, JM.out⟩, fun i hi hij => ?_⟩
            by_cases e : i = j
            · subst e; rw [← HQ.out]; exact HQ1.out
            · exact HIN.out i hi (by omega)
          case measure => first | (simp [intOf]; done) | (simp [intOf]; omega)
        · have HNE := hid (show ¬ (∀ r ∈ roots, Inb h.cells r) from fun hall => hq1 (by have := hall (roots[j]'HLT.out) (List.getElem_mem _); rw [← HQ.out] at this; exact this))
          have hq1' : ¬ (0 ≤ q ∧ q < (h.cells.length : Int)) := hq1
          clear hq1
          by_cases hq0 : q < 0
          all_goals
            go_wp2_with fail
            all_goals first
              | (exfalso; omega)
              | (refine bodyPost_ret (v := .tuple #[.agg #[.slice va h.cells.length cap, .slice vb h.trail.length tap], .slice none 0 0, .slice none 0 0, .slice none 0 0, .int .i64 4]) (by simp [results, Try.results51, go_sem, hcs, x0, x1, y0, y1]) rfl ?_
                 have hb : Below w.heap.size w ((wr.setCell ⟨w.heap.size + 1, 0, none⟩ (.slice va h.cells.length cap)).setCell ⟨w.heap.size + 1, 1, none⟩ (.slice vb h.trail.length tap)) := Below.setCell (Below.setCell (JB.out) (by simp) _) (by simp) _
                 rw [collectF, if_neg (not_not_intro HG.out), if_pos HNE.out]
                 exact Pure.mk hb ⟨_, _, _, _, rfl, Hp.rep.mono (Hp.rep.keeps HH.out (Keeps.of_below hb)) (fun _ _ h => .inl h), SlR.nil .., SlR.nil .., SlR.nil ..⟩)
              | go_ways
      · have HALL := hid (show ∀ r ∈ roots, Inb h.cells r from fun r hr => by
          obtain ⟨i, hi, rfl⟩ := List.mem_iff_getElem.1 hr
          exact HIN.out i hi (by omega))
        have hlt' : ¬ (j : Int) < (roots.length : Int) := by omega
        clear hlt
        obtain ⟨go, hgo⟩ : ∃ g, g = wr.heap.size := ⟨_, rfl⟩
        have HGO := hid hgo
        have hgo1 : gi + 1 ≤ go := by omega
        have KB0 := hid (JB.out.alloc JB.out.size (.cells #[.slice none 0 0, .slice none 0 0] 38))
        have K10 := hid (blk_alloc J1.out (.cells #[.slice none 0 0, .slice none 0 0] 38))
        have K20 := hid (blk_alloc J2.out (.cells #[.slice none 0 0, .slice none 0 0] 38))
        have KI0 := hid (blk_alloc JI.out (.cells #[.slice none 0 0, .slice none 0 0] 38))
        have KM0 := hid (OwnF.below JM.out ((Below.refl _ _).alloc (Nat.le_refl _) (.cells #[.slice none 0 0, .slice none 0 0] 38)))
        have KG0 := hid (blk_new wr (.cells #[.slice none 0 0, .slice none 0 0] 38))
        rw [← hgo] at KG0
        have hs3 : (wr.alloc (.cells #[.slice none 0 0, .slice none 0 0] 38)).heap.size = go + 1 := by rw [hgo]; simp
        clear jb
        go_wp2_with fail
        rw [← HGO.out]
        clear hgo x0 x1 xf y0 y1 yf z0 zf
        go_loopw [64] (fun i W => ∃ (j : Nat) (cv : Value), j ≤ h.cells.length ∧ i = .int .i64 (j : Int) ∧ (Below w.heap.size w W ∧ W.heap[w.heap.size]? = some (.cells #[.slice va h.cells.length cap, .slice vb h.trail.length tap] 38 (0, 0)) ∧ W.heap[w.heap.size + 1]? = some (.cells #[.slice none 0 0, .slice none 0 0] 38 (0, 0)) ∧ W.heap[gi]? = some (.cells #[.slice ma h.cells.length mc] 55 (0, 0)) ∧ OwnB W (w.heap.size + 2) m (.slice ma h.cells.length mc)) ∧ W.heap[go]? = some (.cells #[cv, .slice none 0 0] 38 (0, 0)) ∧ OwnC W (go + 1) (colC h.cells m j) cv ∧ go + 1 ≤ W.heap.size) (fun i _ => h.cells.length - (intOf i).toNat)
        case atStart => exact ⟨0, _, Nat.zero_le _, rfl, ⟨KB0.out, K10.out, K20.out, KI0.out, KM0.out⟩, KG0.out, OwnF.nil, by omega⟩
        case round =>
          obtain ⟨j, cv, hj, rfl, ⟨jb, j1, j2, ji, jm⟩, jg, jo, jz⟩ := hrel
          have KB := hid jb
          have K1 := hid j1
          have K2 := hid j2
          have KI := hid ji
          have KM := hid jm
          have KG := hid jg
          have hzr0 := blk_lt j1
          have hzr1 := blk_lt j2
          have hzri := blk_lt ji
          have hzrg := blk_lt jg
          obtain ⟨ya, yc, rfl, hyl, hym⟩ := OwnF.val jo
          rw [colC_len] at hyl jo jg KG
          have KO := hid jo
          obtain ⟨x0, x1, xf⟩ := box2 j1
          obtain ⟨g0, g1, gf⟩ := box2 jg
          obtain ⟨z0, zf⟩ := box1 ji
          have hcntj := cnt_le m j
          by_cases hlt : j < h.cells.length
          · obtain ⟨rfl, hAb⟩ := HCA.out (by omega)
            obtain ⟨c0, c1, c2, i0, i1, i2⟩ := ce_cells HCE.out hAb (Keeps.of_below jb) hlt
            have hok := HG.out.1 j hlt
            obtain ⟨c, hc⟩ : ∃ c : Ce, c = h.cells[j]'hlt := ⟨_, rfl⟩
            rw [← hc] at c0 c1 c2 i0 i1 i2 hok
            have HCA' := hid (show cellAt h.cells (j : Int) = c by rw [hc]; exact cellAt_nat hlt)
            have HOKC := hid (show c.Ok from ⟨i0, i1, i2⟩)
            obtain ⟨gb, gcap, e, -, -, -, hgb, -, hgbl, -, hcell⟩ := OwnF.at boolV_len jm (by omega)
            simp only [Value.slice.injEq] at e
            obtain ⟨rfl, -, rfl⟩ := e
            have hjm : j < m.length := by omega
            have b0 : wr.cell? ⟨gb, j, none⟩ = some (.bool m[j]) := by simpa using hcell j hjm 0 _ rfl
            have hcbl : cb < wr.heap.size := World.block_lt_of_cell? wr _ c0
            have hlt' : (j : Int) < (h.cells.length : Int) := by omega
            have hj0 : (0 : Int) ≤ (j : Int) := Int.natCast_nonneg _
            have hmg : m[j]? = some m[j] := List.getElem?_eq_getElem hjm
            cases hmj : m[j] with
            | false =>
              rw [hmj] at b0 hmg
              have HCOL := hid (show colC h.cells m (j + 1) = colC h.cells m j by rw [colC, if_neg (by rw [hmg]; simp)])
              have KM2 := hid (OwnF.below KM.out ((Below.refl _ _).alloc (Nat.le_refl _) (.cells #[.int .i64 c.kind, .int .i64 c.n, .string c.s] 73)))
              have KO2 := hid (OwnF.below KO.out ((Below.refl _ _).alloc (Nat.le_refl _) (.cells #[.int .i64 c.kind, .int .i64 c.n, .string c.s] 73)))
              clear jb j1 j2 ji jm jg jo hcell hgb hok hmg i0 i1 i2 hc
              go_wp2_with fail
              go_roundw
              case rel => exact ⟨j + 1, _, by omega, by go_num, ⟨KB.out.alloc KB.out.size _, blk_alloc K1.out _, blk_alloc K2.out _, blk_alloc KI.out _, KM2.out⟩, blk_alloc KG.out _, (by rw [HCOL.out]; exact KO2.out), by simp; omega⟩
              case measure => first | (simp [intOf]; done) | (simp [intOf]; omega)
            | true =>
              rw [hmj] at b0 hmg
              have HCOL := hid (show colC h.cells m (j + 1) = colC h.cells m j ++ [adj m c] by rw [colC, if_pos hmg, HCA'.out])
              have HOR := hid (OwnF.ownR Ce.vals_len (OwnF.below (OwnF.below KO.out ((Below.refl _ _).alloc (Nat.le_refl _) (.cells #[.int .i64 (adj m c).kind, .int .i64 (adj m c).n, .string c.s] 73))) (Below.refl _ _)) (fun _ => True))
              clear jb j1 j2 ji jm jo hcell hgb hmg i0 i1 i2 hc
              by_cases hk : c.kind = 0
              · have hn : ∃ n : Nat, c.n = (n : Int) ∧ n < h.cells.length := by
                  unfold Ce.OkAt at hok
                  obtain ⟨n, hn⟩ := Int.eq_ofNat_of_zero_le (show 0 ≤ c.n by omega)
                  exact ⟨n, hn, by omega⟩
                obtain ⟨n, hn, hnl⟩ := hn
                have hadj : adj m c = ⟨0, (cnt m n : Int), c.s⟩ := by rw [adj, if_pos hk, hn, ahead, Int.toNat_natCast, hk]
                have hcn := cnt_le m n
                have HADJ := hid (show Ce.rep (fun b => True ∧ ownB (.slice ya (cnt m j) yc) ≠ some b) (wr.alloc (.cells #[.int .i64 (adj m c).kind, .int .i64 (adj m c).n, .string c.s] 73)) (adj m c) [.int .i64 (0 : Int), .int .i64 (cnt m n : Int), .string c.s] from by
                  rw [hadj]
                  exact ⟨⟨by unfold I64; simp only; omega, by unfold I64; simp only; omega, HOKC.out.2.2⟩, rfl⟩)
                rw [hadj] at HOR HADJ
                simp only at HOR HADJ
                rw [hk] at c0
                rw [hn] at c1
                have HHAD := hid hadj
                clear jg hok hk hn
                go_wp2_with fail
                refine (ahead_calls m hml' (w.heap.size + 2) gi _ _ (blk_alloc KI.out _) (OwnF.below KM.out ((Below.refl _ _).alloc (Nat.le_refl _) _)) (n : Int) (by unfold I64; omega)).mono ?_
                rintro e w9 ⟨rfl, rfl⟩
                rw [show ahead m (n : Int) = (cnt m n : Int) by rw [ahead, Int.toNat_natCast]]
                go_wp2_with (at_builtin; go_must (refine wpList_app1 rfl (.tmp 82) (.tmp 84) 35 rfl (go + 1) 73 3 32 tyCells Ce.rep_lasts (A := fun _ => True) (.slice ya (cnt m j) yc) (colC h.cells m j) rfl HOR.out (⟨0, (cnt m n : Int), c.s⟩) [.int .i64 (0), .int .i64 (cnt m n : Int), .string c.s] (by simp only [World.size_alloc]; rfl) rfl HADJ.out ⟨by rw [colC_len]; omega, by simp; omega⟩ ?_); go_must (intro v2 w4 hown2 hgrew; have hno : (∀ b, b < go + 1 → ownB (.slice ya (cnt m j) yc) ≠ some b) := (fun b hb e => by have := (KO.out.lt b e).1; omega); have hka := ((Keeps.alloc (fun b => ownB (.slice ya (cnt m j) yc) ≠ some b) _ _).trans (Keeps.alloc _ _ _)).trans (hgrew.keeps (A := fun b => ownB (.slice ya (cnt m j) yc) ≠ some b) (fun _ h => h)); have HO4 := hid (OwnF.of_ownR hown2); have hz4 := hgrew.size; simp only [World.size_alloc] at hz4; have L1 := hid (blk_keeps K1.out hka (hno _ (by omega))); have L2 := hid (blk_keeps K2.out hka (hno _ (by omega))); have LI := hid (blk_keeps KI.out hka (hno _ (by omega))); have LM := hid (OwnF.kept KM.out (w' := w4) (fun b hb => hka.block b (KM.out.lt b hb).2 (hno b (by have := HMA.out b hb; omega)))); have LG := hid (blk_keeps KG.out hka (hno _ (by omega))); have LB := hid (hgrew.below ((KB.out.alloc (by have := KB.out.size; omega) _).alloc (by have := KB.out.size; simp; omega) _) (by simp; omega) (fun b hb => by have := (KO.out.lt b hb).1; omega)); obtain ⟨g0, g1, gf⟩ := box2 LG.out; have hgl := blk_lt LG.out; obtain ⟨va4, vc4, hv4, -, -⟩ := OwnF.val HO4.out; rw [List.length_append, colC_len, List.length_singleton] at hv4; subst hv4; clear hgrew hown2 hka))
                have hgne : ∀ b, ownB (.slice va4 (cnt m j + 1) vc4) = some b → b ≠ go := fun b hb e => by have := (HO4.out.lt b hb).1; omega
                go_roundw
                case rel =>
                  refine ⟨j + 1, _, by omega, by go_num, ⟨LB.out.setCell (by simp only; omega) _, ?_, ?_, ?_, ?_⟩, (blk_set LG.out 0 _).trans rfl, ?_, by simp; omega⟩
                  · rw [Below.heap_setCell _ _ _ _ (by simp only; omega)]; exact L1.out
                  · rw [Below.heap_setCell _ _ _ _ (by simp only; omega)]; exact L2.out
                  · rw [Below.heap_setCell _ _ _ _ (by simp only; omega)]; exact LI.out
                  · exact OwnF.kept LM.out (fun b hb => Below.heap_setCell _ _ _ _ (fun e => by have := HMA.out b hb; simp only at e; omega))
                  · rw [HCOL.out, HHAD.out]
                    exact OwnF.kept HO4.out (fun b hb => Below.heap_setCell _ ⟨go, 0, none⟩ _ _ (hgne b hb))
                case measure => first | (simp [intOf]; done) | (simp [intOf]; omega)
              · have hadj : adj m c = c := by rw [adj, if_neg hk]
                have hk' : (c.kind == 0) = false := by simpa using hk
                have HADJ := hid (show Ce.rep (fun b => True ∧ ownB (.slice ya (cnt m j) yc) ≠ some b) (wr.alloc (.cells #[.int .i64 (adj m c).kind, .int .i64 (adj m c).n, .string c.s] 73)) c [.int .i64 c.kind, .int .i64 c.n, .string c.s] from ⟨HOKC.out, rfl⟩)
                rw [hadj] at HOR HADJ
                have HHAD := hid hadj
                clear jg hok hk
                go_wp2_with (at_builtin; go_must (refine wpList_app1 rfl (.tmp 82) (.tmp 84) 35 rfl (go + 1) 73 3 32 tyCells Ce.rep_lasts (A := fun _ => True) (.slice ya (cnt m j) yc) (colC h.cells m j) rfl HOR.out (c) [.int .i64 c.kind, .int .i64 c.n, .string c.s] (by simp only [World.size_alloc]; rfl) rfl HADJ.out ⟨by rw [colC_len]; omega, by simp; omega⟩ ?_); go_must (intro v2 w4 hown2 hgrew; have hno : (∀ b, b < go + 1 → ownB (.slice ya (cnt m j) yc) ≠ some b) := (fun b hb e => by have := (KO.out.lt b e).1; omega); have hka := ((Keeps.alloc (fun b => ownB (.slice ya (cnt m j) yc) ≠ some b) _ _).trans (Keeps.alloc _ _ _)).trans (hgrew.keeps (A := fun b => ownB (.slice ya (cnt m j) yc) ≠ some b) (fun _ h => h)); have HO4 := hid (OwnF.of_ownR hown2); have hz4 := hgrew.size; simp only [World.size_alloc] at hz4; have L1 := hid (blk_keeps K1.out hka (hno _ (by omega))); have L2 := hid (blk_keeps K2.out hka (hno _ (by omega))); have LI := hid (blk_keeps KI.out hka (hno _ (by omega))); have LM := hid (OwnF.kept KM.out (w' := w4) (fun b hb => hka.block b (KM.out.lt b hb).2 (hno b (by have := HMA.out b hb; omega)))); have LG := hid (blk_keeps KG.out hka (hno _ (by omega))); have LB := hid (hgrew.below ((KB.out.alloc (by have := KB.out.size; omega) _).alloc (by have := KB.out.size; simp; omega) _) (by simp; omega) (fun b hb => by have := (KO.out.lt b hb).1; omega)); obtain ⟨g0, g1, gf⟩ := box2 LG.out; have hgl := blk_lt LG.out; obtain ⟨va4, vc4, hv4, -, -⟩ := OwnF.val HO4.out; rw [List.length_append, colC_len, List.length_singleton] at hv4; subst hv4; clear hgrew hown2 hka))
                have hgne : ∀ b, ownB (.slice va4 (cnt m j + 1) vc4) = some b → b ≠ go := fun b hb e => by have := (HO4.out.lt b hb).1; omega
                go_roundw
                case rel =>
                  refine ⟨j + 1, _, by omega, by go_num, ⟨LB.out.setCell (by simp only; omega) _, ?_, ?_, ?_, ?_⟩, (blk_set LG.out 0 _).trans rfl, ?_, by simp; omega⟩
                  · rw [Below.heap_setCell _ _ _ _ (by simp only; omega)]; exact L1.out
                  · rw [Below.heap_setCell _ _ _ _ (by simp only; omega)]; exact L2.out
                  · rw [Below.heap_setCell _ _ _ _ (by simp only; omega)]; exact LI.out
                  · exact OwnF.kept LM.out (fun b hb => Below.heap_setCell _ _ _ _ (fun e => by have := HMA.out b hb; simp only at e; omega))
                  · rw [HCOL.out, HHAD.out]
                    exact OwnF.kept HO4.out (fun b hb => Below.heap_setCell _ ⟨go, 0, none⟩ _ _ (hgne b hb))
                case measure => first | (simp [intOf]; done) | (simp [intOf]; omega)
          · have hje : j = h.cells.length := by omega
            subst hje
            obtain ⟨w3, hw3⟩ : ∃ x, x = wr := ⟨_, rfl⟩
            subst hw3
            have hlt' : ¬ ((h.cells.length : Int) < (h.cells.length : Int)) := by omega
            clear jb j1 j2 ji jm jg jo hlt
            go_wp2_with fail
            clear x0 x1 xf g0 g1 gf z0 zf
            go_loopw [92] (fun i W => ∃ (j : Nat) (tv : Value), j ≤ h.trail.length ∧ i = .int .i64 (j : Int) ∧ Ch (fun b => b = go) w3 W ∧ W.heap[go]? = some (.cells #[.slice ya (cnt m h.cells.length) yc, tv] 38 (0, 0)) ∧ OwnN W w3.heap.size (colT m h.trail j) tv) (fun i _ => h.trail.length - (intOf i).toNat)
            case atStart => exact ⟨0, _, Nat.zero_le _, rfl, Ch.refl _ _, KG.out, OwnF.nil⟩
            case round =>
              obtain ⟨j, tv, hj, rfl, jc, jg, jn⟩ := hrel
              have JC := hid jc
              have JG := hid jg
              have hzs := jc.size
              obtain ⟨za, zc, rfl, hzl, hzm⟩ := OwnF.val jn
              rw [colT_len] at hzl jn jg JG
              have JN := hid jn
              have JB := hid ((Ch.trans (Ch.of_below (M := fun b => b = go) KB.out) jc (fun _ h => .inl h)).below (fun k hk e => by omega))
              have J1 := hid ((jc.block w.heap.size hzr0 (by omega)).trans K1.out)
              have JI := hid ((jc.block gi hzri (by omega)).trans KI.out)
              have JM := hid (OwnF.kept KM.out (fun b hb => jc.block b (KM.out.lt b hb).2 (by have := HMA.out b hb; omega)))
              have hjr0 := blk_lt J1.out
              have hjri := blk_lt JI.out
              have hjrg := blk_lt jg
              obtain ⟨x0, x1, xf⟩ := box2 J1.out
              obtain ⟨g0, g1, gf⟩ := box2 jg
              obtain ⟨z0, zf⟩ := box1 JI.out
              have hcntj := cnt_le (trailM m h.trail) j
              by_cases hlt : j < h.trail.length
              · obtain ⟨rfl, hAt⟩ := HTA.out (by omega)
                obtain ⟨c0, ci⟩ := num_cell HTE.out hAt (Keeps.of_below JB.out) hlt
                obtain ⟨v, hv, hvl, hvk⟩ := HG.out.2.1 j hlt
                have hvm : v < m.length := by omega
                have HTM := hid (show (trailM m h.trail)[j]? = some m[v] by
                  rw [trailM, List.getElem?_map, List.getElem?_eq_getElem hlt, hv]
                  simp [List.getElem?_eq_getElem hvm])
                have HGT := hid (show ((h.trail[j]?).getD 0) = (v : Int) by rw [List.getElem?_eq_getElem hlt]; exact hv)
                rw [hv] at c0
                obtain ⟨gb, gcap, e, -, -, -, hgb, -, hgbl, -, hcell⟩ := OwnF.at boolV_len JM.out (by omega)
                simp only [Value.slice.injEq] at e
                obtain ⟨rfl, -, rfl⟩ := e
                have b0 : wr.cell? ⟨gb, v, none⟩ = some (.bool m[v]) := by simpa using hcell v hvm 0 _ rfl
                have hcv := cnt_le m v
                have hlt' : (j : Int) < (h.trail.length : Int) := by omega
                have hj0 : (0 : Int) ≤ (j : Int) := Int.natCast_nonneg _
                have hv0 : (0 : Int) ≤ (v : Int) := Int.natCast_nonneg _
                have hv1 : (v : Int) < (h.cells.length : Int) := by omega
                clear hcell hgb hv
                cases hmv : m[v] with
                | false =>
                  rw [hmv] at b0 HTM
                  have HCL := hid (show colT m h.trail (j + 1) = colT m h.trail j by rw [colT, if_neg (by rw [HTM.out]; simp)])
                  clear jc jg jn
                  go_wp2_with fail
                  go_roundw
                  case rel => exact ⟨j + 1, _, by omega, by go_num, JC.out, JG.out, (by rw [HCL.out]; exact JN.out)⟩
                  case measure => first | (simp [intOf]; done) | (simp [intOf]; omega)
                | true =>
                  rw [hmv] at b0 HTM
                  have HCL := hid (show colT m h.trail (j + 1) = colT m h.trail j ++ [(cnt m v : Int)] by rw [colT, if_pos HTM.out, HGT.out, ahead, Int.toNat_natCast])
                  have hW1 : wr.drew.cell? ⟨go, 1, none⟩ = some (.slice za (cnt (trailM m h.trail) j) zc) := (Keeps.drew (fun _ => True) wr).cell trivial g1
                  have HOR := hid (OwnF.ownR numV_len (OwnF.below JN.out (Below.refl _ _).drew) (fun _ => True))
                  clear jc jg jn
                  go_wp2_with fail
                  refine wp_region_F (F := fun k w' => k = 1 → w'.cell? ⟨go, 1, none⟩ = some (.slice za (cnt (trailM m h.trail) j) zc)) (by kernel_rfl) ?_
                  refine wpAnyF_take (i := 0) (v := ?_) rfl (by kernel_rfl) (by kernel_rfl) (by kernel_rfl) (fun _ _ _ h => h) (Or.inl ⟨by rfl, ?_⟩) (fun _ => hW1) ?_
                  rotate_left
                  · (intro w' hw; clear hw; go_simp <;> with_reducible rfl)
                  simp only [Act.put, List.setIfInBounds_toArray, List.set_cons_zero, List.set_cons_succ]
                  refine wpAnyF_take (i := 1) (v := ?_) rfl (by kernel_rfl) (by kernel_rfl) (by kernel_rfl) (fun _ _ _ h => h) (Or.inl ⟨by rfl, ?_⟩) (fun _ => hW1) ?_
                  rotate_left
                  · (intro w' hw; have q1 := hw rfl; go_simp <;> with_reducible rfl)
                  simp only [Act.put, List.setIfInBounds_toArray, List.set_cons_zero, List.set_cons_succ]
                  refine wpAnyF_take (i := 2) (v := ?_) rfl (by kernel_rfl) (by kernel_rfl) (by kernel_rfl) (fun _ _ _ h => h) (Or.inl ⟨by rfl, ?_⟩) (fun _ => hW1) ?_
                  rotate_left
                  · (intro w' hw; clear hw; go_simp <;> with_reducible rfl)
                  simp only [Act.put, List.setIfInBounds_toArray, List.set_cons_zero, List.set_cons_succ]
                  refine wpAnyF_take (i := 3) (v := ?_) rfl (by kernel_rfl) (by kernel_rfl) (by kernel_rfl) (fun _ _ _ h => h) (Or.inl ⟨by rfl, ?_⟩) (fun _ => hW1) ?_
                  rotate_left
                  · (intro w' hw; clear hw; go_simp <;> with_reducible rfl)
                  simp only [Act.put, List.setIfInBounds_toArray, List.set_cons_zero, List.set_cons_succ]
                  refine wpAnyF_one (i := 4) (by kernel_rfl) (wpOp_run rfl (by rfl) ?_)
                  go_simp
                  refine (ahead_calls m hml' (w.heap.size + 2) gi _ _ (blk_below JI.out (Below.refl _ _).drew) (OwnF.below JM.out (Below.refl _ _).drew) (v : Int) (by unfold I64; omega)).mono ?_
                  rintro e w9 ⟨rfl, rfl⟩
                  rw [show ahead m (v : Int) = (cnt m v : Int) by rw [ahead, Int.toNat_natCast]]
                  refine ⟨fun _ _ h => h, ?_⟩
                  refine wpAnyF_one (i := 5) (by kernel_rfl) (wpOp_run rfl (by rfl) ?_)
                  go_simp
                  refine ⟨fun k hk hF hk1 => (Keeps.alloc (fun _ => True) wr.drew _).cell trivial (hF hk1), ?_⟩
                  refine wpAnyF_one (i := 6) (by kernel_rfl) (wpOp_run rfl (by rfl) ?_)
                  refine wp_app1 (.tmp 101) (.tmp 105) 36 rfl w3.heap.size 3 1 8 tyNums numR_lasts (.slice za (cnt (trailM m h.trail) j) zc) (colT m h.trail j) rfl HOR.out (cnt m v : Int) [(.int .i64 (cnt m v : Int))] rfl rfl ⟨by unfold I64; omega, rfl⟩ ⟨by rw [colT_len]; omega, by first | omega | (simp only [World.size_drew]; omega)⟩ ?_
                  intro v2 w4 hown2 hgrew
                  have HC4 := hid (hgrew.ch (JC.out.drew.alloc (.cells #[.int .i64 (cnt m v : Int)] 3)) (fun b hb => .inr (JN.out.lt b hb).1))
                  have HO4 := hid (OwnF.of_ownR hown2)
                  have hno : ownB (.slice za (cnt (trailM m h.trail) j) zc) ≠ some go := fun e => by have := (JN.out.lt _ e).1; omega
                  have hka := ((Keeps.drew (fun b => ownB (.slice za (cnt (trailM m h.trail) j) zc) ≠ some b) wr).trans (Keeps.alloc _ _ _)).trans (hgrew.keeps (A := fun b => ownB (.slice za (cnt (trailM m h.trail) j) zc) ≠ some b) (fun _ h => h))
                  have HG4 := hid (blk_keeps JG.out hka hno)
                  have hgl4 := blk_lt HG4.out
                  have hkc := (hgrew.keeps (A := fun b => ownB (.slice za (cnt (trailM m h.trail) j) zc) ≠ some b) (fun _ h => h))
                  obtain ⟨va2, vc2, hv2, -, -⟩ := OwnF.val HO4.out
                  rw [List.length_append, colT_len, List.length_singleton] at hv2
                  subst hv2
                  obtain ⟨y0', y1', yf'⟩ := box2 HG4.out
                  refine ⟨fun k hk hF hk1 => hkc.cell hno (hF hk1), ?_⟩
                  clear hown2 hgrew hka hkc
                  simp only [Act.put, List.setIfInBounds_toArray, List.set_cons_zero, List.set_cons_succ]
                  refine wpAnyF_one (i := 7) (by kernel_rfl) (wpOp_run rfl (by rfl) ?_)
                  go_simp
                  refine ⟨fun _ _ h => h, ?_⟩
                  refine wpAnyF_one (i := 8) (by kernel_rfl) (wpOp_run rfl (by rfl) ?_)
                  go_simp
                  refine ⟨fun k hk _ h1 => ?_, wpAnyF_done (by kernel_rfl) ?_ _⟩
                  · subst h1
                    exact absurd (show waits _ 8 1 = true by kernel_rfl) (by rw [hk]; decide)
                  go_wp2_with fail
                  go_roundw
                  case rel =>
                    refine ⟨j + 1, _, by omega, by go_num, HC4.out.setCell (p := ⟨go, 1, none⟩) (.inl rfl) _, (blk_set HG4.out 1 _).trans rfl, ?_⟩
                    rw [HCL.out]
                    exact OwnF.kept HO4.out (fun b hb => Below.heap_setCell _ ⟨go, 1, none⟩ _ _ (fun e => by have := (HO4.out.lt b hb).1; simp only at e; omega))
                  case measure => first | (simp [intOf]; done) | (simp [intOf]; omega)
              · have hje : j = h.trail.length := by omega
                subst hje
                have J2 := hid ((jc.block (w.heap.size + 1) hzr1 (by omega)).trans K2.out)
                have JO := hid (OwnF.kept KO.out (fun b hb => jc.block b (KO.out.lt b hb).2 (fun e => by have := (KO.out.lt b hb).1; omega)))
                obtain ⟨w4, hw4⟩ : ∃ x, x = wr := ⟨_, rfl⟩
                subst hw4
                have hlt' : ¬ ((h.trail.length : Int) < (h.trail.length : Int)) := by omega
                clear jc jg jn hlt
                go_wp2_with fail
                clear x0 x1 xf g0 g1 gf z0 zf
                have HTI := hid (show ∀ j (hj : j < h.trail.length), ∃ v : Nat, h.trail[j] = (v : Int) ∧ v < m.length from fun j hj => by
                  obtain ⟨v, hv, hvl, -⟩ := HG.out.2.1 j hj
                  exact ⟨v, hv, by omega⟩)
                go_loopw [111, 24] (fun i x W => ∃ j : Nat, j ≤ roots.length ∧ i = .int .i64 (j : Int) ∧ Below w4.heap.size w4 W ∧ OwnN W w4.heap.size ((roots.take j).map (ahead m)) x) (fun i _ _ => roots.length - (intOf i).toNat)
                case atStart => exact ⟨0, Nat.zero_le _, rfl, Below.refl _ _, by rw [List.take_zero]; exact OwnF.nil⟩
                case round =>
                  obtain ⟨j, hj, rfl, hb, hown⟩ := hrel
                  have HB1 := hid hb
                  have HO1 := hid hown
                  have hzr1 := hb.size
                  obtain ⟨xa1, xc1, rfl, hxl, hxm⟩ := OwnF.val hown
                  have hxlen : ((roots.take j).map (ahead m)).length = j := by simp; omega
                  rw [hxlen] at HO1 hxl ⊢
                  have MB := hid (JB.out.trans (hb.mono JB.out.size))
                  have MI := hid (blk_below JI.out hb)
                  have MM := hid (OwnF.below JM.out hb)
                  have MX := hid (blk_below J1.out hb)
                  by_cases hlt : j < roots.length
                  · obtain ⟨rfl, hAr⟩ := R1A.out (by omega)
                    obtain ⟨c0, ci⟩ := num_cell R1E.out hAr (Keeps.of_below MB.out) hlt
                    have hlt' : (j : Int) < (roots.length : Int) := by omega
                    have HLT := hid hlt
                    obtain ⟨q, hq⟩ : ∃ q : Int, q = roots[j]'hlt := ⟨_, rfl⟩
                    rw [← hq] at c0 ci
                    have HQ := hid hq
                    have CI := hid ci
                    clear hb hown hq ci
                    go_wp2_with fail
                    refine (ahead_calls m hml' (w.heap.size + 2) gi _ _ MI.out MM.out q CI.out).mono ?_
                    rintro e w9 ⟨rfl, rfl⟩
                    have HOR := hid (OwnF.ownR numV_len HO1.out (fun _ => True))
                    have HB9 := HB1
                    have hzr9 := hzr1
                    have HAI := hid (ahead_i64 (m) (by omega) q)
                    go_wp2_with (at_builtin; go_must (refine wpList_app1 rfl (.tmp 115) (.tmp 119) 36 rfl w4.heap.size 3 1 8 tyNums numR_lasts (A := fun _ => True) (.slice xa1 j xc1) ((roots.take j).map (ahead m)) rfl HOR.out (ahead m q) [.int .i64 (ahead m q)] rfl rfl ⟨HAI.out, rfl⟩ ⟨by simp; omega, hzr9⟩ ?_); go_must (intro v2 w2 hown2 hgrew))
                    have HOw := hid (OwnF.of_ownR hown2)
                    have HGw := hid hgrew
                    clear hown2 hgrew
                    go_roundw
                    case rel =>
                      refine ⟨j + 1, by omega, by go_num, HGw.out.below (HB9.out.alloc (by omega) _) (by simp; omega) (fun k hk => (HO1.out.lt k hk).1), ?_⟩
                      rw [List.take_succ_eq_append_getElem HLT.out, List.map_append, List.map_singleton, ← HQ.out]
                      exact HOw.out
                    case measure => first | (simp [intOf]; done) | (simp [intOf]; omega)
                  · have hje : j = roots.length := by omega
                    subst hje
                    have hlt' : ¬ ((roots.length : Int) < (roots.length : Int)) := by omega
                    rw [List.take_length] at HO1
                    obtain ⟨w5, hw5⟩ : ∃ x, x = wr := ⟨_, rfl⟩
                    subst hw5
                    have J2 := hid (blk_below J2.out hb)
                    have JG := hid (blk_below JG.out hb)
                    have JO := hid (OwnF.below JO.out hb)
                    have JN := hid (OwnF.below JN.out hb)
                    have JB := MB
                    have JI := MI
                    have JM := MM
                    have J1 := MX
                    clear hb hown hlt
                    go_wp2_with fail
                    go_loopw [124, 25] (fun i x W => ∃ j : Nat, j ≤ tops.length ∧ i = .int .i64 (j : Int) ∧ Below w5.heap.size w5 W ∧ OwnN W w5.heap.size ((tops.take j).map (ahead m)) x) (fun i _ _ => tops.length - (intOf i).toNat)
                    case atStart => exact ⟨0, Nat.zero_le _, rfl, Below.refl _ _, by rw [List.take_zero]; exact OwnF.nil⟩
                    case round =>
                      obtain ⟨j, hj, rfl, hb, hown⟩ := hrel
                      have HB2 := hid hb
                      have HO2 := hid hown
                      have hzr2 := hb.size
                      obtain ⟨xa2, xc2, rfl, hxl, hxm⟩ := OwnF.val hown
                      have hxlen : ((tops.take j).map (ahead m)).length = j := by simp; omega
                      rw [hxlen] at HO2 hxl ⊢
                      have MB := hid (JB.out.trans (hb.mono JB.out.size))
                      have MI := hid (blk_below JI.out hb)
                      have MM := hid (OwnF.below JM.out hb)
                      have MX := hid (blk_below J1.out hb)
                      by_cases hlt : j < tops.length
                      · obtain ⟨rfl, hAr⟩ := R2A.out (by omega)
                        obtain ⟨c0, ci⟩ := num_cell R2E.out hAr (Keeps.of_below MB.out) hlt
                        have hlt' : (j : Int) < (tops.length : Int) := by omega
                        have HLT := hid hlt
                        obtain ⟨q, hq⟩ : ∃ q : Int, q = tops[j]'hlt := ⟨_, rfl⟩
                        rw [← hq] at c0 ci
                        have HQ := hid hq
                        have CI := hid ci
                        clear hb hown hq ci
                        go_wp2_with fail
                        refine (ahead_calls m hml' (w.heap.size + 2) gi _ _ MI.out MM.out q CI.out).mono ?_
                        rintro e w9 ⟨rfl, rfl⟩
                        have HOR := hid (OwnF.ownR numV_len HO2.out (fun _ => True))
                        have HB9 := HB2
                        have hzr9 := hzr2
                        have HAI := hid (ahead_i64 (m) (by omega) q)
                        go_wp2_with (at_builtin; go_must (refine wpList_app1 rfl (.tmp 128) (.tmp 132) 36 rfl w5.heap.size 3 1 8 tyNums numR_lasts (A := fun _ => True) (.slice xa2 j xc2) ((tops.take j).map (ahead m)) rfl HOR.out (ahead m q) [.int .i64 (ahead m q)] rfl rfl ⟨HAI.out, rfl⟩ ⟨by simp; omega, hzr9⟩ ?_); go_must (intro v2 w2 hown2 hgrew))
                        have HOw := hid (OwnF.of_ownR hown2)
                        have HGw := hid hgrew
                        clear hown2 hgrew
                        go_roundw
                        case rel =>
                          refine ⟨j + 1, by omega, by go_num, HGw.out.below (HB9.out.alloc (by omega) _) (by simp; omega) (fun k hk => (HO2.out.lt k hk).1), ?_⟩
                          rw [List.take_succ_eq_append_getElem HLT.out, List.map_append, List.map_singleton, ← HQ.out]
                          exact HOw.out
                        case measure => first | (simp [intOf]; done) | (simp [intOf]; omega)
                      · have hje : j = tops.length := by omega
                        subst hje
                        have hlt' : ¬ ((tops.length : Int) < (tops.length : Int)) := by omega
                        rw [List.take_length] at HO2
                        obtain ⟨w6, hw6⟩ : ∃ x, x = wr := ⟨_, rfl⟩
                        subst hw6
                        have J2 := hid (blk_below J2.out hb)
                        have JG := hid (blk_below JG.out hb)
                        have JO := hid (OwnF.below JO.out hb)
                        have JN := hid (OwnF.below JN.out hb)
                        have HO1 := hid (OwnF.below HO1.out hb)
                        have JB := MB
                        have JI := MI
                        have JM := MM
                        have J1 := MX
                        clear hb hown hlt
                        go_wp2_with fail
                        go_loopw [137, 26] (fun i x W => ∃ j : Nat, j ≤ mks.length ∧ i = .int .i64 (j : Int) ∧ Below w6.heap.size w6 W ∧ OwnN W w6.heap.size ((mks.take j).map (ahead (trailM m h.trail))) x) (fun i _ _ => mks.length - (intOf i).toNat)
                        case atStart => exact ⟨0, Nat.zero_le _, rfl, Below.refl _ _, by rw [List.take_zero]; exact OwnF.nil⟩
                        case round =>
                          obtain ⟨j, hj, rfl, hb, hown⟩ := hrel
                          have HB3 := hid hb
                          have HO3 := hid hown
                          have hzr3 := hb.size
                          obtain ⟨xa3, xc3, rfl, hxl, hxm⟩ := OwnF.val hown
                          have hxlen : ((mks.take j).map (ahead (trailM m h.trail))).length = j := by simp; omega
                          rw [hxlen] at HO3 hxl ⊢
                          have MB := hid (JB.out.trans (hb.mono JB.out.size))
                          have MI := hid (blk_below JI.out hb)
                          have MM := hid (OwnF.below JM.out hb)
                          have MX := hid (blk_below J1.out hb)
                          by_cases hlt : j < mks.length
                          · obtain ⟨rfl, hAr⟩ := R3A.out (by omega)
                            obtain ⟨c0, ci⟩ := num_cell R3E.out hAr (Keeps.of_below MB.out) hlt
                            have hlt' : (j : Int) < (mks.length : Int) := by omega
                            have HLT := hid hlt
                            obtain ⟨q, hq⟩ : ∃ q : Int, q = mks[j]'hlt := ⟨_, rfl⟩
                            rw [← hq] at c0 ci
                            have HQ := hid hq
                            have CI := hid ci
                            clear hb hown hq ci
                            go_wp2_with fail
                            refine (kept_calls m hml' (w.heap.size + 2) gi w.heap.size _ _ _ MI.out MM.out h.trail hL2 HTI.out A _ (SlR.keeps numR_lasts HTR.out (Keeps.of_below MB.out)) MX.out q CI.out).mono ?_
                            rintro e w9 ⟨v9, rfl, hb9, hv9⟩
                            obtain rfl : v9 = _ := hv9
                            have HOR := hid (OwnF.ownR numV_len (OwnF.below HO3.out hb9) (fun _ => True))
                            have HB9 := hid (HB3.out.trans (hb9.mono hzr3))
                            have hzr9 := HB9.out.size
                            clear hb9
                            have HAI := hid (ahead_i64 (trailM m h.trail) (by rw [trailM_len]; omega) q)
                            go_wp2_with (at_builtin; go_must (refine wpList_app1 rfl (.tmp 141) (.tmp 145) 36 rfl w6.heap.size 3 1 8 tyNums numR_lasts (A := fun _ => True) (.slice xa3 j xc3) ((mks.take j).map (ahead (trailM m h.trail))) rfl HOR.out (ahead (trailM m h.trail) q) [.int .i64 (ahead (trailM m h.trail) q)] rfl rfl ⟨HAI.out, rfl⟩ ⟨by simp; omega, hzr9⟩ ?_); go_must (intro v2 w2 hown2 hgrew))
                            have HOw := hid (OwnF.of_ownR hown2)
                            have HGw := hid hgrew
                            clear hown2 hgrew
                            go_roundw
                            case rel =>
                              refine ⟨j + 1, by omega, by go_num, HGw.out.below (HB9.out.alloc (by omega) _) (by simp; omega) (fun k hk => (HO3.out.lt k hk).1), ?_⟩
                              rw [List.take_succ_eq_append_getElem HLT.out, List.map_append, List.map_singleton, ← HQ.out]
                              exact HOw.out
                            case measure => first | (simp [intOf]; done) | (simp [intOf]; omega)
                          · have hje : j = mks.length := by omega
                            subst hje
                            have hlt' : ¬ ((mks.length : Int) < (mks.length : Int)) := by omega
                            rw [List.take_length] at HO3
                            obtain ⟨w7, hw7⟩ : ∃ x, x = wr := ⟨_, rfl⟩
                            subst hw7
                            have J2 := hid (blk_below J2.out hb)
                            have JG := hid (blk_below JG.out hb)
                            have JO := hid (OwnF.below JO.out hb)
                            have JN := hid (OwnF.below JN.out hb)
                            have HO1 := hid (OwnF.below HO1.out hb)
                            have HO2 := hid (OwnF.below HO2.out hb)
                            have JB := MB
                            have JI := MI
                            have JM := MM
                            have J1 := MX
                            clear hb hown hlt
                            obtain ⟨y0, y1, yf⟩ := box2 J2.out
                            obtain ⟨g0, g1, gf⟩ := box2 JG.out
                            have hyz := blk_lt J2.out
                            have hgz := blk_lt JG.out
                            go_wp2_with fail
                            have c0 : Ch (fun b => b = w.heap.size + 1) w7 w7 := Ch.refl _ _
                            have c1 : Ch (fun b => b = w.heap.size + 1) w7 (w7.setCell ⟨w.heap.size + 1, 0, none⟩ (.slice ya (cnt m h.cells.length) yc)) := c0.setCell (p := ⟨w.heap.size + 1, 0, none⟩) (.inl rfl) _
                            have HCH : Ch (fun b => b = w.heap.size + 1) w7 ((w7.setCell ⟨w.heap.size + 1, 0, none⟩ (.slice ya (cnt m h.cells.length) yc)).setCell ⟨w.heap.size + 1, 1, none⟩ (.slice za (cnt (trailM m h.trail) h.trail.length) zc)) := c1.setCell (p := ⟨w.heap.size + 1, 1, none⟩) (.inl rfl) _
                            refine bodyPost_ret (v := .tuple #[.agg #[.slice ya (cnt m h.cells.length) yc, .slice za (cnt (trailM m h.trail) h.trail.length) zc], .slice xa1 roots.length xc1, .slice xa2 tops.length xc2, .slice xa3 mks.length xc3, .int .i64 0]) (by simp [results, Try.results51, go_sem, hcs, y0, y1]) rfl ?_
                            have hbF := (Ch.trans (Ch.of_below (M := fun b => b = w.heap.size + 1) JB.out) HCH (fun _ h => .inl h)).below (fun k hk e => by omega)
                            rw [collectF, if_neg (not_not_intro HG.out), if_neg (not_not_intro HALL.out), ← HM.out]
                            have n0 : ∀ (B : Nat) (l : List Int) (v : Value), w.heap.size + 2 ≤ B → OwnN w7 B l v → OwnN ((w7.setCell ⟨w.heap.size + 1, 0, none⟩ (.slice ya (cnt m h.cells.length) yc)).setCell ⟨w.heap.size + 1, 1, none⟩ (.slice za (cnt (trailM m h.trail) h.trail.length) zc)) B l v := fun B l v hB ho => OwnF.kept ho (fun b hb => HCH.block b (ho.lt b hb).2 (fun e => by have := (ho.lt b hb).1; omega))
                            have n1 : ∀ (B : Nat) (l : List Int) (v : Value), w.heap.size + 2 ≤ B → OwnN w7 B l v → l.length ≤ 1048576 → NumsR (fun b => A b ∨ New w b) ((w7.setCell ⟨w.heap.size + 1, 0, none⟩ (.slice ya (cnt m h.cells.length) yc)).setCell ⟨w.heap.size + 1, 1, none⟩ (.slice za (cnt (trailM m h.trail) h.trail.length) zc)) l v := fun B l v hB ho hl =>
                              OwnF.sl numV_len numV_one (n0 B l v hB ho) hl (fun b hb => .inr (by have := (ho.lt b hb).1; unfold New; omega))
                            have hcl := cnt_le m h.cells.length
                            have hcl2 := cnt_le (trailM m h.trail) h.trail.length
                            refine Pure.mk hbF ⟨_, _, _, _, rfl, ⟨_, _, rfl, ?_, ?_⟩, n1 _ _ _ (by omega) HO1.out (by rw [List.length_map]; omega), n1 _ _ _ (by omega) HO2.out (by rw [List.length_map]; omega), n1 _ _ _ (by omega) HO3.out (by rw [List.length_map]; omega)⟩
                            · show CesR _ _ (colC h.cells (marks h.cells roots) h.cells.length) _
                              rw [← HM.out]
                              exact OwnF.sl Ce.vals_len Ce.vals_one (OwnF.kept JO.out (fun b hb => HCH.block b (JO.out.lt b hb).2 (fun e => by have := (JO.out.lt b hb).1; omega))) (by rw [colC_len]; omega) (fun b hb => .inr (by have := (JO.out.lt b hb).1; unfold New; omega))
                            · show NumsR _ _ (colT (marks h.cells roots) h.trail h.trail.length) _
                              rw [← HM.out]
                              exact n1 _ _ _ (by omega) JN.out (by rw [colT_len]; omega)





end Go.Proofs.Ytlpmfkpefoegeaa
