/-
  queristref.MarksOf: which cells are reached.
-/
import Derived.Test.YtlpmfkpefoegeaaQMarks
import Derived.Test.YtlpmfkpefoegeaaQIsHeapR
import Derived.Test.YtlpmfkpefoegeaaHFix
namespace Go.Proofs.Ytlpmfkpefoegeaa
set_option linter.unusedVariables false
set_option linter.unusedSimpArgs false
open Go.RowKit

/-- a truth value -/
def boolOf : Value → Bool
  | .bool b => b
  | _ => false

/-- a mark is set in memory -/
theorem OwnB.mark {w : World} {B g n cap : Nat} {m : List Bool} (h : OwnB w B m (.slice (some ⟨g, 0, none⟩) n cap)) {k : Nat} (hk : k < m.length) : OwnB (w.setCell ⟨g, k, none⟩ (.bool true)) B (m.set k true) (.slice (some ⟨g, 0, none⟩) n cap) ∧ (∀ o, w.frozen? ⟨g, o, none⟩ = false) ∧ ownB (.slice (some ⟨g, 0, none⟩) n cap) = some g ∧ B ≤ g ∧ g < w.heap.size := by
  obtain ⟨g', cap', e, h0, h1, h2, h3, h4, h5, h6, hc⟩ := OwnF.at boolV_len h (by omega)
  simp only [Value.slice.injEq, Option.some.injEq, Addr.mk.injEq, and_true] at e
  obtain ⟨rfl, rfl, rfl⟩ := e
  refine ⟨?_, h4, h3, h6, h5⟩
  have := OwnF.set (y := true) (u := .bool true) boolV_len h h3 (i := k) (j := 0) hk (by omega) rfl trivial
  simpa using this

set_option maxRecDepth 100000 in
set_option maxHeartbeats 2000000 in
theorem marksOf_ok (h : Hp) (roots : List Int) (A : Nat → Prop) (w : World) (vs : List Value) (v : Value) (hh : Hp.rep A w h vs) (hv : NumsR A w roots v) :
    Calls Try.prog 49 #[.agg vs.toArray, v] w (Pure w (MkPost w.heap.size (marksF h roots))) := by
  obtain ⟨va, cap, vb, tap, rfl, hc1, hc2, hc3, ht1, ht2, ht3, hc, ht⟩ := Hp.rep2 hh
  obtain ⟨_, _, cb, coff, e, -, -, -, hca, hce⟩ := hc.at
  simp only [Value.slice.injEq, true_and] at e
  obtain ⟨rfl, rfl⟩ := e
  obtain ⟨ra, rcap, rb, roff, rfl, hr1, hr2, hr3, hra, hre⟩ := hv.at
  have HH := hid hh
  have HRA := hid hra
  have HRE := hid hre
  have HCA := hid hca
  have HCE := hid hce
  have HG1 := hid (fun w' (hk : Keeps A w w') => isHeap_ok h A w' _ (Hp.rep.keeps hh hk))
  clear hh hv hca hce hc ht hra hre
  go_enter Try.func49, Try.ntmps49
  go_wp2_with fail
  refine (HG1.out _ (Keeps.alloc _ _ _)).mono ?_
  rintro e w1 ⟨v, rfl, hb1, t, rfl, ht⟩
  have HX1 := hid (blk_below (blk_new w (.cells #[.slice va h.cells.length cap, .slice vb h.trail.length tap] 38)) hb1)
  have HB := hid (show Below w.heap.size w w1 from below_pure (hb1.mono (by simp)))
  have hz' : w.heap.size < w1.heap.size := by have := hb1.size; simp at this; omega
  have HTT := hid ht
  have hcs := cell_set
  clear hb1 ht
  obtain ⟨x0, x1, xf⟩ := box2 HX1.out
  cases t with
  | false =>
    have hg : ¬ h.Good := fun hg => by have := HTT.out.2 hg; cases this
    go_wp2_with fail
    refine bodyPost_ret (v := .tuple #[.slice none 0 0, .int .i64 1]) (by simp [results, Try.results49, go_sem]) rfl ?_
    rw [marksF, if_neg hg]
    exact ⟨_, rfl, HB.out, _, rfl, OwnF.nil⟩
  | true =>
    have HG := hid (HTT.out.1 rfl)
    have hL1 : h.cells.length ≤ 65536 := HG.out.2.2.1
    clear HTT
    have hlen0 : (0 : Int) ≤ (h.cells.length : Int) := Int.natCast_nonneg _
    have qM : ∀ W : World, (Instr.makeSlice 55 (.int .i64 (h.cells.length : Int)) (.int .i64 (h.cells.length : Int))).run Try.prog W = .ok (.slice (some ⟨W.heap.size, 0, none⟩) h.cells.length h.cells.length) (W.alloc (.cells (Array.replicate h.cells.length (.bool false)) 4)) := fun W => make_one (bytes := 1) W Try.underlying55 (by kernel_rfl) rfl _ (by omega) (by omega)
    obtain ⟨gb, hgb⟩ : ∃ g, g = w1.heap.size := ⟨_, rfl⟩
    have HGB := hid hgb
    have HOB := hid (OwnB.fresh w1 h.cells.length (by simp [maxLen]; omega))
    have HB2 := hid (HB.out.alloc (by omega) (.cells (Array.replicate h.cells.length (.bool false)) 4))
    have HX2 := hid (blk_alloc HX1.out (.cells (Array.replicate h.cells.length (.bool false)) 4))
    have hs2 : (w1.alloc (.cells (Array.replicate h.cells.length (.bool false)) 4)).heap.size = gb + 1 := by rw [hgb]; simp
    rw [← hgb] at HOB
    go_wp2_with fail
    rw [← HGB.out]
    have hgbw : w.heap.size < gb := by omega
    clear hgb x0 x1 xf
    go_loopw [22] (fun i wr => ∃ (j : Nat) (m : List Bool), j ≤ roots.length ∧ i = .int .i64 (j : Int) ∧ FxSt h.cells roots m ∧ RtTo h.cells roots m j ∧ Below w.heap.size w wr ∧ wr.heap[w.heap.size]? = some (.cells #[.slice va h.cells.length cap, .slice vb h.trail.length tap] 38 (0, 0)) ∧ OwnB wr gb m (.slice (some ⟨gb, 0, none⟩) h.cells.length h.cells.length) ∧ gb + 1 ≤ wr.heap.size) (fun i _ => roots.length - (intOf i).toNat)
    case atStart => exact ⟨0, _, Nat.zero_le _, rfl, FxSt.start, fun q _ hq => absurd hq (Nat.not_lt_zero _), HB2.out, HX2.out, HOB.out, by omega⟩
    case round =>
      obtain ⟨j, m, hj, rfl, hfx, hrt, jb, j1, jm, jz⟩ := hrel
      have HFX := hid hfx
      have HRT := hid hrt
      have JB := hid jb
      have J1 := hid j1
      have JM := hid jm
      have hml := hfx.len
      by_cases hlt : j < roots.length
      · obtain ⟨rfl, hAr⟩ := HRA.out (by omega)
        obtain ⟨c0, ci⟩ := num_cell HRE.out hAr (Keeps.of_below jb) hlt
        have hlt' : (j : Int) < (roots.length : Int) := by omega
        obtain ⟨q, hq⟩ : ∃ q : Int, q = roots[j]'hlt := ⟨_, rfl⟩
        rw [← hq] at c0 ci
        have HLT := hid hlt
        have HQ := hid hq
        clear hq
        by_cases hq1 : 0 ≤ q ∧ q < (h.cells.length : Int)
        · obtain ⟨k1, k2⟩ := hq1
          obtain ⟨k, rfl⟩ := Int.eq_ofNat_of_zero_le k1
          have hkl : k < h.cells.length := by omega
          have hkm : k < m.length := by omega
          have b0 := OwnB.cells jm k hkm
          obtain ⟨om, bf, hob, hgb1, hgb2⟩ := OwnB.mark jm hkm
          have OM := hid om
          have hre := hid (Reach.root (l := h.cells) (roots := roots) (i := k) (by rw [HQ.out]; exact List.getElem_mem _) hkl)
          have HW1 := hid (Below.setCell JB.out (p := ⟨gb, k, none⟩) (by simp only; omega) (.bool true))
          clear hfx hrt jb j1 jm om hob
          go_wp2_with fail
          go_roundw
          case rel =>
            refine ⟨j + 1, m.set k true, by omega, by go_num, HFX.out.mark hkl hre.out, (HRT.out.mark hkm).next HLT.out (fun i e hi => ?_), HW1.out, ?_, OM.out, by simp; omega⟩
            · have : k = i := by rw [← HQ.out] at e; omega
              subst this
              exact (get_set hkm).2 (.inl rfl)
            · rw [Below.heap_setCell _ _ _ _ (by simp; omega)]; exact J1.out
          case measure => first | (simp [intOf]; done) | (simp [intOf]; omega)
        · have hq2 : q < 0 ∨ (h.cells.length : Int) ≤ q := by omega
          clear hq1 hfx hrt jb j1 jm
          rcases hq2 with hq2 | hq2
          all_goals
            have hq3 : ¬ (0 ≤ q ∧ q < (h.cells.length : Int)) := by omega
            go_wp2_with fail
            all_goals first
              | (exfalso; omega)
              | skip
            go_roundw
            case rel => exact ⟨j + 1, m, by omega, by go_num, HFX.out, HRT.out.next HLT.out (fun i e hi => by rw [← HQ.out] at e; omega), JB.out, J1.out, JM.out, jz⟩
            case measure => first | (simp [intOf]; done) | (simp [intOf]; omega)
      · have hje : j = roots.length := by omega
        subst hje
        have hlt' : ¬ ((roots.length : Int) < (roots.length : Int)) := by omega
        clear hfx hrt jb j1 jm hlt
        go_wp2_with fail
        go_loopw [9] (fun x9 wr => ∃ (m : List Bool) (mb : Bool), x9 = .bool mb ∧ FxSt h.cells roots m ∧ RtTo h.cells roots m roots.length ∧ (mb = false → ClTo h.cells m h.cells.length) ∧ Below w.heap.size w wr ∧ wr.heap[w.heap.size]? = some (.cells #[.slice va h.cells.length cap, .slice vb h.trail.length tap] 38 (0, 0)) ∧ OwnB wr gb m (.slice (some ⟨gb, 0, none⟩) h.cells.length h.cells.length) ∧ gb + 1 ≤ wr.heap.size) (fun x9 wr => 2 * unmW wr gb 0 h.cells.length + (if boolOf x9 then 1 else 0))
        case atStart => exact ⟨m, true, rfl, HFX.out, HRT.out, (fun e => by cases e), JB.out, J1.out, JM.out, jz⟩
        case round =>
          obtain ⟨m0, mb, rfl, hfx, hrt, hcl, jb, j1, jm, jz⟩ := hrel
          have HFX0 := hid hfx
          have HRT0 := hid hrt
          have HCL0 := hid hcl
          have JB0 := hid jb
          have J10 := hid j1
          have JM0 := hid jm
          have HU0 := hid (show unmW wr gb 0 h.cells.length = unm m0 by rw [← hfx.len]; exact unmW_eq m0 0 (fun i hi => by rw [Nat.zero_add]; exact OwnB.cells jm i hi))
          obtain ⟨x0, x1, xf⟩ := box2 j1
          have hzr0 := blk_lt j1
          clear hfx hrt hcl jb j1 jm
          cases mb with
          | false =>
            go_wp2_with fail
            refine bodyPost_ret (v := .tuple #[.slice (some ⟨gb, 0, none⟩) h.cells.length h.cells.length, .int .i64 0]) (by simp [results, Try.results49, go_sem]) rfl ?_
            rw [marksF, if_pos HG.out, ← HFX0.out.done HG.out.1 HRT0.out (HCL0.out (by first | rfl | trivial))]
            exact ⟨_, rfl, JB0.out, _, rfl, OwnF.rebase JM0.out (fun k hk => by have := (JM0.out.lt k hk).1; omega)⟩
          | true =>
            go_wp2_with fail
            clear x0 x1 xf
            go_loopw [42, 9] (fun i x9 wr => ∃ (j : Nat) (m : List Bool) (mb : Bool), j ≤ h.cells.length ∧ i = .int .i64 (j : Int) ∧ x9 = .bool mb ∧ FxSt h.cells roots m ∧ RtTo h.cells roots m roots.length ∧ (mb = false → ClTo h.cells m j ∧ unm m = unm m0) ∧ (mb = true → unm m < unm m0) ∧ Below w.heap.size w wr ∧ wr.heap[w.heap.size]? = some (.cells #[.slice va h.cells.length cap, .slice vb h.trail.length tap] 38 (0, 0)) ∧ OwnB wr gb m (.slice (some ⟨gb, 0, none⟩) h.cells.length h.cells.length) ∧ gb + 1 ≤ wr.heap.size) (fun i _ _ => h.cells.length - (intOf i).toNat)
            case atStart => exact ⟨0, m0, false, Nat.zero_le _, rfl, rfl, HFX0.out, HRT0.out, fun _ => ⟨fun i hi => absurd hi (Nat.not_lt_zero _), rfl⟩, (fun e => by cases e), JB0.out, J10.out, JM0.out, jz⟩
            case round =>
              obtain ⟨j, m, mb, hj, rfl, rfl, hfx, hrt, hcf, hct, jb, j1, jm, jz⟩ := hrel
              have HFX := hid hfx
              have HRT := hid hrt
              have HCF := hid hcf
              have HCT := hid hct
              have JB := hid jb
              have J1 := hid j1
              have JM := hid jm
              have hml := hfx.len
              obtain ⟨x0, x1, xf⟩ := box2 j1
              have hzr1 := blk_lt j1
              by_cases hlt : j < h.cells.length
              · obtain ⟨rfl, hAb⟩ := HCA.out (by omega)
                obtain ⟨c0, c1, c2, i0, i1, i2⟩ := ce_cells HCE.out hAb (Keeps.of_below jb) hlt
                have hok := HG.out.1 j hlt
                obtain ⟨c, hc⟩ : ∃ c : Ce, c = h.cells[j]'hlt := ⟨_, rfl⟩
                rw [← hc] at c0 c1 c2 hok
                have HCC := hid (show cellAt h.cells (j : Int) = c by rw [hc]; exact cellAt_nat hlt)
                have hcbl : cb < wr.heap.size := World.block_lt_of_cell? wr _ c0
                have hjm : j < m.length := by omega
                have b0 := OwnB.cells jm j hjm
                have hgb9 : gb < wr.heap.size := by omega
                have hlt' : (j : Int) < (h.cells.length : Int) := by omega
                have hj0 : (0 : Int) ≤ (j : Int) := Int.natCast_nonneg _
                have hmg : m[j]? = some m[j] := List.getElem?_eq_getElem hjm
                clear i0 i1 i2 hc hfx hrt hcf hct jb j1 jm
                cases hmj : m[j] with
                | false =>
                  rw [hmj] at b0 hmg
                  have HMG := hid hmg
                  have OM := hid (OwnF.below JM.out ((Below.refl _ _).alloc (Nat.le_refl _) (.cells #[.int .i64 c.kind, .int .i64 c.n, .string c.s] 73)))
                  clear hmg hok
                  go_wp2_with fail
                  go_roundw
                  case rel => exact ⟨j + 1, m, mb, by omega, by go_num, rfl, HFX.out, HRT.out, (fun e => ⟨(HCF.out e).1.next (fun hh => by rw [HMG.out] at hh; cases hh), (HCF.out e).2⟩), HCT.out, JB.out.alloc JB.out.size _, blk_alloc J1.out _, OM.out, by simp; omega⟩
                  case measure => first | (simp [intOf]; done) | (simp [intOf]; omega)
                | true =>
                  rw [hmj] at b0 hmg
                  have HMG := hid hmg
                  have HRJ := hid (HFX.out.sound j hmg)
                  clear hmg
                  have hok' := hok
                  unfold Ce.OkAt at hok
                  rcases hok with ⟨hk0, hn0, hnl, -⟩ | ⟨hk1, -, -⟩ | ⟨hk2, -⟩ | ⟨hk3, hn1, hn4, hnl, -⟩
                  · clear hok'
                    have hok : True := trivial
                    obtain ⟨n, hn⟩ := Int.eq_ofNat_of_zero_le hn0
                    have hnl' : n < h.cells.length := by omega
                    have hnm : n < m.length := by omega
                    rw [hk0] at c0
                    rw [hn] at c1
                    have HLN := hid (show ∀ (M : List Bool), M[n]? = some true → ∀ k, Leads h.cells j k → M[k]? = some true from fun M hM k hk => by
                      unfold Leads at hk
                      rw [HCC.out] at hk
                      have : k = n := by omega
                      rw [this]; exact hM)
                    have HLR := hid (show Leads h.cells j n from .inl (by rw [HCC.out]; exact ⟨hk0, hn⟩))
                    have b1 := OwnB.cells JM.out n hnm
                    obtain ⟨om, bf, hob, hgb1, hgb2⟩ := OwnB.mark JM.out hnm
                    have hn9 : (0 : Int) ≤ (n : Int) := Int.natCast_nonneg _
                    have hn8 : (n : Int) < (h.cells.length : Int) := by omega
                    have hgcb : ¬ gb = cb := by
                      have : cb < w.heap.size := World.block_lt_of_cell? w _ (ce_cells HCE.out hAb (Keeps.refl _ _) hlt).1
                      omega
                    cases hmn : m[n] with
                    | true =>
                      rw [hmn] at b1
                      have HMN := hid (show m[n]? = some true by rw [List.getElem?_eq_getElem hnm, hmn])
                      have OM := hid (OwnF.below JM.out ((Below.refl _ _).alloc (Nat.le_refl _) (.cells #[.int .i64 0, .int .i64 (n : Int), .string c.s] 73)))
                      have hs9 : (wr.alloc (.cells #[.int .i64 0, .int .i64 (n : Int), .string c.s] 73)).heap.size = wr.heap.size + 1 := by simp
                      clear hk0 hn0 hnl hok om hob hn
                      go_wp2_with fail
                      clear x0 x1 xf c0 c1 c2
                      go_loopw [12, 9] (fun x12 x9 wq => x12 = .int .i64 1 ∧ x9 = .bool mb ∧ wq = (wr.alloc (.cells #[.int .i64 0, .int .i64 (n : Int), .string c.s] 73))) (fun _ _ _ => 0)
                      case atStart => exact ⟨rfl, rfl, rfl⟩
                      case round =>
                        obtain ⟨rfl, rfl, rfl⟩ := hrel
                        go_wp2_with fail
                        go_roundw
                        case rel => exact ⟨j + 1, m, mb, by omega, by go_num, rfl, HFX.out, HRT.out, (fun e => ⟨(HCF.out e).1.next (fun _ => HLN.out m HMN.out), (HCF.out e).2⟩), HCT.out, JB.out.alloc JB.out.size _, blk_alloc J1.out _, OM.out, by simp; omega⟩
                        case measure => first | (simp [intOf]; done) | (simp [intOf]; omega)
                    | false =>
                      rw [hmn] at b1
                      have HMN := hid (show m[n]? = some false by rw [List.getElem?_eq_getElem hnm, hmn])
                      have OM := hid (OwnF.below om ((Below.refl _ _).alloc (Nat.le_refl _) (.cells #[.int .i64 0, .int .i64 (n : Int), .string c.s] 73)))
                      have HW1 := hid (Below.setCell JB.out (p := ⟨gb, n, none⟩) (by simp only; omega) (.bool true))
                      have HX1' := hid ((Below.heap_setCell wr ⟨gb, n, none⟩ (.bool true) w.heap.size (by simp only; omega)).trans J1.out)
                      have HUS := hid (unm_set m n HMN.out)
                      have HUL := hid (show unm m ≤ unm m0 by
                        cases mb with
                        | false => have := (HCF.out rfl).2; omega
                        | true => have := HCT.out rfl; omega)
                      have hs9 : ((wr.setCell ⟨gb, n, none⟩ (.bool true)).alloc (.cells #[.int .i64 0, .int .i64 (n : Int), .string c.s] 73)).heap.size = wr.heap.size + 1 := by simp
                      clear hk0 hn0 hnl hok om hob hn
                      go_wp2_with fail
                      clear x0 x1 xf c0 c1 c2
                      go_loopw [12, 9] (fun x12 x9 wq => x12 = .int .i64 1 ∧ x9 = .bool true ∧ wq = ((wr.setCell ⟨gb, n, none⟩ (.bool true)).alloc (.cells #[.int .i64 0, .int .i64 (n : Int), .string c.s] 73))) (fun _ _ _ => 0)
                      case atStart => exact ⟨rfl, rfl, rfl⟩
                      case round =>
                        obtain ⟨rfl, rfl, rfl⟩ := hrel
                        go_wp2_with fail
                        go_roundw
                        case rel => exact ⟨j + 1, m.set n true, true, by omega, by go_num, rfl, HFX.out.mark hnl' (.step HRJ.out HLR.out), HRT.out.mark hnm, (fun e => by cases e), (fun _ => by have := HUS.out; have := HUL.out; omega), HW1.out.alloc HW1.out.size _, blk_alloc HX1'.out _, OM.out, by simp; omega⟩
                        case measure => first | (simp [intOf]; done) | (simp [intOf]; omega)
                  · clear hok'
                    have hok : True := trivial
                    have HLD := hid (show ∀ k, Leads h.cells j k → m[k]? = some true from fun k hk => by unfold Leads at hk; rw [HCC.out] at hk; omega)
                    rw [hk1] at c0
                    have OM := hid (OwnF.below JM.out ((Below.refl _ _).alloc (Nat.le_refl _) (.cells #[.int .i64 1, .int .i64 c.n, .string c.s] 73)))
                    have hs9 : (wr.alloc (.cells #[.int .i64 1, .int .i64 c.n, .string c.s] 73)).heap.size = wr.heap.size + 1 := by simp
                    clear hk1 hok
                    go_wp2_with fail
                    clear x0 x1 xf c0 c1 c2
                    go_loopw [12, 9] (fun x12 x9 wq => x12 = .int .i64 1 ∧ x9 = .bool mb ∧ wq = (wr.alloc (.cells #[.int .i64 1, .int .i64 c.n, .string c.s] 73))) (fun _ _ _ => 0)
                    case atStart => exact ⟨rfl, rfl, rfl⟩
                    case round =>
                      obtain ⟨rfl, rfl, rfl⟩ := hrel
                      go_wp2_with fail
                      go_roundw
                      case rel => exact ⟨j + 1, m, mb, by omega, by go_num, rfl, HFX.out, HRT.out, (fun e => ⟨(HCF.out e).1.next (fun _ => HLD.out), (HCF.out e).2⟩), HCT.out, JB.out.alloc JB.out.size _, blk_alloc J1.out _, OM.out, by simp; omega⟩
                      case measure => first | (simp [intOf]; done) | (simp [intOf]; omega)
                  · clear hok'
                    have hok : True := trivial
                    have HLD := hid (show ∀ k, Leads h.cells j k → m[k]? = some true from fun k hk => by unfold Leads at hk; rw [HCC.out] at hk; omega)
                    rw [hk2] at c0
                    have OM := hid (OwnF.below JM.out ((Below.refl _ _).alloc (Nat.le_refl _) (.cells #[.int .i64 2, .int .i64 c.n, .string c.s] 73)))
                    have hs9 : (wr.alloc (.cells #[.int .i64 2, .int .i64 c.n, .string c.s] 73)).heap.size = wr.heap.size + 1 := by simp
                    clear hk2 hok
                    go_wp2_with fail
                    clear x0 x1 xf c0 c1 c2
                    go_loopw [12, 9] (fun x12 x9 wq => x12 = .int .i64 1 ∧ x9 = .bool mb ∧ wq = (wr.alloc (.cells #[.int .i64 2, .int .i64 c.n, .string c.s] 73))) (fun _ _ _ => 0)
                    case atStart => exact ⟨rfl, rfl, rfl⟩
                    case round =>
                      obtain ⟨rfl, rfl, rfl⟩ := hrel
                      go_wp2_with fail
                      go_roundw
                      case rel => exact ⟨j + 1, m, mb, by omega, by go_num, rfl, HFX.out, HRT.out, (fun e => ⟨(HCF.out e).1.next (fun _ => HLD.out), (HCF.out e).2⟩), HCT.out, JB.out.alloc JB.out.size _, blk_alloc J1.out _, OM.out, by simp; omega⟩
                      case measure => first | (simp [intOf]; done) | (simp [intOf]; omega)
                  · clear hok'
                    obtain ⟨nn, hnn⟩ := Int.eq_ofNat_of_zero_le (show 0 ≤ c.n by omega)
                    have HLD := hid (show ∀ q, Leads h.cells j q ↔ j < q ∧ q ≤ j + nn from fun q => by
                      unfold Leads
                      rw [HCC.out]
                      omega)
                    rw [hk3] at c0
                    rw [hnn] at c1 hn1 hn4 hnl
                    have hn4' : nn ≤ 4 := by omega
                    obtain ⟨gc, hgc⟩ : ∃ g, g = wr.heap.size := ⟨_, rfl⟩
                    have HGC := hid hgc
                    have OM := hid (OwnF.below JM.out ((Below.refl _ _).alloc (Nat.le_refl _) (.cells #[.int .i64 3, .int .i64 (nn : Int), .string c.s] 73)))
                    have HBX := hid (blk_new wr (.cells #[.int .i64 3, .int .i64 (nn : Int), .string c.s] 73))
                    rw [← hgc] at HBX
                    have KB := hid (JB.out.alloc JB.out.size (.cells #[.int .i64 3, .int .i64 (nn : Int), .string c.s] 73))
                    have K1 := hid (blk_alloc J1.out (.cells #[.int .i64 3, .int .i64 (nn : Int), .string c.s] 73))
                    have hs9 : (wr.alloc (.cells #[.int .i64 3, .int .i64 (nn : Int), .string c.s] 73)).heap.size = gc + 1 := by rw [hgc]; simp
                    have hgbc : gb + 1 ≤ gc := by omega
                    clear hk3 hnn
                    go_wp2_with fail
                    rw [← HGC.out]
                    clear hgc x0 x1 xf c0 c1 c2 b0
                    go_loopw [12, 9] (fun x12 x9 wq => ∃ (k : Nat) (M : List Bool) (mc : Bool), k ≤ nn ∧ x12 = .int .i64 ((k : Int) + 1) ∧ x9 = .bool mc ∧ FxSt h.cells roots M ∧ RtTo h.cells roots M roots.length ∧ (mc = false → ClTo h.cells M j ∧ unm M = unm m0) ∧ (mc = true → unm M < unm m0) ∧ M[j]? = some true ∧ (mc = false → ∀ d, 1 ≤ d → d ≤ k → M[j + d]? = some true) ∧ Below w.heap.size w wq ∧ wq.heap[w.heap.size]? = some (.cells #[.slice (some ⟨cb, coff, none⟩) h.cells.length cap, .slice vb h.trail.length tap] 38 (0, 0)) ∧ OwnB wq gb M (.slice (some ⟨gb, 0, none⟩) h.cells.length h.cells.length) ∧ wq.heap[gc]? = some (.cells #[.int .i64 3, .int .i64 (nn : Int), .string c.s] 73 (0, 0)) ∧ gc + 1 ≤ wq.heap.size) (fun x12 _ _ => nn + 1 - (intOf x12).toNat)
                    case atStart => exact ⟨0, m, mb, Nat.zero_le _, rfl, rfl, HFX.out, HRT.out, HCF.out, HCT.out, HMG.out, (fun _ d h1 h2 => by omega), KB.out, K1.out, OM.out, HBX.out, by omega⟩
                    case round =>
                      obtain ⟨k, M, mc, hk, rfl, rfl, lfx, lrt, lcf, lct, lmj, ld, lb, l1, lm, lx, lz⟩ := hrel
                      have LFX := hid lfx
                      have LRT := hid lrt
                      have LCF := hid lcf
                      have LCT := hid lct
                      have LMJ := hid lmj
                      have LD := hid ld
                      have LB := hid lb
                      have L1 := hid l1
                      have LM := hid lm
                      have LX := hid lx
                      have hMl := lfx.len
                      obtain ⟨d0, d1, d2, df⟩ := box3 lx
                      have hlz : gc < wr.heap.size := by omega
                      have hlg : gb < wr.heap.size := by omega
                      by_cases hlk : k < nn
                      · have hpl : j + (k + 1) < h.cells.length := by omega
                        have hpm : j + (k + 1) < M.length := by omega
                        have b1 := OwnB.cells lm (j + (k + 1)) hpm
                        obtain ⟨om, bf, hob, hgb1, hgb2⟩ := OwnB.mark lm hpm
                        have OM2 := hid om
                        have hlk' : (k : Int) + 1 ≤ (nn : Int) := by omega
                        have hk0 : (0 : Int) ≤ (k : Int) := Int.natCast_nonneg _
                        have hgx : ¬ gb = gc := by omega
                        clear lfx lrt lcf lct lmj ld lb l1 lm lx om hob
                        cases hmp : M[j + (k + 1)] with
                        | true =>
                          rw [hmp] at b1
                          have HMP := hid (show M[j + (k + 1)]? = some true by rw [List.getElem?_eq_getElem hpm, hmp])
                          go_wp2_with fail
                          go_roundw
                          case rel => exact ⟨k + 1, M, mc, by omega, by go_num, rfl, LFX.out, LRT.out, LCF.out, LCT.out, LMJ.out, (fun e d h1 h2 => by
                            by_cases e2 : d = k + 1
                            · subst e2; exact HMP.out
                            · exact LD.out e d h1 (by omega)), LB.out, L1.out, LM.out, LX.out, lz⟩
                          case measure => first | (simp [intOf]; done) | (simp [intOf]; omega)
                        | false =>
                          rw [hmp] at b1
                          have HMP := hid (show M[j + (k + 1)]? = some false by rw [List.getElem?_eq_getElem hpm, hmp])
                          have HUS := hid (unm_set M (j + (k + 1)) HMP.out)
                          have HUL := hid (show unm M ≤ unm m0 by
                            cases mc with
                            | false => have := (LCF.out rfl).2; omega
                            | true => have := LCT.out rfl; omega)
                          have HW1 := hid (Below.setCell LB.out (p := ⟨gb, j + (k + 1), none⟩) (by simp only; omega) (.bool true))
                          have HX1' := hid ((Below.heap_setCell wr ⟨gb, j + (k + 1), none⟩ (.bool true) w.heap.size (by simp only; omega)).trans L1.out)
                          have HXC := hid ((Below.heap_setCell wr ⟨gb, j + (k + 1), none⟩ (.bool true) gc (by simp only; omega)).trans LX.out)
                          go_wp2_with fail
                          go_roundw
                          case rel => exact ⟨k + 1, M.set (j + (k + 1)) true, true, by omega, by go_num, rfl, LFX.out.mark hpl (.step HRJ.out ((HLD.out _).2 ⟨by omega, by omega⟩)), LRT.out.mark hpm, (fun e => by cases e), (fun _ => by have := HUS.out; have := HUL.out; omega), (get_set hpm).2 (.inr LMJ.out), (fun e => by cases e), HW1.out, HX1'.out, OM2.out, HXC.out, by simp; omega⟩
                          case measure => first | (simp [intOf]; done) | (simp [intOf]; omega)
                      · have hje : k = nn := by omega
                        have hlk' : ¬ (k : Int) + 1 ≤ (nn : Int) := by omega
                        clear lfx lrt lcf lct lmj ld lb l1 lm lx
                        go_wp2_with fail
                        go_roundw
                        case rel => exact ⟨j + 1, M, mc, by omega, by go_num, rfl, LFX.out, LRT.out, (fun e => ⟨(LCF.out e).1.next (fun _ q hq => by
                          obtain ⟨q1, q2⟩ := (HLD.out q).1 hq
                          have := LD.out e (q - j) (by omega) (by omega)
                          rw [show j + (q - j) = q by omega] at this
                          exact this), (LCF.out e).2⟩), LCT.out, LB.out, L1.out, LM.out, by omega⟩
                        case measure => first | (simp [intOf]; done) | (simp [intOf]; omega)
              · have hje : j = h.cells.length := by omega
                subst hje
                have hlt' : ¬ ((h.cells.length : Int) < (h.cells.length : Int)) := by omega
                have HUM := hid (show unmW wr gb 0 h.cells.length = unm m by rw [← hfx.len]; exact unmW_eq m 0 (fun i hi => by rw [Nat.zero_add]; exact OwnB.cells jm i hi))
                clear hfx hrt hcf hct jb j1 jm hlt
                go_wp2_with fail
                go_roundw
                case rel => exact ⟨m, mb, rfl, HFX.out, HRT.out, fun e => (HCF.out e).1, JB.out, J1.out, JM.out, jz⟩
                case measure =>
                  rw [HU0.out, HUM.out]
                  cases mb with
                  | false => have := (HCF.out rfl).2; simp [boolOf]; omega
                  | true => have := HCT.out rfl; simp [boolOf]; omega
end Go.Proofs.Ytlpmfkpefoegeaa
