/-
  Undo, UndoTo, Cut, CutAt.
-/
import Derived.Test.YtlpmfkpefoegeabQCopyHeap
import Derived.Test.YtlpmfkpefoegeabQFits
import Derived.Test.YtlpmfkpefoegeabQClone
import Derived.Test.YtlpmfkpefoegeabHBack
namespace Go.Proofs.Ytlpmfkpefoegeab
set_option linter.unusedVariables false
set_option linter.unusedSimpArgs false
set_option maxRecDepth 100000
open Go.RowKit
def HpEE (A : Nat → Prop) (x : Hp × Int) (r : Value) (w' : World) : Prop := ∃ us, r = .tuple #[.agg us.toArray, .int .i64 x.2] ∧ Hp.rep A w' x.1 us
def IsBox (base : Nat) (E : TypeId) (z : Array Value) : Value → World → Prop := fun v w => ∃ g, v = .pointer (some ⟨g, 0, none⟩) ∧ base ≤ g ∧ w.heap[g]? = some (.cells z E (0, 0))
theorem stays_Box (base : Nat) (E : TypeId) (z : Array Value) : Stays (IsBox base E z) := fun v w w' ⟨g, e, h1, h2⟩ hb => ⟨g, e, h1, blk_below h2 hb⟩
def IsCt (base : Nat) (l : List Ce) (t : Value) : Value → World → Prop := fun v w => ∃ c, v = .agg #[c, t] ∧ OwnC w base l c
theorem stays_Ct (base : Nat) (l : List Ce) (t : Value) : Stays (IsCt base l t) := fun v w w' ⟨c, e, h⟩ hb => ⟨c, e, OwnF.below h hb⟩
theorem SlR.drop {α : Type} {size : Nat} {R : (Nat → Prop) → World → α → List Value → Prop} {A : Nat → Prop} {w : World} {l : List α} {a : Option Addr} {len cap : Nat} (h : SlR size R A w l (.slice a len cap)) {k : Nat} (hk : k ≤ l.length) :
    SlR size R A w (l.drop k) (.slice (if cap = k then a else a.map fun x => x.add (k * size)) (len - k) (cap - k)) := by
  obtain ⟨b, off, hs, he⟩ := h
  refine ⟨b, off + k * size, ?_, fun i x hx => ?_⟩
  · obtain ⟨h1, ⟨h0, a', c', e, hc⟩ | ⟨h0, hA, c', e, hc, hm⟩⟩ := hs
    · simp only [Value.slice.injEq] at e
      obtain ⟨rfl, rfl, rfl⟩ := e
      exact ⟨by simp; omega, .inl ⟨by simp; omega, _, _, by rw [Nat.zero_sub], by omega⟩⟩
    · simp only [Value.slice.injEq] at e
      obtain ⟨rfl, rfl, rfl⟩ := e
      by_cases hkl : k = l.length
      · exact ⟨by simp; omega, .inl ⟨by simp; omega, _, _, by rw [hkl, Nat.sub_self], by omega⟩⟩
      · refine ⟨by simp; omega, .inr ⟨by simp; omega, hA, cap - k, ?_, by simp; omega, by omega⟩⟩
        rw [if_neg (by omega), List.length_drop]
        simp [Addr.add]
  · rw [List.getElem?_drop] at hx
    obtain ⟨vs, h1, h2, h3⟩ := he _ _ hx
    exact ⟨vs, h1, h2, by rw [show off + k * size + i * size = off + (k + i) * size by rw [Nat.add_mul]; omega]; exact h3⟩
theorem SlR.take {α : Type} {size : Nat} {R : (Nat → Prop) → World → α → List Value → Prop} {A : Nat → Prop} {w : World} {l : List α} {a : Option Addr} {len cap : Nat} (h : SlR size R A w l (.slice a len cap)) {k : Nat} (hk : k ≤ l.length) :
    SlR size R A w (l.take k) (.slice a k cap) := by
  obtain ⟨b, off, hs, he⟩ := h
  have hl : (l.take k).length = k := by rw [List.length_take]; omega
  refine ⟨b, off, ?_, fun i x hx => ?_⟩
  · rw [hl]
    obtain ⟨h1, ⟨h0, a', c', e, hc⟩ | ⟨h0, hA, c', e, hc, hm⟩⟩ := hs
    · simp only [Value.slice.injEq] at e
      obtain ⟨rfl, rfl, rfl⟩ := e
      exact ⟨by omega, .inl ⟨by omega, _, _, by rw [show k = 0 by omega], by omega⟩⟩
    · simp only [Value.slice.injEq] at e
      obtain ⟨rfl, rfl, rfl⟩ := e
      by_cases hk0 : k = 0
      · exact ⟨by omega, .inl ⟨hk0, _, _, by rw [hk0], by omega⟩⟩
      · exact ⟨by omega, .inr ⟨by omega, hA, cap, rfl, by omega, by omega⟩⟩
  · have h0 : i < k := by have := (List.getElem?_eq_some_iff.1 hx).1; omega
    rw [List.getElem?_take_of_lt h0] at hx
    exact he _ _ hx
theorem slice_from_nums (W : World) (a : Option Addr) (len cap m : Nat) (hm : m ≤ len) : (Instr.slice 28 (.slice a len cap) (some (.int .i64 (m : Int))) none none).run Try.prog W = .ok (.slice (if cap = m then a else a.map fun x => x.add (m * 1)) (len - m) (cap - m)) W := by
  have h0 : (0 : Int) ≤ (m : Int) := Int.natCast_nonneg _
  have h1 : (m : Int) ≤ (len : Int) := by omega
  rw [Go.run_slice_l (P := Try.prog) (w := W) (t := 28) (a := a) (len := len) (cap := cap) (ht := by kernel_rfl) (kl := .i64) (l := (m : Int)) h0 h1]
  obtain ⟨⟨i, z, ht, hi, hz, k1, k2, k3⟩, -⟩ := tyNums
  have e : Program.elem Try.prog 28 = 3 := by kernel_rfl
  simp [e, sizeOf, typeInfo, hi, k1, sliced]
theorem undoC_set {l : List Ce} {vs us : List Int} {v : Nat} (hv : v < (undoC l vs).length) (hus : ∀ x, x ∈ us ↔ x ∈ vs ∨ x = (v : Int)) : (undoC l vs).set v { (undoC l vs)[v] with n := (v : Int) } = undoC l us := by
  rw [← undoC_step l vs v (by omega) us hus]
  apply List.ext_getElem (by simp)
  intro i h1 h2
  simp only [Int.toNat_natCast, List.getElem_set, List.getElem_modify]
  split
  · rename_i e; subst e; rfl
  · rfl
set_option maxHeartbeats 4000000 in
theorem undo_ok (h : Hp) (n : Int) (hn : I64 n) (A : Nat → Prop) (w : World) (vs : List Value) (hh : Hp.rep A w h vs) :
    Calls Try.prog 81 #[.agg vs.toArray, .int .i64 n] w (Pure w (HpEE (fun b => A b ∨ New w b) (undoF h n))) := by
  obtain ⟨va, cap, vb, tap, rfl, hc1, hc2, hc3, ht1, ht2, ht3, hc, ht⟩ := Hp.rep2 hh
  have HH := hid hh
  have HC := hid hc
  have HT := hid ht
  have HG1 := hid (fun w' (hk : Keeps A w w') => good_ok h A w' _ (Hp.rep.keeps hh hk))
  clear hh hc ht
  go_enter Try.func81, Try.ntmps81
  go_wp2_with fail
  refine (HG1.out _ ((Keeps.alloc _ _ _).trans (Keeps.alloc _ _ _))).mono ?_
  rintro e w1 ⟨v, rfl, hb1, t, rfl, ht⟩
  have h2 := heap2 w (.cells #[.slice va h.cells.length cap, .slice vb h.trail.length tap] 30) (.cells #[.slice none 0 0, .slice none 0 0] 30)
  have HX1 := hid (blk_below h2.1 hb1)
  have HX2 := hid (blk_below h2.2 hb1)
  have HB := hid (show Below w.heap.size w w1 from below_pure (below_pure (hb1.mono (by simp))))
  have hz : w.heap.size + 1 < w1.heap.size := by have := hb1.size; simp at this; omega
  have hz' : w.heap.size < w1.heap.size := by omega
  have HTT := hid ht
  have hcs := cell_set
  clear h2 hb1 ht
  obtain ⟨x0, x1, xf⟩ := box2 HX1.out
  obtain ⟨y0, y1, yf⟩ := box2 HX2.out
  cases t with
  | false =>
    have hg : ¬ h.Good := fun hg => by have := HTT.out.2 hg; cases this
    go_wp2_with fail
    refine bodyPost_ret (v := .tuple #[.agg #[.slice va h.cells.length cap, .slice vb h.trail.length tap], .int .i64 1]) (by simp [results, Try.results81, go_sem, hcs, x0, x1, y0, y1]) rfl ?_
    have hb : Below w.heap.size w ((w1.setCell ⟨w.heap.size + 1, 0, none⟩ (.slice va h.cells.length cap)).setCell ⟨w.heap.size + 1, 1, none⟩ (.slice vb h.trail.length tap)) := Below.setCell (Below.setCell HB.out (by simp) _) (by simp) _
    rw [undoF, if_pos hg]
    exact Pure.mk hb ⟨_, rfl, Hp.rep.mono (Hp.rep.keeps HH.out (Keeps.of_below hb)) (fun _ _ h => .inl h)⟩
  | true =>
    have HG := hid (HTT.out.1 rfl)
    have HL1 := hid HG.out.2.2.1
    have HL2 := hid HG.out.2.2.2
    clear HTT
    by_cases hin : 0 ≤ n ∧ n ≤ (h.trail.length : Int)
    case neg =>
      have HIN := hid hin
      have hin' : ¬ (0 ≤ n ∧ n ≤ (h.trail.length : Int)) := hin
      clear hin
      go_wp2_with fail
      all_goals first
        | (exfalso; omega)
        | (refine bodyPost_ret (v := .tuple #[.agg #[.slice va h.cells.length cap, .slice vb h.trail.length tap], .int .i64 2]) (by simp [results, Try.results81, go_sem, hcs, x0, x1, y0, y1]) rfl ?_
           have hb : Below w.heap.size w ((w1.setCell ⟨w.heap.size + 1, 0, none⟩ (.slice va h.cells.length cap)).setCell ⟨w.heap.size + 1, 1, none⟩ (.slice vb h.trail.length tap)) := Below.setCell (Below.setCell HB.out (by simp) _) (by simp) _
           rw [undoF, if_neg (not_not_intro HG.out), if_pos HIN.out]
           exact Pure.mk hb ⟨_, rfl, Hp.rep.mono (Hp.rep.keeps HH.out (Keeps.of_below hb)) (fun _ _ h => .inl h)⟩)
        | go_ways
    case pos =>
      have HIN := hid hin
      obtain ⟨i0, i1⟩ := hin
      obtain ⟨m, rfl⟩ := Int.eq_ofNat_of_zero_le i0
      have hm : m ≤ h.trail.length := by omega
      have HDR := hid (SlR.drop HT.out hm)
      obtain ⟨sa, hsa⟩ : ∃ sa, sa = (if tap = m then vb else vb.map fun x => x.add (m * 1)) := ⟨_, rfl⟩
      rw [← hsa] at HDR
      have HSA := hid hsa
      have hdl : (h.trail.drop m).length = h.trail.length - m := List.length_drop
      obtain ⟨_, _, db, doff, e, -, -, -, hda, hde⟩ := SlR.at HDR.out
      simp only [Value.slice.injEq] at e
      obtain ⟨rfl, -, rfl⟩ := e
      have HDA := hid hda
      have HDE := hid hde
      have qS : ∀ W : World, (Instr.slice 28 (.slice vb h.trail.length tap) (some (.int .i64 (m : Int))) none none).run Try.prog W = .ok (.slice sa (h.trail.length - m) (tap - m)) W := fun W => by
        rw [HSA.out]
        exact slice_from_nums W vb h.trail.length tap m hm
      have hmt : (m : Int) ≤ (h.trail.length : Int) := by omega
      clear hsa hda hde
      go_wp2_with fail
      all_goals first
        | (exfalso; omega)
        | skip
      refine (cloneC_ok h.cells A _ _ (SlR.keeps Ce.rep_lasts HC.out (Keeps.of_below HB.out))).mono ?_
      rintro e w2 ⟨v, rfl, hb2, hown⟩
      obtain ⟨ca, cc, rfl, hcl, hcm⟩ := OwnC.val' hown
      have HX12 := hid (blk_below HX1.out hb2)
      have HX22 := hid (blk_below HX2.out hb2)
      have HB2 := hid (show Below w.heap.size w w2 from HB.out.trans (hb2.mono (by omega)))
      have hz2 : w1.heap.size ≤ w2.heap.size := hb2.size
      have hz3 : w.heap.size < w2.heap.size := by omega
      have HO := hid hown
      clear hown hb2 x0 x1 xf y0 y1 yf
      obtain ⟨x0, x1, xf⟩ := box2 HX12.out
      go_wp2_with fail
      clear x0 x1 xf
      go_loopw [31] (fun i wr => ∃ j : Nat, j ≤ h.trail.length - m ∧ i = .int .i64 j ∧ Below w.heap.size w wr ∧ wr.heap[w.heap.size]? = some (.cells #[.slice va h.cells.length cap, .slice vb h.trail.length tap] 30) ∧ wr.heap[w.heap.size + 1]? = some (.cells #[.slice none 0 0, .slice none 0 0] 30) ∧ OwnC wr w1.heap.size (undoC h.cells ((h.trail.drop m).take j)) (.slice ca h.cells.length cc)) (fun i _ => h.trail.length - m - (intOf i).toNat)
      case atStart => exact ⟨0, Nat.zero_le _, rfl, HB2.out, HX12.out, HX22.out, by rw [List.take_zero, undoC_nil]; exact HO.out⟩
      case round =>
        obtain ⟨j, hj, rfl, hib, hi1, hi2, hio⟩ := hrel
        have HIB := hid hib
        have HI1 := hid hi1
        have HI2 := hid hi2
        have HIO := hid hio
        have hzr : w.heap.size + 1 < wr.heap.size := blk_lt hi2
        by_cases hlt : j < h.trail.length - m
        · have hjd : j < (h.trail.drop m).length := by rw [hdl]; exact hlt
          obtain ⟨rfl, hAd⟩ := HDA.out (by omega)
          obtain ⟨c0, ci⟩ := num_cell HDE.out hAd (Keeps.of_below hib) hjd
          obtain ⟨v, hv, hvl, hvk⟩ := HG.out.2.1 (m + j) (by omega)
          rw [List.getElem_drop, hv] at c0
          have hul : (undoC h.cells ((h.trail.drop m).take j)).length = h.cells.length := undoC_len _ _
          obtain ⟨cb, rfl, hob, d0, d1, d2, hok, hfz, hcb, hcbb⟩ := OwnC.cell (show OwnC wr w1.heap.size (undoC h.cells ((h.trail.drop m).take j)) (.slice ca (undoC h.cells ((h.trail.drop m).take j)).length cc) by rw [hul]; exact hio) (i := v) (by rw [hul]; exact hvl)
          have HOB := hid hob
          have HOK := hid hok
          have HV := hid hv
          have hv0 : (0 : Int) ≤ (v : Int) := Int.natCast_nonneg _
          have hv1 : (v : Int) < (h.cells.length : Int) := by omega
          have hj1 : (j : Int) < ((h.trail.length - m : Nat) : Int) := by omega
          have hj0 : (0 : Int) ≤ (j : Int) := Int.natCast_nonneg _
          clear hib hi1 hi2 hio hob hok hv hdl
          go_wp2_with fail
          go_roundw
          case rel =>
            refine ⟨j + 1, by omega, by go_num, Below.setCell HIB.out (by simp only; omega) _, ?_, ?_, ?_⟩
            · rw [Below.heap_setCell _ _ _ _ (by simp; omega)]; exact HI1.out
            · rw [Below.heap_setCell _ _ _ _ (by simp; omega)]; exact HI2.out
            · rw [← undoC_set (vs := (h.trail.drop m).take j) (v := v) (by rw [undoC_len]; exact hvl) (fun x => by
                rw [List.take_succ_eq_append_getElem hjd, List.mem_append, List.mem_singleton, List.getElem_drop, HV.out])]
              exact OwnF.set Ce.vals_len HIO.out HOB.out (by rw [undoC_len]; exact hvl) (by omega) rfl ⟨HOK.out.1, by unfold I64; simp only; omega, HOK.out.2.2⟩
          case measure => simp [intOf]; omega
        · have hje : j = h.trail.length - m := by omega
          obtain ⟨x0, x1, xf⟩ := box2 hi1
          obtain ⟨y0, y1, yf⟩ := box2 hi2
          have HTK := hid (SlR.take HT.out hm)
          clear hib hi1 hi2 hio
          go_wp2_with fail
          refine (cloneN_ok (h.trail.take m) A _ _ (SlR.keeps numR_lasts HTK.out (Keeps.of_below HIB.out))).mono ?_
          rintro e w4 ⟨v, rfl, hb4, hown⟩
          obtain ⟨na, nc, hnv, hnl, hnm⟩ := OwnF.val hown
          rw [show (h.trail.take m).length = m by rw [List.length_take]; omega] at hnv
          subst hnv
          have HX24 := hid (blk_below HI2.out hb4)
          have HB4 := hid (show Below w.heap.size w w4 from HIB.out.trans (hb4.mono (by omega)))
          have HN := hid hown
          have HC4 := hid (OwnF.below HIO.out hb4)
          have hz4 : wr.heap.size ≤ w4.heap.size := hb4.size
          clear hown hb4 x0 x1 xf y0 y1 yf
          obtain ⟨y0, y1, yf⟩ := box2 HX24.out
          go_wp2_with fail
          refine bodyPost_ret (v := .tuple #[.agg #[.slice ca h.cells.length cc, .slice na m nc], .int .i64 0]) (by simp [results, Try.results81, go_sem, hcs, y0, y1]) rfl ?_
          have hb : Below w.heap.size w ((w4.setCell ⟨w.heap.size + 1, 0, none⟩ (.slice ca h.cells.length cc)).setCell ⟨w.heap.size + 1, 1, none⟩ (.slice na m nc)) := Below.setCell (Below.setCell HB4.out (by simp) _) (by simp) _
          rw [undoF, if_neg (not_not_intro HG.out), if_neg (not_not_intro HIN.out), Int.toNat_natCast]
          refine Pure.mk hb ⟨_, rfl, _, _, rfl, ?_, ?_⟩
          · have h6 := HC4.out
            rw [hje, List.take_of_length_le (by rw [hdl]; exact Nat.le_refl _)] at h6
            have h7 := OwnF.sl (A := fun b => A b ∨ New w b) Ce.vals_len Ce.vals_one (OwnF.kept h6 (w' := (w4.setCell ⟨w.heap.size + 1, 0, none⟩ (.slice ca h.cells.length cc)).setCell ⟨w.heap.size + 1, 1, none⟩ (.slice na m nc)) fun k hk => by
              have := (h6.lt k hk).1
              rw [Below.heap_setCell _ _ _ _ (by simp; omega), Below.heap_setCell _ _ _ _ (by simp; omega)]) (by rw [undoC_len]; omega) (fun k hk => .inr (by have := (h6.lt k hk).1; unfold New; omega))
            exact h7
          · have h6 := HN.out
            have h7 := OwnF.sl (A := fun b => A b ∨ New w b) numV_len numV_one (OwnF.kept h6 (w' := (w4.setCell ⟨w.heap.size + 1, 0, none⟩ (.slice ca h.cells.length cc)).setCell ⟨w.heap.size + 1, 1, none⟩ (.slice na m nc)) fun k hk => by
              have := (h6.lt k hk).1
              rw [Below.heap_setCell _ _ _ _ (by simp; omega), Below.heap_setCell _ _ _ _ (by simp; omega)]) (by rw [List.length_take]; omega) (fun k hk => .inr (by have := (h6.lt k hk).1; unfold New; omega))
            exact h7
set_option maxHeartbeats 4000000 in
theorem cut_ok (h : Hp) (n : Int) (hn : I64 n) (A : Nat → Prop) (w : World) (vs : List Value) (hh : Hp.rep A w h vs) :
    Calls Try.prog 82 #[.agg vs.toArray, .int .i64 n] w (Pure w (HpEE (fun b => A b ∨ New w b) (cutF h n))) := by
  obtain ⟨va, cap, vb, tap, rfl, hc1, hc2, hc3, ht1, ht2, ht3, hc, ht⟩ := Hp.rep2 hh
  have HH := hid hh
  have HC := hid hc
  have HT := hid ht
  have HG1 := hid (fun w' (hk : Keeps A w w') => good_ok h A w' _ (Hp.rep.keeps hh hk))
  clear hh hc ht
  go_enter Try.func82, Try.ntmps82
  go_wp2_with fail
  refine (HG1.out _ ((Keeps.alloc _ _ _).trans (Keeps.alloc _ _ _))).mono ?_
  rintro e w1 ⟨v, rfl, hb1, t, rfl, ht⟩
  have h2 := heap2 w (.cells #[.slice va h.cells.length cap, .slice vb h.trail.length tap] 30) (.cells #[.slice none 0 0, .slice none 0 0] 30)
  have HX1 := hid (blk_below h2.1 hb1)
  have HX2 := hid (blk_below h2.2 hb1)
  have HB := hid (show Below w.heap.size w w1 from below_pure (below_pure (hb1.mono (by simp))))
  have hz : w.heap.size + 1 < w1.heap.size := by have := hb1.size; simp at this; omega
  have hz' : w.heap.size < w1.heap.size := by omega
  have HTT := hid ht
  have hcs := cell_set
  clear h2 hb1 ht
  obtain ⟨x0, x1, xf⟩ := box2 HX1.out
  obtain ⟨y0, y1, yf⟩ := box2 HX2.out
  cases t with
  | false =>
    have hg : ¬ h.Good := fun hg => by have := HTT.out.2 hg; cases this
    go_wp2_with fail
    refine bodyPost_ret (v := .tuple #[.agg #[.slice va h.cells.length cap, .slice vb h.trail.length tap], .int .i64 1]) (by simp [results, Try.results82, go_sem, hcs, x0, x1, y0, y1]) rfl ?_
    have hb : Below w.heap.size w ((w1.setCell ⟨w.heap.size + 1, 0, none⟩ (.slice va h.cells.length cap)).setCell ⟨w.heap.size + 1, 1, none⟩ (.slice vb h.trail.length tap)) := Below.setCell (Below.setCell HB.out (by simp) _) (by simp) _
    rw [cutF, if_pos hg]
    exact Pure.mk hb ⟨_, rfl, Hp.rep.mono (Hp.rep.keeps HH.out (Keeps.of_below hb)) (fun _ _ h => .inl h)⟩
  | true =>
    have HG := hid (HTT.out.1 rfl)
    have HL1 := hid HG.out.2.2.1
    have HL2 := hid HG.out.2.2.2
    clear HTT
    by_cases hin : 0 ≤ n ∧ n ≤ (h.cells.length : Int)
    case neg =>
      have HIN := hid hin
      have hin' : ¬ (0 ≤ n ∧ n ≤ (h.cells.length : Int)) := hin
      clear hin
      go_wp2_with fail
      all_goals first
        | (exfalso; omega)
        | (refine bodyPost_ret (v := .tuple #[.agg #[.slice va h.cells.length cap, .slice vb h.trail.length tap], .int .i64 2]) (by simp [results, Try.results82, go_sem, hcs, x0, x1, y0, y1]) rfl ?_
           have hb : Below w.heap.size w ((w1.setCell ⟨w.heap.size + 1, 0, none⟩ (.slice va h.cells.length cap)).setCell ⟨w.heap.size + 1, 1, none⟩ (.slice vb h.trail.length tap)) := Below.setCell (Below.setCell HB.out (by simp) _) (by simp) _
           rw [cutF, if_neg (not_not_intro HG.out), if_pos HIN.out]
           exact Pure.mk hb ⟨_, rfl, Hp.rep.mono (Hp.rep.keeps HH.out (Keeps.of_below hb)) (fun _ _ h => .inl h)⟩)
        | go_ways
    case pos =>
      have HIN := hid hin
      obtain ⟨i0, i1⟩ := hin
      obtain ⟨m, rfl⟩ := Int.eq_ofNat_of_zero_le i0
      have hm : m ≤ h.cells.length := by omega
      go_wp2_with fail
      all_goals first
        | (exfalso; omega)
        | skip
      obtain ⟨W0, rfl⟩ : ∃ z, z = w1 := ⟨_, rfl⟩
      have HA0 : Hid (∀ w', Below W0.heap.size W0 w' → Below w.heap.size w w' ∧ w'.cell? ⟨w.heap.size, 0, none⟩ = some (.slice va h.cells.length cap) ∧ w'.cell? ⟨w.heap.size, 1, none⟩ = some (.slice vb h.trail.length tap)) := hid fun w' hb => by
        have h1 := blk_below HX1.out hb
        obtain ⟨z0, z1, -⟩ := box2 h1
        exact ⟨HB.out.trans (hb.mono (by omega)), z0, z1⟩
      refine wp_region_front 9 (Inv := fun w' => Below W0.heap.size W0 w') (Po := posts [IsV (.pointer (some ⟨w.heap.size, 0, none⟩)), IsV (.slice va h.cells.length cap), IsV (.int .i64 (m : Int)), IsV (.slice va m cap), IsOC W0.heap.size (h.cells.take m), IsV (.pointer (some ⟨w.heap.size, 1, none⟩)), IsV (.slice vb h.trail.length tap), IsCt W0.heap.size (h.cells.take m) (.slice vb h.trail.length tap), IsBox W0.heap.size 30 #[.slice none 0 0, .slice none 0 0]]) (Rl := fun w w' => Below w.heap.size w w') (by kernel_rfl) (by kernel_rfl) (by kernel_rfl) (by kernel_rfl) ((Below.refl _ _).drew) ?_ ?_ ?_ ?_
      · refine posts_stay fun R hR => ?_
        simp only [List.mem_cons, List.not_mem_nil, or_false] at hR
        rcases hR with rfl | rfl | rfl | rfl | rfl | rfl | rfl | rfl | rfl <;> first | exact stays_V _ | exact stays_any | exact stays_B _ | exact stays_Tm _ | exact stays_Tms _ | exact stays_Cs _ | exact stays_Ns _ | exact stays_Bs _ | exact stays_Hp _ | exact stays_OC _ _ | exact stays_ON _ _ | exact stays_Ct _ _ _ | exact stays_Box _ _ _
      · exact fun w1 w2 h h' => h.trans (h'.mono h.size)
      · intro i o ho f ac ww hinv hpo hdst hold
        match i, ho with
          | 0, ho =>
            obtain rfl : _ = o := Option.some.inj ho
            have t2 := hold 2 (by kernel_rfl)
            refine Or.inl ⟨want0 rfl, ?_⟩
            clear hdst hpo hold ho
            clear hinv
            unfold Ans
            go_simp
            exact ⟨rfl, Below.refl _ _⟩
          | 1, ho =>
            obtain rfl : _ = o := Option.some.inj ho
            have t21 : ac.tmps[21]? = some (f 0) := hdst 0 21 (by kernel_rfl) (by kernel_rfl)
            have p0 : (IsV (.pointer (some ⟨w.heap.size, 0, none⟩))) (f 0) ww := hpo 0 (by kernel_rfl)
            refine Or.inl ⟨want0 rfl, ?_⟩
            clear hdst hpo hold ho
            rw [show f 0 = _ from p0] at t21
            obtain ⟨-, x0, x1⟩ := HA0.out ww hinv
            unfold Ans
            go_simp
            exact ⟨rfl, Below.refl _ _⟩
          | 2, ho =>
            obtain rfl : _ = o := Option.some.inj ho
            have t1 := hold 1 (by kernel_rfl)
            refine Or.inl ⟨want0 rfl, ?_⟩
            clear hdst hpo hold ho
            clear hinv
            unfold Ans
            go_simp
            exact ⟨rfl, Below.refl _ _⟩
          | 3, ho =>
            obtain rfl : _ = o := Option.some.inj ho
            have t22 : ac.tmps[22]? = some (f 1) := hdst 1 22 (by kernel_rfl) (by kernel_rfl)
            have p1 : (IsV (.slice va h.cells.length cap)) (f 1) ww := hpo 1 (by kernel_rfl)
            have t23 : ac.tmps[23]? = some (f 2) := hdst 2 23 (by kernel_rfl) (by kernel_rfl)
            have p2 : (IsV (.int .i64 (m : Int))) (f 2) ww := hpo 2 (by kernel_rfl)
            refine Or.inl ⟨want0 rfl, ?_⟩
            clear hdst hpo hold ho
            rw [show f 1 = _ from p1] at t22
            rw [show f 2 = _ from p2] at t23
            clear hinv
            have hmc : m ≤ cap := by omega
            unfold Ans
            go_simp
            exact ⟨rfl, Below.refl _ _⟩
          | 4, ho =>
            obtain rfl : _ = o := Option.some.inj ho
            have t24 : ac.tmps[24]? = some (f 3) := hdst 3 24 (by kernel_rfl) (by kernel_rfl)
            have p3 : (IsV (.slice va m cap)) (f 3) ww := hpo 3 (by kernel_rfl)
            refine Or.inl ⟨want0 rfl, ?_⟩
            clear hdst hpo hold ho
            rw [show f 3 = _ from p3] at t24
            unfold Ans
            go_simp
            refine (cloneC_ok (h.cells.take m) A _ _ (SlR.keeps Ce.rep_lasts (SlR.take HC.out hm) (Keeps.of_below (HA0.out ww hinv).1))).mono ?_
            rintro e w1 ⟨v, rfl, hb, hown⟩
            exact ⟨_, rfl, OwnF.rebase hown (fun k hk => by have := (hown.lt k hk).1; have := hinv.size; omega), hb⟩
          | 5, ho =>
            obtain rfl : _ = o := Option.some.inj ho
            have t2 := hold 2 (by kernel_rfl)
            refine Or.inl ⟨want0 rfl, ?_⟩
            clear hdst hpo hold ho
            clear hinv
            unfold Ans
            go_simp
            exact ⟨rfl, Below.refl _ _⟩
          | 6, ho =>
            obtain rfl : _ = o := Option.some.inj ho
            have t26 : ac.tmps[26]? = some (f 5) := hdst 5 26 (by kernel_rfl) (by kernel_rfl)
            have p5 : (IsV (.pointer (some ⟨w.heap.size, 1, none⟩))) (f 5) ww := hpo 5 (by kernel_rfl)
            refine Or.inl ⟨want0 rfl, ?_⟩
            clear hdst hpo hold ho
            rw [show f 5 = _ from p5] at t26
            obtain ⟨-, x0, x1⟩ := HA0.out ww hinv
            unfold Ans
            go_simp
            exact ⟨rfl, Below.refl _ _⟩
          | 7, ho =>
            obtain rfl : _ = o := Option.some.inj ho
            have t25 : ac.tmps[25]? = some (f 4) := hdst 4 25 (by kernel_rfl) (by kernel_rfl)
            have p4 : (IsOC W0.heap.size (h.cells.take m)) (f 4) ww := hpo 4 (by kernel_rfl)
            have t27 : ac.tmps[27]? = some (f 6) := hdst 6 27 (by kernel_rfl) (by kernel_rfl)
            have p6 : (IsV (.slice vb h.trail.length tap)) (f 6) ww := hpo 6 (by kernel_rfl)
            refine Or.inl ⟨want0 rfl, ?_⟩
            clear hdst hpo hold ho
            rw [show f 6 = _ from p6] at t27
            clear hinv
            obtain ⟨fa, fc, hf, -, -⟩ := OwnF.val p4
            have hlt : (h.cells.take m).length = m := by rw [List.length_take]; omega
            rw [hf, hlt] at t25
            have p4' : OwnC ww W0.heap.size (h.cells.take m) (.slice fa m fc) := by rw [hf, hlt] at p4; exact p4
            unfold Ans
            go_simp
            exact ⟨⟨_, rfl, p4'⟩, Below.refl _ _⟩
          | 8, ho =>
            obtain rfl : _ = o := Option.some.inj ho
            refine Or.inl ⟨want0 rfl, ?_⟩
            clear hdst hpo hold ho
            unfold Ans
            go_simp
            exact ⟨⟨_, rfl, hinv.size, blk_new _ _⟩, (Below.refl _ _).alloc (Nat.le_refl _) _⟩
          | i + 9, ho => simp at ho
      · intro f ww hinv hpo
        have p7 : (IsCt W0.heap.size (h.cells.take m) (.slice vb h.trail.length tap)) (f 7) ww := hpo 7 (by decide)
        have p8 : (IsBox W0.heap.size 30 #[.slice none 0 0, .slice none 0 0]) (f 8) ww := hpo 8 (by decide)
        obtain ⟨cv, e7, hown⟩ := p7
        obtain ⟨g, e8, hg8, hx8⟩ := p8
        obtain ⟨ca, cc, hcv, hcl, hcm⟩ := OwnF.val hown
        rw [show (h.cells.take m).length = m by rw [List.length_take]; omega] at hcv hcl
        subst hcv
        simp only [fillT, List.take_succ_cons, List.take_zero, List.setIfInBounds_toArray, List.set_cons_succ, List.set_cons_zero]
        rw [e7, e8]
        have hB := HA0.out ww hinv
        have HB1 := hid hB.1
        have HO := hid hown
        have HX8 := hid hx8
        have HX11 := hid (blk_below HX1.out hinv)
        have HX21 := hid (blk_below HX2.out hinv)
        obtain ⟨z0, z1, zf⟩ := box2 hx8
        have hgw : g < ww.heap.size := blk_lt hx8
        have hng := OwnF.ne_box hown hx8 (by decide)
        clear hinv hpo hB hx8 hown e7 e8 x0 x1 xf y0 y1 yf
        refine wpAny_only (i := 9) (by kernel_rfl) (wpOp_run rfl (by rfl) ?_)
        go_simp
        refine wpAny_all (by kernel_rfl) ?_ _
        -- the box holds what was cut
        have hkeep : ∀ k, k ≠ g → ((ww.setCell ⟨g, 0, none⟩ (.slice ca m cc)).setCell ⟨g, 1, none⟩ (.slice vb h.trail.length tap)).heap[k]? = ww.heap[k]? := fun k hk => by
          rw [Below.heap_setCell _ _ _ _ hk, Below.heap_setCell _ _ _ _ hk]
        have hgb : w.heap.size + 2 ≤ W0.heap.size := by omega
        have HBF := hid (show Below w.heap.size w ((ww.setCell ⟨g, 0, none⟩ (.slice ca m cc)).setCell ⟨g, 1, none⟩ (.slice vb h.trail.length tap)) from Below.setCell (Below.setCell HB1.out (by simp only; omega) _) (by simp only; omega) _)
        have HX1F := hid ((hkeep _ (by omega)).trans HX11.out)
        have HX2F := hid ((hkeep _ (by omega)).trans HX21.out)
        have HXGF : Hid (((ww.setCell ⟨g, 0, none⟩ (.slice ca m cc)).setCell ⟨g, 1, none⟩ (.slice vb h.trail.length tap)).heap[g]? = some (.cells #[.slice ca m cc, .slice vb h.trail.length tap] 30 (0, 0))) := hid ((blk_set (blk_set HX8.out 0 _) 1 _).trans rfl)
        have HOF := hid (OwnF.kept HO.out (w' := (ww.setCell ⟨g, 0, none⟩ (.slice ca m cc)).setCell ⟨g, 1, none⟩ (.slice vb h.trail.length tap)) (fun k hk => hkeep k (fun e => hng (hk.trans (congrArg some e)))))
        clear hkeep z0 z1 zf
        generalize (ww.setCell ⟨g, 0, none⟩ (.slice ca m cc)).setCell ⟨g, 1, none⟩ (.slice vb h.trail.length tap) = WS at HBF HX1F HX2F HXGF HOF ⊢
        have HRF : Hid (Hp.rep (fun b => A b ∨ New w b) WS ⟨h.cells.take m, h.trail⟩ [.slice ca m cc, .slice vb h.trail.length tap]) := hid ⟨_, _, rfl, OwnF.sl Ce.vals_len Ce.vals_one HOF.out (by rw [List.length_take]; omega) (fun k hk => .inr (by have := (HOF.out.lt k hk).1; unfold New; omega)),
          SlR.mono numR_lasts (by omega) (SlR.keeps numR_lasts HT.out (Keeps.of_below HBF.out)) (fun _ _ h => .inl h)⟩
        obtain ⟨z0, z1, zf⟩ := box2 HXGF.out
        go_wp2_with fail
        refine (good_ok ⟨h.cells.take m, h.trail⟩ _ _ [_, _] HRF.out).mono ?_
        rintro e w3 ⟨v, rfl, hb3, t, rfl, ht⟩
        have HX13 := hid (blk_below HX1F.out hb3)
        have HX23 := hid (blk_below HX2F.out hb3)
        have HXG3 := hid (blk_below HXGF.out hb3)
        have HB3 := hid (HBF.out.trans (hb3.mono HBF.out.size))
        have HR3 := hid (Hp.rep.below HRF.out hb3)
        have HTT := hid ht
        have HO3 := hid (OwnF.below HOF.out hb3)
        have hcs := cell_set
        clear hb3 ht z0 z1 zf
        obtain ⟨x0, x1, xf⟩ := box2 HX13.out
        obtain ⟨y0, y1, yf⟩ := box2 HX23.out
        obtain ⟨z0, z1, zf⟩ := box2 HXG3.out
        cases t with
        | false =>
          have hg : ¬ Hp.Good ⟨h.cells.take m, h.trail⟩ := fun hg => by have := HTT.out.2 hg; cases this
          go_wp2_with fail
          refine bodyPost_ret (v := .tuple #[.agg #[.slice va h.cells.length cap, .slice vb h.trail.length tap], .int .i64 1]) (by simp [results, Try.results82, go_sem, hcs, x0, x1, y0, y1]) rfl ?_
          have hb : Below w.heap.size w ((w3.setCell ⟨w.heap.size + 1, 0, none⟩ (.slice va h.cells.length cap)).setCell ⟨w.heap.size + 1, 1, none⟩ (.slice vb h.trail.length tap)) := Below.setCell (Below.setCell HB3.out (by simp) _) (by simp) _
          rw [cutF, if_neg (not_not_intro HG.out), if_neg (not_not_intro HIN.out), Int.toNat_natCast, if_pos hg]
          exact Pure.mk hb ⟨_, rfl, Hp.rep.mono (Hp.rep.keeps HH.out (Keeps.of_below hb)) (fun _ _ h => .inl h)⟩
        | true =>
          have HGT := hid (HTT.out.1 rfl)
          go_wp2_with fail
          refine bodyPost_ret (v := .tuple #[.agg #[.slice ca m cc, .slice vb h.trail.length tap], .int .i64 0]) (by simp [results, Try.results82, go_sem, hcs, y0, y1]) rfl ?_
          have hb : Below w.heap.size w ((w3.setCell ⟨w.heap.size + 1, 0, none⟩ (.slice ca m cc)).setCell ⟨w.heap.size + 1, 1, none⟩ (.slice vb h.trail.length tap)) := Below.setCell (Below.setCell HB3.out (by simp) _) (by simp) _
          rw [cutF, if_neg (not_not_intro HG.out), if_neg (not_not_intro HIN.out), Int.toNat_natCast, if_neg (not_not_intro HGT.out)]
          refine Pure.mk hb ⟨_, rfl, _, _, rfl, ?_, ?_⟩
          · have h6 := HO3.out
            exact OwnF.sl (A := fun b => A b ∨ New w b) Ce.vals_len Ce.vals_one (OwnF.kept h6 fun k hk => by
                have := (h6.lt k hk).1
                rw [Below.heap_setCell _ _ _ _ (by simp; omega), Below.heap_setCell _ _ _ _ (by simp; omega)]) (by rw [List.length_take]; omega) (fun k hk => .inr (by have := (h6.lt k hk).1; unfold New; omega))
          · exact SlR.mono numR_lasts (by omega) (SlR.keeps numR_lasts HT.out (Keeps.of_below hb)) (fun _ _ h => .inl h)
end Go.Proofs.Ytlpmfkpefoegeab
