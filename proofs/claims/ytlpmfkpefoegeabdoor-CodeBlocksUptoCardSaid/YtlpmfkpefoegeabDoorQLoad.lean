/-
  heap.Load.
-/
import Derived.Test.YtlpmfkpefoegeabDoorHLoad
import Derived.Test.YtlpmfkpefoegeabDoorQIsHeap
import Derived.Test.YtlpmfkpefoegeabDoorQClone
namespace Go.Proofs.YtlpmfkpefoegeabDoor
set_option linter.unusedVariables false
set_option linter.unusedSimpArgs false
open Go.RowKit

/-- a heap, a number, an error -/
def HpNE (A : Nat → Prop) (x : Hp × Int × Int) (r : Value) (w' : World) : Prop := ∃ us, r = .tuple #[.agg us.toArray, .int .i64 x.2.1, .int .i64 x.2.2] ∧ Hp.rep A w' x.1 us

theorem Hp.rep_block {A : Nat → Prop} {w : World} {bl : List Ce} {v : Value} (hv : CesR A w bl v) : Hp.rep A w ⟨bl, []⟩ [v, .slice none 0 0] := ⟨v, _, rfl, hv, SlR.nil ..⟩

theorem Pure.mk {w w' : World} {R : Value → World → Prop} {v : Value} (hb : Below w.heap.size w w') (hr : R v w') : Pure w R (.returned v) w' := ⟨v, rfl, hb, hr⟩

/-- a box of two cells -/
theorem box2 {w : World} {g : Nat} {E : TypeId} {v0 v1 : Value} (h : w.heap[g]? = some (.cells #[v0, v1] E (0, 0))) :
    w.cell? ⟨g, 0, none⟩ = some v0 ∧ w.cell? ⟨g, 1, none⟩ = some v1 ∧ ∀ o, w.frozen? ⟨g, o, none⟩ = false :=
  ⟨(blk_cell h 0).trans rfl, (blk_cell h 1).trans rfl, fun o => by simp [World.frozen?, h]⟩

theorem HpNE.old {A : Nat → Prop} {w w' : World} {h : Hp} {vs : List Value} {n e : Int} (hh : Hp.rep A w h vs) (hb : Below w.heap.size w w') : HpNE (fun b => A b ∨ New w b) (h, n, e) (.tuple #[.agg vs.toArray, .int .i64 n, .int .i64 e]) w' :=
  ⟨vs, rfl, Hp.rep.mono (Hp.rep.keeps hh (Keeps.of_below hb)) (fun _ _ h => .inl h)⟩

theorem OwnR.val' {α : Type} {w : World} {base : Nat} {E : TypeId} {size : Nat} {R : (Nat → Prop) → World → α → List Value → Prop} {A : Nat → Prop} {xs : List α} {v : Value}
    (h : OwnR w base E size R A xs v) : ∃ a cap, v = .slice a xs.length cap ∧ xs.length ≤ cap ∧ cap ≤ maxLen := by
  obtain ⟨vals, hl, ho, he⟩ := h
  rcases ho.2 with ⟨h0, a, rfl⟩ | ⟨g, cap, cur, rfl, hc, hb, hg, hnc, hcm, _⟩
  · exact ⟨a, 0, by rw [h0], by omega, by simp [maxLen]⟩
  · exact ⟨_, cap, rfl, hnc, hcm⟩
theorem OwnC.val' {w : World} {base : Nat} {l : List Ce} {v : Value} (h : OwnC w base l v) : ∃ a cap, v = .slice a l.length cap ∧ l.length ≤ cap ∧ cap ≤ maxLen := OwnF.val h

/-- what Load's loop keeps -/
def LInv (w : World) (base : Nat) (X1 X2 : Obj) (l : List Ce) (v : Value) (wr : World) : Prop := Below w.heap.size w wr ∧ wr.heap[w.heap.size]? = some X1 ∧ wr.heap[w.heap.size + 1]? = some X2 ∧ OwnC wr base l v

theorem CesR.sl_of {w : World} {base : Nat} {l : List Ce} {v : Value} {A : Nat → Prop} (h : OwnC w base l v) (hl : l.length ≤ 1048576) (hA : ∀ b, ownB v = some b → A b) : CesR A w l v := OwnF.sl Ce.vals_len Ce.vals_one h hl hA

set_option maxHeartbeats 4000000 in
theorem load_ok (h : Hp) (bl : List Ce) (A : Nat → Prop) (w : World) (vs : List Value) (v : Value) (hh : Hp.rep A w h vs) (hv : CesR A w bl v) :
    Calls Tryd.prog 70 #[.agg vs.toArray, v] w (Pure w (HpNE (fun b => A b ∨ New w b) (loadF h bl))) := by
  obtain ⟨a, cap, b, tap, rfl, hc1, hc2, hc3, ht1, ht2, ht3, hc, ht⟩ := Hp.rep2 hh
  obtain ⟨a', cap', b', off', rfl, hlc', hcm', hlb', -, -⟩ := hv.at
  have HH := hid hh
  have HC := hid hc
  have HV := hid hv
  have HG1 := hid (fun w' (hk : Keeps A w w') => good_ok h A w' _ (Hp.rep.keeps hh hk))
  have HG2 := hid (fun w' (hk : Keeps A w w') => good_ok ⟨bl, []⟩ A w' _ (Hp.rep.keeps (Hp.rep_block hv) hk))
  have HTR := hid ht
  clear hh hv hc ht
  go_enter Tryd.func70, Tryd.ntmps70
  go_wp2_with fail
  refine (HG1.out _ ((Keeps.alloc _ _ _).trans (Keeps.alloc _ _ _))).mono ?_
  rintro e w1 ⟨v, rfl, hb1, t, rfl, ht⟩
  have h2 := heap2 w (.cells #[.slice a h.cells.length cap, .slice b h.trail.length tap] 109) (.cells #[.slice none 0 0, .slice none 0 0] 109)
  have HX1 := hid (blk_below h2.1 hb1)
  have HX2 := hid (blk_below h2.2 hb1)
  have HB := hid (show Below w.heap.size w w1 from below_pure (below_pure (hb1.mono (by simp))))
  have hz : w.heap.size + 1 < w1.heap.size := by have := hb1.size; simp at this; omega
  have hz' : w.heap.size < w1.heap.size := by omega
  have HT := hid ht
  have hcs := cell_set
  clear h2 hb1 ht
  obtain ⟨x0, x1, xf⟩ := box2 HX1.out
  obtain ⟨y0, y1, yf⟩ := box2 HX2.out
  cases t with
  | false =>
    go_wp2_with fail
    refine bodyPost_ret (v := .tuple #[.agg #[.slice a h.cells.length cap, .slice b h.trail.length tap], .int .i64 0, .int .i64 1]) (by simp [results, Tryd.results70, go_sem, hcs, x0, x1, y0, y1]) rfl ?_
    have hg : ¬ (h.Good ∧ Hp.Good ⟨bl, []⟩) := fun hg => by have := HT.out.2 hg.1; cases this
    have hb : Below w.heap.size w ((w1.setCell ⟨w.heap.size + 1, 0, none⟩ (.slice a h.cells.length cap)).setCell ⟨w.heap.size + 1, 1, none⟩ (.slice b h.trail.length tap)) := Below.setCell (Below.setCell HB.out (by simp) _) (by simp) _
    rw [loadF, if_pos hg]
    exact Pure.mk hb (HpNE.old HH.out hb)
  | true =>
    have HT1 := hid (HT.out.1 rfl)
    clear HT
    go_wp2_with fail
    refine (HG2.out _ (Keeps.of_below HB.out)).mono ?_
    rintro e w2 ⟨v, rfl, hb2, t, rfl, ht⟩
    have HX1' := hid (blk_below HX1.out hb2)
    have HX2' := hid (blk_below HX2.out hb2)
    have HB' := hid (show Below w.heap.size w w2 from HB.out.trans (hb2.mono (by omega)))
    have hz2 : w.heap.size + 1 < w2.heap.size := by have := hb2.size; omega
    have hz2' : w.heap.size < w2.heap.size := by omega
    have HT' := hid ht
    clear ht x0 x1 xf y0 y1 yf hb2
    obtain ⟨x0, x1, xf⟩ := box2 HX1'.out
    obtain ⟨y0, y1, yf⟩ := box2 HX2'.out
    cases t with
    | false =>
      go_wp2_with fail
      refine bodyPost_ret (v := .tuple #[.agg #[.slice a h.cells.length cap, .slice b h.trail.length tap], .int .i64 0, .int .i64 1]) (by simp [results, Tryd.results70, go_sem, hcs, x0, x1, y0, y1]) rfl ?_
      have hg : ¬ (h.Good ∧ Hp.Good ⟨bl, []⟩) := fun hg => by have := HT'.out.2 hg.2; cases this
      have hb : Below w.heap.size w ((w2.setCell ⟨w.heap.size + 1, 0, none⟩ (.slice a h.cells.length cap)).setCell ⟨w.heap.size + 1, 1, none⟩ (.slice b h.trail.length tap)) := Below.setCell (Below.setCell HB'.out (by simp) _) (by simp) _
      rw [loadF, if_pos hg]
      exact Pure.mk hb (HpNE.old HH.out hb)
    | true =>
      have hg : h.Good ∧ Hp.Good ⟨bl, []⟩ := ⟨HT1.out, HT'.out.1 rfl⟩
      have HG := hid hg
      have hl1 : h.cells.length ≤ 65536 := hg.1.2.2.1
      have hl2 : bl.length ≤ 65536 := hg.2.2.2.1
      clear hg
      by_cases hbig : 65536 < h.cells.length + bl.length
      · have hbig' : (65536 : Int) < h.cells.length + bl.length := by omega
        go_wp2_with fail
        refine bodyPost_ret (v := .tuple #[.agg #[.slice a h.cells.length cap, .slice b h.trail.length tap], .int .i64 0, .int .i64 3]) (by simp [results, Tryd.results70, go_sem, hcs, x0, x1, y0, y1]) rfl ?_
        have hb : Below w.heap.size w ((w2.setCell ⟨w.heap.size + 1, 0, none⟩ (.slice a h.cells.length cap)).setCell ⟨w.heap.size + 1, 1, none⟩ (.slice b h.trail.length tap)) := Below.setCell (Below.setCell HB'.out (by simp) _) (by simp) _
        rw [loadF, if_neg (not_not_intro HG.out), if_pos hbig]
        exact Pure.mk hb (HpNE.old HH.out hb)
      · have hbig' : (h.cells.length : Int) + bl.length ≤ 65536 := by omega
        go_wp2_with fail
        refine (cloneC_ok h.cells A _ _ (SlR.keeps Ce.rep_lasts HC.out (Keeps.of_below HB'.out))).mono ?_
        rintro e w3 ⟨v, rfl, hb3, hown⟩
        obtain ⟨ca, cc, rfl, hcl, hcm⟩ := OwnC.val' hown
        have HX1'' := hid (blk_below HX1'.out hb3)
        have HX2'' := hid (blk_below HX2'.out hb3)
        have HB'' := hid (show Below w.heap.size w w3 from HB'.out.trans (hb3.mono (by omega)))
        have hz3 : w2.heap.size ≤ w3.heap.size := hb3.size
        have HO := hid (OwnF.ownR Ce.vals_len hown (fun _ => True))
        have HSL : Hid (CesR (fun b => True ∧ ownB (.slice ca h.cells.length cc) ≠ some b) w3 bl (.slice a' bl.length cap')) := by
          have h1 := SlR.mono (A' := fun b => A b ∧ b < w.heap.size) Ce.rep_lasts (by omega) HV.out (fun b hb h => ⟨h, hb⟩)
          exact SlR.mono Ce.rep_lasts (by omega) (SlR.keeps Ce.rep_lasts h1 (Keeps.of_below HB''.out)) (fun b _ hb => ⟨trivial, fun e => by have := (OwnF.lt hown b e).1; omega⟩)
        clear hown hb3 x0 x1 xf y0 y1 yf
        obtain ⟨x0, x1, xf⟩ := box2 HX1''.out
        obtain ⟨y0, y1, yf⟩ := box2 HX2''.out
        go_wp2_with (at_builtin; refine wpList_appS rfl (.tmp 31) (.tmp 32) 47 rfl w2.heap.size 80 3 32 tyCells Ce.rep_lasts (A := fun _ => True) (.slice ca h.cells.length cc) h.cells rfl HO.out _ rfl bl HSL.out (by omega) hz3 ?_; intro v2 w4 hown hgrew; obtain ⟨va, vc, hv2, hvl, hvm⟩ := OwnR.val' hown; rw [List.length_append] at hv2 hvl; subst hv2; have HO4 := hid (OwnF.of_ownR hown); have HG4 := hid hgrew; have hz4 := hgrew.size; clear hown hgrew)
        have hbb : h.cells.length ≤ (h.cells ++ bl).length := by simp
        have HGC := hid HG.out.2.1
        have HLen := hid (show (h.cells ++ bl).length = h.cells.length + bl.length from List.length_append)
        have hN : (h.cells ++ bl).length ≤ 65536 := by rw [HLen.out]; omega
        have hBW4 : Below w.heap.size w w4 := HG4.out.below HB''.out (by omega) (fun k hk => by have := (OwnF.lt (OwnF.of_ownR HO.out) k hk).1; omega)
        have hkeep : ∀ k, k < w2.heap.size → w4.heap[k]? = w3.heap[k]? := fun k hk => HG4.out.grown.block k (by omega) (fun e => by have := (OwnF.lt (OwnF.of_ownR HO.out) k e.symm).1; omega)
        have HX14 := hid ((hkeep _ hz2').trans HX1''.out)
        have HX24 := hid ((hkeep _ hz2).trans HX2''.out)
        have HBW4 := hid hBW4
        clear hBW4 hkeep x0 x1 xf y0 y1 yf
        go_loopw [9] (fun i wr => ∃ j : Nat, h.cells.length ≤ j ∧ j ≤ h.cells.length + bl.length ∧ i = .int .i64 j ∧ LInv w w2.heap.size (.cells #[.slice a h.cells.length cap, .slice b h.trail.length tap] 109) (.cells #[.slice none 0 0, .slice none 0 0] 109) (shTo h.cells.length (h.cells ++ bl) j) (.slice va (h.cells.length + bl.length) vc) wr) (fun i _ => h.cells.length + bl.length - (intOf i).toNat)
        case atStart => exact ⟨h.cells.length, Nat.le_refl _, by omega, rfl, HBW4.out, HX14.out, HX24.out, by rw [shTo_start]; exact HO4.out⟩
        case round =>
          obtain ⟨j, hj0, hj, rfl, hinv⟩ := hrel
          have HI := hid hinv
          obtain ⟨hib, hi1, hi2, hio⟩ := hinv
          have hsz5 : w.heap.size + 1 < wr.heap.size := blk_lt hi2
          clear hib hi1 hi2
          by_cases hlt : j < h.cells.length + bl.length
          · have hlj : j < (h.cells ++ bl).length := by rw [HLen.out]; exact hlt
            have hsl : (shTo h.cells.length (h.cells ++ bl) j).length = h.cells.length + bl.length := by rw [shTo_len, HLen.out]
            obtain ⟨g, gc, hve, hgc0, hgc1, hgc2, hob, hfz, hgl, hgb, hcell⟩ := OwnF.at Ce.vals_len hio (by omega)
            rw [hsl] at hve
            simp only [Value.slice.injEq, true_and] at hve
            obtain ⟨rfl, rfl⟩ := hve
            have hjl : j < (shTo h.cells.length (h.cells ++ bl) j).length := by rw [shTo_len]; exact hlj
            obtain ⟨c, hc⟩ : ∃ c, c = (h.cells ++ bl)[j] := ⟨_, rfl⟩
            have hcj : (shTo h.cells.length (h.cells ++ bl) j)[j]'hjl = c := by rw [shTo_get, if_neg (by omega), hc]
            have c0 := hcell j hjl 0 (.int .i64 c.kind) (by rw [hcj]; rfl)
            have c1 := hcell j hjl 1 (.int .i64 c.n) (by rw [hcj]; rfl)
            simp only [Nat.add_zero] at c0
            -- the block's own cell
            have hbj : j - h.cells.length < bl.length := by omega
            have hcb : c = bl[j - h.cells.length] := hc.trans (List.getElem_append_right hj0)
            have hok := HGC.out (j - h.cells.length) hbj
            simp only at hok
            rw [← hcb] at hok
            have hI64 : c.Ok := hio.2 c (by rw [← hcj]; exact List.getElem_mem _)
            have HCC := hid hc
            clear hc
            have HOK := hid hI64
            have HCJ := hid hcj
            have HSL := hid hsl
            have HOB := hid hob
            have HIO := hid hio
            clear hcell hcb hcj hI64 hsl hob hio
            have hi0' : (0 : Int) ≤ (j : Int) := Int.natCast_nonneg _
            have hi1' : (j : Int) < (h.cells.length : Int) + bl.length := by omega
            by_cases hk : c.kind = 0
            · have hn : 0 ≤ c.n ∧ c.n < 65536 := by
                unfold Ce.OkAt at hok
                omega
              obtain ⟨hn0, hn1⟩ := hn
              have HK := hid hk
              rw [hk] at c0
              clear hk hok
              go_wp2_with fail
              go_roundw
              case rel =>
                refine ⟨j + 1, by omega, by omega, by go_num, Below.setCell HI.out.1 (by simp only; omega) _, ?_, ?_, ?_⟩
                · rw [Below.heap_setCell _ _ _ _ (by simp; omega)]; exact HI.out.2.1
                · rw [Below.heap_setCell _ _ _ _ (by simp; omega)]; exact HI.out.2.2.1
                · rw [shTo_step _ _ _ hj0 hlj, ← HCC.out]
                  refine OwnF.set Ce.vals_len HIO.out HOB.out (by rw [HSL.out]; exact hlt) (by omega) ?_ ?_
                  · rw [HCJ.out, shC, if_pos HK.out]; rfl
                  · rw [shC, if_pos HK.out]
                    obtain ⟨o1, o2, o3⟩ := HOK.out
                    exact ⟨o1, by unfold I64; simp only; omega, o3⟩
              case measure => simp [intOf]; omega
            · have hk' : (c.kind == 0) = false := by simpa using hk
              have HK := hid hk
              clear hk hok
              go_wp2_with fail
              go_roundw
              case rel =>
                refine ⟨j + 1, by omega, by omega, by go_num, HI.out.1, HI.out.2.1, HI.out.2.2.1, ?_⟩
                rw [shTo_same _ _ _ hj0 hlj (by rw [← HCC.out]; exact HK.out)]; exact HIO.out
              case measure => simp [intOf]; omega
          · have hje : j = h.cells.length + bl.length := by omega
            have HJE := hid hje
            have hib := HI.out.2.1
            have hic := HI.out.2.2.1
            obtain ⟨x0, x1, xf⟩ := box2 hib
            obtain ⟨y0, y1, yf⟩ := box2 hic
            have HIO := hid hio
            clear hib hic hje hio
            go_wp2_with fail
            refine bodyPost_ret (v := .tuple #[.agg #[.slice va (h.cells.length + bl.length) vc, .slice b h.trail.length tap], .int .i64 h.cells.length, .int .i64 0]) (by simp [results, Tryd.results70, go_sem, hcs, x0, x1, y0, y1]) rfl ?_
            have hb : Below w.heap.size w ((wr.setCell ⟨w.heap.size + 1, 0, none⟩ (.slice va (h.cells.length + bl.length) vc)).setCell ⟨w.heap.size + 1, 1, none⟩ (.slice b h.trail.length tap)) := Below.setCell (Below.setCell HI.out.1 (by simp) _) (by simp) _
            rw [loadF, if_neg (not_not_intro HG.out), if_neg hbig]
            refine Pure.mk hb ⟨_, rfl, _, _, rfl, ?_, ?_⟩
            · have h6 := HIO.out
              rw [HJE.out] at h6
              rw [show shTo h.cells.length (h.cells ++ bl) (h.cells.length + bl.length) = h.cells ++ bl.map (shC h.cells.length) from by rw [← HLen.out]; exact shTo_end _ _] at h6
              refine CesR.sl_of (OwnF.kept h6 fun k hk => ?_) (by simp; omega) (fun k hk => ?_)
              · have := (h6.lt k hk).1
                rw [Below.heap_setCell _ _ _ _ (by simp; omega), Below.heap_setCell _ _ _ _ (by simp; omega)]
              · have := (h6.lt k hk).1
                exact .inr (by unfold New; omega)
            · exact SlR.mono numR_lasts (by omega) (SlR.keeps numR_lasts HTR.out (Keeps.of_below hb)) (fun _ _ h => .inl h)
end Go.Proofs.YtlpmfkpefoegeabDoor
