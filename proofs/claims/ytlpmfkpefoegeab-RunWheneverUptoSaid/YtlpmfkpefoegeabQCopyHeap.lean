/-
  Copies of heaps.
-/
import Derived.Test.YtlpmfkpefoegeabHLoad
import Derived.Test.YtlpmfkpefoegeabQFits
import Derived.Test.YtlpmfkpefoegeabQClone
namespace Go.Proofs.Ytlpmfkpefoegeab
set_option linter.unusedVariables false
set_option linter.unusedSimpArgs false
open Go.RowKit
def HpNE (A : Nat → Prop) (x : Hp × Int × Int) (r : Value) (w' : World) : Prop := ∃ us, r = .tuple #[.agg us.toArray, .int .i64 x.2.1, .int .i64 x.2.2] ∧ Hp.rep A w' x.1 us
theorem Hp.rep_block {A : Nat → Prop} {w : World} {bl : List Ce} {v : Value} (hv : CesR A w bl v) : Hp.rep A w ⟨bl, []⟩ [v, .slice none 0 0] := ⟨v, _, rfl, hv, SlR.nil ..⟩
theorem Pure.mk {w w' : World} {R : Value → World → Prop} {v : Value} (hb : Below w.heap.size w w') (hr : R v w') : Pure w R (.returned v) w' := ⟨v, rfl, hb, hr⟩
theorem box2 {w : World} {g : Nat} {E : TypeId} {v0 v1 : Value} (h : w.heap[g]? = some (.cells #[v0, v1] E (0, 0))) :
    w.cell? ⟨g, 0, none⟩ = some v0 ∧ w.cell? ⟨g, 1, none⟩ = some v1 ∧ ∀ o, w.frozen? ⟨g, o, none⟩ = false :=
  ⟨(blk_cell h 0).trans rfl, (blk_cell h 1).trans rfl, fun o => by simp [World.frozen?, h]⟩
theorem HpNE.old {A : Nat → Prop} {w w' : World} {h : Hp} {vs : List Value} {n e : Int} (hh : Hp.rep A w h vs) (hb : Below w.heap.size w w') : HpNE (fun b => A b ∨ New w b) (h, n, e) (.tuple #[.agg vs.toArray, .int .i64 n, .int .i64 e]) w' :=
  ⟨vs, rfl, Hp.rep.mono (Hp.rep.keeps hh (Keeps.of_below hb)) (fun _ _ h => .inl h)⟩
theorem OwnR.val' {α : Type} {w : World} {base : Nat} {E : TypeId} {size : Nat} {R : (Nat → Prop) → World → α → List Value → Prop} {A : Nat → Prop} {xs : List α} {v : Value}
    (h : OwnR w base E size R A xs v) : ∃ a cap, v = .slice a xs.length cap ∧ xs.length ≤ cap ∧ cap ≤ maxLen := by
  obtain ⟨vals, hl, ho, he⟩ := h
  rcases ho.2 with ⟨h0, a, rfl⟩ | ⟨g, cap, cur, rfl, hc, hb, hg, hnc, hcm, _⟩
  · exact ⟨a, 0, by rw [h0], by omega, by simp [maxLen]⟩
  · exact ⟨_, cap, rfl, hnc, hcm⟩
theorem OwnC.val' {w : World} {base : Nat} {l : List Ce} {v : Value} (h : OwnC w base l v) : ∃ a cap, v = .slice a l.length cap ∧ l.length ≤ cap ∧ cap ≤ maxLen := OwnF.val h
def LInv (w : World) (base : Nat) (X1 X2 : Obj) (l : List Ce) (v : Value) (wr : World) : Prop := Below w.heap.size w wr ∧ wr.heap[w.heap.size]? = some X1 ∧ wr.heap[w.heap.size + 1]? = some X2 ∧ OwnC wr base l v
theorem CesR.sl_of {w : World} {base : Nat} {l : List Ce} {v : Value} {A : Nat → Prop} (h : OwnC w base l v) (hl : l.length ≤ 1048576) (hA : ∀ b, ownB v = some b → A b) : CesR A w l v := OwnF.sl Ce.vals_len Ce.vals_one h hl hA
set_option maxHeartbeats 4000000 in
theorem load_ok (h : Hp) (bl : List Ce) (A : Nat → Prop) (w : World) (vs : List Value) (v : Value) (hh : Hp.rep A w h vs) (hv : CesR A w bl v) :
    Calls Try.prog 12 #[.agg vs.toArray, v] w (Pure w (HpNE (fun b => A b ∨ New w b) (loadF h bl))) := by
  obtain ⟨a, cap, b, tap, rfl, hc1, hc2, hc3, ht1, ht2, ht3, hc, ht⟩ := Hp.rep2 hh
  obtain ⟨a', cap', b', off', rfl, hlc', hcm', hlb', -, -⟩ := hv.at
  have HH := hid hh
  have HC := hid hc
  have HV := hid hv
  have HG1 := hid (fun w' (hk : Keeps A w w') => good_ok h A w' _ (Hp.rep.keeps hh hk))
  have HG2 := hid (fun w' (hk : Keeps A w w') => good_ok ⟨bl, []⟩ A w' _ (Hp.rep.keeps (Hp.rep_block hv) hk))
  have HTR := hid ht
  clear hh hv hc ht
  go_enter Try.func12, Try.ntmps12
  go_wp2_with fail
  refine (HG1.out _ ((Keeps.alloc _ _ _).trans (Keeps.alloc _ _ _))).mono ?_
  rintro e w1 ⟨v, rfl, hb1, t, rfl, ht⟩
  have h2 := heap2 w (.cells #[.slice a h.cells.length cap, .slice b h.trail.length tap] 30) (.cells #[.slice none 0 0, .slice none 0 0] 30)
  have HX1 := hid (blk_below h2.1 hb1)
  have HX2 := hid (blk_below h2.2 hb1)
  have HB := hid (show Below w.heap.size w w1 from below_pure (below_pure (hb1.mono (by simp))))
  have hz : w.heap.size + 1 < w1.heap.size := by have := hb1.size; simp at this; omega
  have hz' : w.heap.size < w1.heap.size := by omega
  have HT := hid ht
  have hcs := cell_set
  clear h2 hb1 ht
  obtain ⟨x0, x1, xf⟩ := box2 HX1.out
  obtain ⟨y0, y1, yf⟩ := box2 HX2.out
  cases t with
  | false =>
    go_wp2_with fail
    refine bodyPost_ret (v := .tuple #[.agg #[.slice a h.cells.length cap, .slice b h.trail.length tap], .int .i64 0, .int .i64 1]) (by simp [results, Try.results12, go_sem, hcs, x0, x1, y0, y1]) rfl ?_
    have hg : ¬ (h.Good ∧ Hp.Good ⟨bl, []⟩) := fun hg => by have := HT.out.2 hg.1; cases this
    have hb : Below w.heap.size w ((w1.setCell ⟨w.heap.size + 1, 0, none⟩ (.slice a h.cells.length cap)).setCell ⟨w.heap.size + 1, 1, none⟩ (.slice b h.trail.length tap)) := Below.setCell (Below.setCell HB.out (by simp) _) (by simp) _
    rw [loadF, if_pos hg]
    exact Pure.mk hb (HpNE.old HH.out hb)
  | true =>
    have HT1 := hid (HT.out.1 rfl)
    clear HT
    go_wp2_with fail
    refine (HG2.out _ (Keeps.of_below HB.out)).mono ?_
    rintro e w2 ⟨v, rfl, hb2, t, rfl, ht⟩
    have HX1' := hid (blk_below HX1.out hb2)
    have HX2' := hid (blk_below HX2.out hb2)
    have HB' := hid (show Below w.heap.size w w2 from HB.out.trans (hb2.mono (by omega)))
    have hz2 : w.heap.size + 1 < w2.heap.size := by have := hb2.size; omega
    have hz2' : w.heap.size < w2.heap.size := by omega
    have HT' := hid ht
    clear ht x0 x1 xf y0 y1 yf hb2
    obtain ⟨x0, x1, xf⟩ := box2 HX1'.out
    obtain ⟨y0, y1, yf⟩ := box2 HX2'.out
    cases t with
    | false =>
      go_wp2_with fail
      refine bodyPost_ret (v := .tuple #[.agg #[.slice a h.cells.length cap, .slice b h.trail.length tap], .int .i64 0, .int .i64 1]) (by simp [results, Try.results12, go_sem, hcs, x0, x1, y0, y1]) rfl ?_
      have hg : ¬ (h.Good ∧ Hp.Good ⟨bl, []⟩) := fun hg => by have := HT'.out.2 hg.2; cases this
      have hb : Below w.heap.size w ((w2.setCell ⟨w.heap.size + 1, 0, none⟩ (.slice a h.cells.length cap)).setCell ⟨w.heap.size + 1, 1, none⟩ (.slice b h.trail.length tap)) := Below.setCell (Below.setCell HB'.out (by simp) _) (by simp) _
      rw [loadF, if_pos hg]
      exact Pure.mk hb (HpNE.old HH.out hb)
    | true =>
      have hg : h.Good ∧ Hp.Good ⟨bl, []⟩ := ⟨HT1.out, HT'.out.1 rfl⟩
      have HG := hid hg
      have hl1 : h.cells.length ≤ 65536 := hg.1.2.2.1
      have hl2 : bl.length ≤ 65536 := hg.2.2.2.1
      clear hg
      by_cases hbig : 65536 < h.cells.length + bl.length
      · have hbig' : (65536 : Int) < h.cells.length + bl.length := by omega
        go_wp2_with fail
        refine bodyPost_ret (v := .tuple #[.agg #[.slice a h.cells.length cap, .slice b h.trail.length tap], .int .i64 0, .int .i64 3]) (by simp [results, Try.results12, go_sem, hcs, x0, x1, y0, y1]) rfl ?_
        have hb : Below w.heap.size w ((w2.setCell ⟨w.heap.size + 1, 0, none⟩ (.slice a h.cells.length cap)).setCell ⟨w.heap.size + 1, 1, none⟩ (.slice b h.trail.length tap)) := Below.setCell (Below.setCell HB'.out (by simp) _) (by simp) _
        rw [loadF, if_neg (not_not_intro HG.out), if_pos hbig]
        exact Pure.mk hb (HpNE.old HH.out hb)
      · have hbig' : (h.cells.length : Int) + bl.length ≤ 65536 := by omega
        go_wp2_with fail
        refine (cloneC_ok h.cells A _ _ (SlR.keeps Ce.rep_lasts HC.out (Keeps.of_below HB'.out))).mono ?_
        rintro e w3 ⟨v, rfl, hb3, hown⟩
        obtain ⟨ca, cc, rfl, hcl, hcm⟩ := OwnC.val' hown
        have HX1'' := hid (blk_below HX1'.out hb3)
        have HX2'' := hid (blk_below HX2'.out hb3)
        have HB'' := hid (show Below w.heap.size w w3 from HB'.out.trans (hb3.mono (by omega)))
        have hz3 : w2.heap.size ≤ w3.heap.size := hb3.size
        have HO := hid (OwnF.ownR Ce.vals_len hown (fun _ => True))
        have HSL : Hid (CesR (fun b => True ∧ ownB (.slice ca h.cells.length cc) ≠ some b) w3 bl (.slice a' bl.length cap')) := by
          have h1 := SlR.mono (A' := fun b => A b ∧ b < w.heap.size) Ce.rep_lasts (by omega) HV.out (fun b hb h => ⟨h, hb⟩)
          exact SlR.mono Ce.rep_lasts (by omega) (SlR.keeps Ce.rep_lasts h1 (Keeps.of_below HB''.out)) (fun b _ hb => ⟨trivial, fun e => by have := (OwnF.lt hown b e).1; omega⟩)
        clear hown hb3 x0 x1 xf y0 y1 yf
        obtain ⟨x0, x1, xf⟩ := box2 HX1''.out
        obtain ⟨y0, y1, yf⟩ := box2 HX2''.out
        go_wp2_with (at_builtin; refine wpList_appS rfl (.tmp 31) (.tmp 32) 27 rfl w2.heap.size 71 3 32 tyCells Ce.rep_lasts (A := fun _ => True) (.slice ca h.cells.length cc) h.cells rfl HO.out _ rfl bl HSL.out (by omega) hz3 ?_; intro v2 w4 hown hgrew; obtain ⟨va, vc, hv2, hvl, hvm⟩ := OwnR.val' hown; rw [List.length_append] at hv2 hvl; subst hv2; have HO4 := hid (OwnF.of_ownR hown); have HG4 := hid hgrew; have hz4 := hgrew.size; clear hown hgrew)
        have hbb : h.cells.length ≤ (h.cells ++ bl).length := by simp
        have HGC := hid HG.out.2.1
        have HLen := hid (show (h.cells ++ bl).length = h.cells.length + bl.length from List.length_append)
        have hN : (h.cells ++ bl).length ≤ 65536 := by rw [HLen.out]; omega
        have hBW4 : Below w.heap.size w w4 := HG4.out.below HB''.out (by omega) (fun k hk => by have := (OwnF.lt (OwnF.of_ownR HO.out) k hk).1; omega)
        have hkeep : ∀ k, k < w2.heap.size → w4.heap[k]? = w3.heap[k]? := fun k hk => HG4.out.grown.block k (by omega) (fun e => by have := (OwnF.lt (OwnF.of_ownR HO.out) k e.symm).1; omega)
        have HX14 := hid ((hkeep _ hz2').trans HX1''.out)
        have HX24 := hid ((hkeep _ hz2).trans HX2''.out)
        have HBW4 := hid hBW4
        clear hBW4 hkeep x0 x1 xf y0 y1 yf
        go_loopw [9] (fun i wr => ∃ j : Nat, h.cells.length ≤ j ∧ j ≤ h.cells.length + bl.length ∧ i = .int .i64 j ∧ LInv w w2.heap.size (.cells #[.slice a h.cells.length cap, .slice b h.trail.length tap] 30) (.cells #[.slice none 0 0, .slice none 0 0] 30) (shTo h.cells.length (h.cells ++ bl) j) (.slice va (h.cells.length + bl.length) vc) wr) (fun i _ => h.cells.length + bl.length - (intOf i).toNat)
        case atStart => exact ⟨h.cells.length, Nat.le_refl _, by omega, rfl, HBW4.out, HX14.out, HX24.out, by rw [shTo_start]; exact HO4.out⟩
        case round =>
          obtain ⟨j, hj0, hj, rfl, hinv⟩ := hrel
          have HI := hid hinv
          obtain ⟨hib, hi1, hi2, hio⟩ := hinv
          have hsz5 : w.heap.size + 1 < wr.heap.size := blk_lt hi2
          clear hib hi1 hi2
          by_cases hlt : j < h.cells.length + bl.length
          · have hlj : j < (h.cells ++ bl).length := by rw [HLen.out]; exact hlt
            have hsl : (shTo h.cells.length (h.cells ++ bl) j).length = h.cells.length + bl.length := by rw [shTo_len, HLen.out]
            obtain ⟨g, gc, hve, hgc0, hgc1, hgc2, hob, hfz, hgl, hgb, hcell⟩ := OwnF.at Ce.vals_len hio (by omega)
            rw [hsl] at hve
            simp only [Value.slice.injEq, true_and] at hve
            obtain ⟨rfl, rfl⟩ := hve
            have hjl : j < (shTo h.cells.length (h.cells ++ bl) j).length := by rw [shTo_len]; exact hlj
            obtain ⟨c, hc⟩ : ∃ c, c = (h.cells ++ bl)[j] := ⟨_, rfl⟩
            have hcj : (shTo h.cells.length (h.cells ++ bl) j)[j]'hjl = c := by rw [shTo_get, if_neg (by omega), hc]
            have c0 := hcell j hjl 0 (.int .i64 c.kind) (by rw [hcj]; rfl)
            have c1 := hcell j hjl 1 (.int .i64 c.n) (by rw [hcj]; rfl)
            simp only [Nat.add_zero] at c0
            -- the block's own cell
            have hbj : j - h.cells.length < bl.length := by omega
            have hcb : c = bl[j - h.cells.length] := hc.trans (List.getElem_append_right hj0)
            have hok := HGC.out (j - h.cells.length) hbj
            simp only at hok
            rw [← hcb] at hok
            have hI64 : c.Ok := hio.2 c (by rw [← hcj]; exact List.getElem_mem _)
            have HCC := hid hc
            clear hc
            have HOK := hid hI64
            have HCJ := hid hcj
            have HSL := hid hsl
            have HOB := hid hob
            have HIO := hid hio
            clear hcell hcb hcj hI64 hsl hob hio
            have hi0' : (0 : Int) ≤ (j : Int) := Int.natCast_nonneg _
            have hi1' : (j : Int) < (h.cells.length : Int) + bl.length := by omega
            by_cases hk : c.kind = 0
            · have hn : 0 ≤ c.n ∧ c.n < 65536 := by
                unfold Ce.OkAt at hok
                omega
              obtain ⟨hn0, hn1⟩ := hn
              have HK := hid hk
              rw [hk] at c0
              clear hk hok
              go_wp2_with fail
              go_roundw
              case rel =>
                refine ⟨j + 1, by omega, by omega, by go_num, Below.setCell HI.out.1 (by simp only; omega) _, ?_, ?_, ?_⟩
                · rw [Below.heap_setCell _ _ _ _ (by simp; omega)]; exact HI.out.2.1
                · rw [Below.heap_setCell _ _ _ _ (by simp; omega)]; exact HI.out.2.2.1
                · rw [shTo_step _ _ _ hj0 hlj, ← HCC.out]
                  refine OwnF.set Ce.vals_len HIO.out HOB.out (by rw [HSL.out]; exact hlt) (by omega) ?_ ?_
                  · rw [HCJ.out, shC, if_pos HK.out]; rfl
                  · rw [shC, if_pos HK.out]
                    obtain ⟨o1, o2, o3⟩ := HOK.out
                    exact ⟨o1, by unfold I64; simp only; omega, o3⟩
              case measure => simp [intOf]; omega
            · have hk' : (c.kind == 0) = false := by simpa using hk
              have HK := hid hk
              clear hk hok
              go_wp2_with fail
              go_roundw
              case rel =>
                refine ⟨j + 1, by omega, by omega, by go_num, HI.out.1, HI.out.2.1, HI.out.2.2.1, ?_⟩
                rw [shTo_same _ _ _ hj0 hlj (by rw [← HCC.out]; exact HK.out)]; exact HIO.out
              case measure => simp [intOf]; omega
          · have hje : j = h.cells.length + bl.length := by omega
            have HJE := hid hje
            have hib := HI.out.2.1
            have hic := HI.out.2.2.1
            obtain ⟨x0, x1, xf⟩ := box2 hib
            obtain ⟨y0, y1, yf⟩ := box2 hic
            have HIO := hid hio
            clear hib hic hje hio
            go_wp2_with fail
            refine bodyPost_ret (v := .tuple #[.agg #[.slice va (h.cells.length + bl.length) vc, .slice b h.trail.length tap], .int .i64 h.cells.length, .int .i64 0]) (by simp [results, Try.results12, go_sem, hcs, x0, x1, y0, y1]) rfl ?_
            have hb : Below w.heap.size w ((wr.setCell ⟨w.heap.size + 1, 0, none⟩ (.slice va (h.cells.length + bl.length) vc)).setCell ⟨w.heap.size + 1, 1, none⟩ (.slice b h.trail.length tap)) := Below.setCell (Below.setCell HI.out.1 (by simp) _) (by simp) _
            rw [loadF, if_neg (not_not_intro HG.out), if_neg hbig]
            refine Pure.mk hb ⟨_, rfl, _, _, rfl, ?_, ?_⟩
            · have h6 := HIO.out
              rw [HJE.out] at h6
              rw [show shTo h.cells.length (h.cells ++ bl) (h.cells.length + bl.length) = h.cells ++ bl.map (shC h.cells.length) from by rw [← HLen.out]; exact shTo_end _ _] at h6
              refine CesR.sl_of (OwnF.kept h6 fun k hk => ?_) (by simp; omega) (fun k hk => ?_)
              · have := (h6.lt k hk).1
                rw [Below.heap_setCell _ _ _ _ (by simp; omega), Below.heap_setCell _ _ _ _ (by simp; omega)]
              · have := (h6.lt k hk).1
                exact .inr (by unfold New; omega)
            · exact SlR.mono numR_lasts (by omega) (SlR.keeps numR_lasts HTR.out (Keeps.of_below hb)) (fun _ _ h => .inl h)
def IntIs (n : Int) (r : Value) (_ : World) : Prop := r = .int .i64 n
theorem HpHid {A : Nat → Prop} {w : World} {h : Hp} {vs : List Value} (hh : Hp.rep A w h vs) :
    ∃ a cap b tap cb coff tb toff, vs = [.slice a h.cells.length cap, .slice b h.trail.length tap] ∧ h.cells.length ≤ cap ∧ cap ≤ maxLen ∧ h.cells.length ≤ 1048576 ∧ h.trail.length ≤ tap ∧ tap ≤ maxLen ∧ h.trail.length ≤ 1048576 ∧
      Hid (0 < h.cells.length → a = some ⟨cb, coff, none⟩ ∧ A cb) ∧ Hid (Elems A w 3 Ce.rep h.cells cb coff) ∧ Hid (0 < h.trail.length → b = some ⟨tb, toff, none⟩ ∧ A tb) ∧ Hid (Elems A w 1 numR h.trail tb toff) := by
  obtain ⟨a, cap, b, tap, rfl, hc1, hc2, hc3, ht1, ht2, ht3, hc, ht⟩ := Hp.rep2 hh
  obtain ⟨_, _, cb, coff, e, -, -, -, ha, he⟩ := hc.at
  simp only [Value.slice.injEq, true_and] at e
  obtain ⟨rfl, rfl⟩ := e
  obtain ⟨_, _, tb, toff, e, -, -, -, hb, hf⟩ := ht.at
  simp only [Value.slice.injEq, true_and] at e
  obtain ⟨rfl, rfl⟩ := e
  exact ⟨a, cap, b, tap, cb, coff, tb, toff, rfl, hc1, hc2, hc3, ht1, ht2, ht3, hid ha, hid he, hid hb, hid hf⟩
def LookSt (l : List Ce) (a0 : Int) (i : Nat) (a : Int) : Prop := lookN l (l.length + 1 - i) a = look l a0 ∧ I64 a
set_option maxHeartbeats 2000000 in
theorem look_ok (h : Hp) (a : Int) (ha : I64 a) (A : Nat → Prop) (w : World) (vs : List Value) (hh : Hp.rep A w h vs) :
    Calls Try.prog 39 #[.agg vs.toArray, .int .i64 a] w (Pure w (IntIs (look h.cells a))) := by
  obtain ⟨va, cap, vb, tap, cb, coff, tb, toff, rfl, hc1, hc2, hc3, ht1, ht2, ht3, HA, HE, HA', HE'⟩ := HpHid hh
  have HI := hid ha
  clear hh ha
  go_enter Try.func39, Try.ntmps39
  go_wp2_with fail
  go_loopw [1, 10] (fun x i wr => ∃ (j : Nat) (b : Int), j ≤ h.cells.length + 1 ∧ i = .int .i64 j ∧ x = .int .i64 b ∧ Below (w.heap.size + 1) (w.alloc (.cells #[.slice va h.cells.length cap, .slice vb h.trail.length tap] 30)) wr ∧ LookSt h.cells a j b) (fun _ i _ => h.cells.length + 1 - (intOf i).toNat)
  case atStart => exact ⟨0, a, Nat.zero_le _, rfl, rfl, Below.refl _ _, rfl, HI.out⟩
  case round =>
    obtain ⟨j, b, hj, rfl, rfl, hb, hst⟩ := hrel
    have HB := hid hb
    have HS := hid hst.1
    have hz := hb.size
    simp only [World.size_alloc] at hz
    have hz' : w.heap.size < wr.heap.size := hz
    have f0 : wr.cell? ⟨w.heap.size, 0, none⟩ = some (.slice va h.cells.length cap) := by
      rw [hb.cell (by simp)]; simp
    have hbi := hst.2
    clear hb hst
    by_cases hlt : j < h.cells.length + 1
    · have hlt' : (j : Int) < (h.cells.length : Int) + 1 := by omega
      have HK := hid (show h.cells.length + 1 - j = (h.cells.length - j) + 1 by omega)
      by_cases hin : Inb h.cells b
      · obtain ⟨v, rfl, hv, hcv⟩ := cellAt_eq hin
        have HCV := hid hcv
        obtain ⟨rfl, hAb⟩ := HA.out (by omega)
        have hk2 : Keeps A w wr := (Keeps.alloc _ _ _).trans (Keeps.of_below (HB.out.mono (by simp)))
        obtain ⟨c0, c1, c2, i0, i1, i2⟩ := ce_cells HE.out hAb hk2 hv
        have hlb : cb < wr.heap.size := World.block_lt_of_cell? wr _ c0
        have hv0 : (0 : Int) ≤ (v : Int) := Int.natCast_nonneg _
        have hv1 : (v : Int) < (h.cells.length : Int) := by omega
        have HIN := hid hin
        clear hk2 hcv hin
        by_cases hs : Stop h.cells (v : Int)
        · have hres : look h.cells a = (v : Int) := by
            have := HS.out
            rw [HK.out, lookN, if_neg (not_not_intro HIN.out), if_pos hs] at this
            exact this.symm
          have HRES := hid hres
          unfold Stop at hs
          rw [HCV.out] at hs
          have HST := hid hs
          clear hres hs
          by_cases hk : h.cells[v].kind = 0
          · have hn : h.cells[v].n = v := HST.out.resolve_left (not_not_intro hk)
            rw [hk] at c0
            rw [hn] at c1
            clear hk hn
            go_wp2_with fail
            go_ret
            exact ⟨_, rfl, below_pure ((HB.out.alloc hz _).mono (by simp)), by unfold IntIs; rw [HRES.out]; rfl⟩
          · have hk' : (h.cells[v].kind != 0) = true := by simpa using hk
            clear hk
            go_wp2_with fail
            go_ret
            exact ⟨_, rfl, below_pure ((HB.out.alloc hz _).mono (by simp)), by unfold IntIs; rw [HRES.out]; rfl⟩
        · have hnx : lookN h.cells (h.cells.length - j) h.cells[v].n = look h.cells a := by
            have := HS.out
            rw [HK.out, lookN, if_neg (not_not_intro HIN.out), if_neg hs, HCV.out] at this
            exact this
          have HNX := hid hnx
          unfold Stop at hs
          rw [HCV.out] at hs
          have hk : h.cells[v].kind = 0 := Decidable.not_not.1 fun e => hs (.inl e)
          have hn : ¬ h.cells[v].n = v := fun e => hs (.inr e)
          have hn' : (h.cells[v].n == (v : Int)) = false := by simpa using hn
          rw [hk] at c0
          clear hs hk hn hnx
          go_wp2_with fail
          go_roundw
          case rel =>
            refine ⟨j + 1, h.cells[v].n, by omega, by go_num, rfl, HB.out.alloc hz _, ?_, i1⟩
            rw [show h.cells.length + 1 - (j + 1) = h.cells.length - j by omega]
            exact HNX.out
          case measure => simp [intOf]; omega
      · have hres : look h.cells a = -1 := by
          have := HS.out
          rw [HK.out, lookN, if_pos hin] at this
          exact this.symm
        have HRES := hid hres
        unfold Inb at hin
        clear hres
        go_wp2_with fail
        all_goals first
          | (exfalso; omega)
          | (go_ret
             exact ⟨_, rfl, below_pure (HB.out.mono (by simp)), by unfold IntIs; rw [HRES.out]; rfl⟩)
          | go_ways
    · have hres : look h.cells a = -1 := by
        have := HS.out
        rw [show h.cells.length + 1 - j = 0 by omega, lookN] at this
        exact this.symm
      have HRES := hid hres
      clear hres
      have hje : j = h.cells.length + 1 := by omega
      subst hje
      go_wp2_with fail
      go_ret
      exact ⟨_, rfl, below_pure (HB.out.mono (by simp)), by unfold IntIs; rw [HRES.out]; rfl⟩
def IsV (u : Value) : Value → World → Prop := fun v _ => v = u
def IsOC (base : Nat) (l : List Ce) : Value → World → Prop := fun v w => OwnC w base l v
def IsON (base : Nat) (l : List Int) : Value → World → Prop := fun v w => OwnN w base l v
def Stays (R : Value → World → Prop) : Prop := ∀ v w w', R v w → Below w.heap.size w w' → R v w'
theorem stays_V (u : Value) : Stays (IsV u) := fun _ _ _ h _ => h
theorem stays_OC (base : Nat) (l : List Ce) : Stays (IsOC base l) := fun v w w' h hb => OwnF.below h hb
theorem stays_ON (base : Nat) (l : List Int) : Stays (IsON base l) := fun v w w' h hb => OwnF.below h hb
def posts (ps : List (Value → World → Prop)) (i : Nat) : Value → World → Prop := ps.getD i fun _ _ => True
theorem posts_stay {ps : List (Value → World → Prop)} (h : ∀ R ∈ ps, Stays R) (i : Nat) (v : Value) (w w' : World) (hp : posts ps i v w) (hb : Below w.heap.size w w') : posts ps i v w' := by
  unfold posts at *
  by_cases hi : i < ps.length
  · have e : ps.getD i (fun _ _ => True) = ps[i] := by simp [List.getD, hi]
    rw [e] at hp ⊢
    exact h _ (List.getElem_mem hi) v w w' hp hb
  · simp [List.getD, hi]
theorem ownF_apart {α β : Type} {f : α → List Value} {ok : α → Prop} {f' : β → List Value} {ok' : β → Prop} {E E' : TypeId} {size size' base base' : Nat} {w : World} {l : List α} {l' : List β} {v v' : Value}
    (hE : E ≠ E') (h : OwnF f ok E size w base l v) (h' : OwnF f' ok' E' size' w base' l' v') : ∀ k, ownB v = some k → ownB v' ≠ some k := by
  intro k hk hk'
  have key : ∀ {α : Type} {f : α → List Value} {ok : α → Prop} {E : TypeId} {size base : Nat} {l : List α} {v : Value}, OwnF f ok E size w base l v → ownB v = some k → ∃ c, w.heap[k]? = some (.cells c E (0, 0)) := by
    intro α f ok E size base l v h hk
    rcases h.1.2 with ⟨_, a, rfl⟩ | ⟨g, cap, cur, rfl, hc, hb, hg, _⟩
    · cases a <;> simp [ownB] at hk
    · simp only [ownB, Nat.pos_iff_ne_zero.1 hc, if_false, Option.some.injEq] at hk
      subst hk
      exact ⟨cur, hg⟩
  obtain ⟨c, h1⟩ := key h hk
  obtain ⟨c', h2⟩ := key h' hk'
  rw [h1] at h2
  simp only [Option.some.injEq, Obj.cells.injEq] at h2
  exact hE h2.2.1
def HpOwn (w : World) (base : Nat) (h : Hp) (vs : List Value) : Prop := ∃ c t, vs = [c, t] ∧ OwnC w base h.cells c ∧ OwnN w base h.trail t
def IsHpO (base : Nat) (h : Hp) : Value → World → Prop := fun v w => ∃ us, v = .agg us.toArray ∧ HpOwn w base h us
theorem stays_HpO (base : Nat) (h : Hp) : Stays (IsHpO base h) := fun v w w' ⟨us, e, c, t, e2, h1, h2⟩ hb => ⟨us, e, c, t, e2, OwnF.below h1 hb, OwnF.below h2 hb⟩
end Go.Proofs.Ytlpmfkpefoegeab
