/-
  queristref.LoadBlock.
-/
import Derived.Test.YtlpmfkpefoegeaaQLoad
import Derived.Test.YtlpmfkpefoegeaaQIsHeapR
import Derived.Test.YtlpmfkpefoegeaaQCopyHeap
namespace Go.Proofs.Ytlpmfkpefoegeaa
set_option linter.unusedVariables false
set_option linter.unusedSimpArgs false
open Go.RowKit

theorem OwnF.ne_box {α : Type} {f : α → List Value} {ok : α → Prop} {E E' : TypeId} {size base : Nat} {w : World} {l : List α} {v : Value} {g : Nat} {c : Array Value} {fr : Nat × Nat}
    (h : OwnF f ok E size w base l v) (hb : w.heap[g]? = some (.cells c E' fr)) (hE : E ≠ E') : ownB v ≠ some g := by
  intro hk
  rcases h.1.2 with ⟨_, a, rfl⟩ | ⟨g', cap, cur, rfl, hc, hb', hg, _⟩
  · cases a <;> simp [ownB] at hk
  · simp only [ownB, Nat.pos_iff_ne_zero.1 hc, if_false, Option.some.injEq] at hk
    subst hk
    rw [hg] at hb
    simp only [Option.some.injEq, Obj.cells.injEq] at hb
    exact hE hb.2.1

/-- what LoadBlock's loop keeps -/
def LbInv (w : World) (base ob : Nat) (E : TypeId) (X1 X2 : Obj) (l : List Ce) (t : List Int) (tv : Value) (cv : Value) (wr : World) : Prop :=
  Below w.heap.size w wr ∧ wr.heap[w.heap.size]? = some X1 ∧ wr.heap[w.heap.size + 1]? = some X2 ∧ wr.heap[ob]? = some (.cells #[cv, tv] E (0, 0)) ∧ OwnC wr base l cv ∧ OwnN wr base t tv ∧ base ≤ wr.heap.size

set_option maxHeartbeats 4000000 in
theorem loadBlock_ok (h : Hp) (bl : List Ce) (A : Nat → Prop) (w : World) (vs : List Value) (v : Value) (hh : Hp.rep A w h vs) (hv : CesR A w bl v) :
    Calls Try.prog 30 #[.agg vs.toArray, v] w (Pure w (HpNE (fun b => A b ∨ New w b) (loadF h bl))) := by
  obtain ⟨a, cap, b, tap, rfl, hc1, hc2, hc3, ht1, ht2, ht3, hc, ht⟩ := Hp.rep2 hh
  obtain ⟨a', cap', b', off', rfl, hlc', hcm', hlb', ha', he'⟩ := hv.at
  have HA' := hid ha'
  have HE' := hid he'
  clear ha' he'
  have HH := hid hh
  have HC := hid hc
  have HV := hid hv
  have HG1 := hid (fun w' (hk : Keeps A w w') => isHeap_ok h A w' _ (Hp.rep.keeps hh hk))
  have HG2 := hid (fun w' (hk : Keeps A w w') => isHeap_ok ⟨bl, []⟩ A w' _ (Hp.rep.keeps (Hp.rep_block hv) hk))
  have HTR := hid ht
  clear hh hv hc ht
  go_enter Try.func30, Try.ntmps30
  go_wp2_with fail
  refine (HG1.out _ ((Keeps.alloc _ _ _).trans (Keeps.alloc _ _ _))).mono ?_
  rintro e w1 ⟨v, rfl, hb1, t, rfl, ht⟩
  have h2 := heap2 w (.cells #[.slice a h.cells.length cap, .slice b h.trail.length tap] 38) (.cells #[.slice none 0 0, .slice none 0 0] 38)
  have HX1 := hid (blk_below h2.1 hb1)
  have HX2 := hid (blk_below h2.2 hb1)
  have HB := hid (show Below w.heap.size w w1 from below_pure (below_pure (hb1.mono (by simp))))
  have hz : w.heap.size + 1 < w1.heap.size := by have := hb1.size; simp at this; omega
  have hz' : w.heap.size < w1.heap.size := by omega
  have HT := hid ht
  have hcs := cell_set
  clear h2 hb1 ht
  obtain ⟨x0, x1, xf⟩ := box2 HX1.out
  obtain ⟨y0, y1, yf⟩ := box2 HX2.out
  cases t with
  | false =>
    go_wp2_with fail
    refine bodyPost_ret (v := .tuple #[.agg #[.slice a h.cells.length cap, .slice b h.trail.length tap], .int .i64 0, .int .i64 1]) (by simp [results, Try.results30, go_sem, hcs, x0, x1, y0, y1]) rfl ?_
    have hg : ¬ (h.Good ∧ Hp.Good ⟨bl, []⟩) := fun hg => by have := HT.out.2 hg.1; cases this
    have hb : Below w.heap.size w ((w1.setCell ⟨w.heap.size + 1, 0, none⟩ (.slice a h.cells.length cap)).setCell ⟨w.heap.size + 1, 1, none⟩ (.slice b h.trail.length tap)) := Below.setCell (Below.setCell HB.out (by simp) _) (by simp) _
    rw [loadF, if_pos hg]
    exact Pure.mk hb (HpNE.old HH.out hb)
  | true =>
    have HT1 := hid (HT.out.1 rfl)
    clear HT
    go_wp2_with fail
    refine (HG2.out _ (Keeps.of_below HB.out)).mono ?_
    rintro e w2 ⟨v, rfl, hb2, t, rfl, ht⟩
    have HX1' := hid (blk_below HX1.out hb2)
    have HX2' := hid (blk_below HX2.out hb2)
    have HB' := hid (show Below w.heap.size w w2 from HB.out.trans (hb2.mono (by omega)))
    have hz2 : w.heap.size + 1 < w2.heap.size := by have := hb2.size; omega
    have hz2' : w.heap.size < w2.heap.size := by omega
    have HT' := hid ht
    clear ht x0 x1 xf y0 y1 yf hb2
    obtain ⟨x0, x1, xf⟩ := box2 HX1'.out
    obtain ⟨y0, y1, yf⟩ := box2 HX2'.out
    cases t with
    | false =>
      go_wp2_with fail
      refine bodyPost_ret (v := .tuple #[.agg #[.slice a h.cells.length cap, .slice b h.trail.length tap], .int .i64 0, .int .i64 1]) (by simp [results, Try.results30, go_sem, hcs, x0, x1, y0, y1]) rfl ?_
      have hg : ¬ (h.Good ∧ Hp.Good ⟨bl, []⟩) := fun hg => by have := HT'.out.2 hg.2; cases this
      have hb : Below w.heap.size w ((w2.setCell ⟨w.heap.size + 1, 0, none⟩ (.slice a h.cells.length cap)).setCell ⟨w.heap.size + 1, 1, none⟩ (.slice b h.trail.length tap)) := Below.setCell (Below.setCell HB'.out (by simp) _) (by simp) _
      rw [loadF, if_pos hg]
      exact Pure.mk hb (HpNE.old HH.out hb)
    | true =>
      have hg : h.Good ∧ Hp.Good ⟨bl, []⟩ := ⟨HT1.out, HT'.out.1 rfl⟩
      have HG := hid hg
      have hl1 : h.cells.length ≤ 65536 := hg.1.2.2.1
      have hl2 : bl.length ≤ 65536 := hg.2.2.2.1
      clear hg
      by_cases hbig : 65536 < h.cells.length + bl.length
      · have hbig' : (65536 : Int) < h.cells.length + bl.length := by omega
        go_wp2_with fail
        refine bodyPost_ret (v := .tuple #[.agg #[.slice a h.cells.length cap, .slice b h.trail.length tap], .int .i64 0, .int .i64 3]) (by simp [results, Try.results30, go_sem, hcs, x0, x1, y0, y1]) rfl ?_
        have hb : Below w.heap.size w ((w2.setCell ⟨w.heap.size + 1, 0, none⟩ (.slice a h.cells.length cap)).setCell ⟨w.heap.size + 1, 1, none⟩ (.slice b h.trail.length tap)) := Below.setCell (Below.setCell HB'.out (by simp) _) (by simp) _
        rw [loadF, if_neg (not_not_intro HG.out), if_pos hbig]
        exact Pure.mk hb (HpNE.old HH.out hb)
      · have hbig' : (h.cells.length : Int) + bl.length ≤ 65536 := by omega
        go_wp2_with fail
        refine (copyHeap_ok h A _ _ (Hp.rep.keeps HH.out (Keeps.of_below HB'.out))).mono ?_
        rintro e w3 ⟨v, rfl, hb3, us, rfl, cv, tv, rfl, hoc, hot⟩
        have HX1'' := hid (blk_below HX1'.out hb3)
        have HX2'' := hid (blk_below HX2'.out hb3)
        have HB'' := hid (show Below w.heap.size w w3 from HB'.out.trans (hb3.mono (by omega)))
        have hz3 : w2.heap.size ≤ w3.heap.size := hb3.size
        have HOC := hid hoc
        have HOT := hid hot
        obtain ⟨ca, cc, rfl, hcl, hcm⟩ := OwnF.val hoc
        obtain ⟨ta, tc, rfl, htl, htm⟩ := OwnF.val hot
        clear hoc hot hb3 x0 x1 xf y0 y1 yf
        obtain ⟨x0, x1, xf⟩ := box2 HX1''.out
        obtain ⟨y0, y1, yf⟩ := box2 HX2''.out
        go_wp2_with fail
        have HI0 := hid (show LbInv w w2.heap.size w3.heap.size 38 (.cells #[.slice a h.cells.length cap, .slice b h.trail.length tap] 38) (.cells #[.slice none 0 0, .slice none 0 0] 38) h.cells h.trail (.slice ta h.trail.length tc) (.slice ca h.cells.length cc) (w3.alloc (.cells #[.slice ca h.cells.length cc, .slice ta h.trail.length tc] 38)) from
          ⟨HB''.out.alloc (by omega) _, blk_alloc HX1''.out _, blk_alloc HX2''.out _, blk_new _ _, OwnF.below HOC.out ((Below.refl _ _).alloc (Nat.le_refl _) _), OwnF.below HOT.out ((Below.refl _ _).alloc (Nat.le_refl _) _), by simp; omega⟩)
        have HGC := hid HG.out.2.1
        have hz33 : w2.heap.size ≤ w3.heap.size := hz3
        clear x0 x1 xf y0 y1 yf
        go_loopw [34] (fun i wr => ∃ (j : Nat) (cv : Value), j ≤ bl.length ∧ i = .int .i64 j ∧ LbInv w w2.heap.size w3.heap.size 38 (.cells #[.slice a h.cells.length cap, .slice b h.trail.length tap] 38) (.cells #[.slice none 0 0, .slice none 0 0] 38) (h.cells ++ (bl.take j).map (shC h.cells.length)) h.trail (.slice ta h.trail.length tc) cv wr) (fun i _ => bl.length - (intOf i).toNat)
        case atStart => exact ⟨0, _, Nat.zero_le _, rfl, by simpa using HI0.out⟩
        case round =>
          obtain ⟨j, cv, hj, rfl, hinv⟩ := hrel
          have HI := hid hinv
          obtain ⟨hib, hi1, hi2, hi3, hio, hit, hiz⟩ := hinv
          have hsz5 : w3.heap.size < wr.heap.size := blk_lt hi3
          have hll : (h.cells ++ (bl.take j).map (shC h.cells.length)).length = h.cells.length + j := by simp; omega
          have HLL := hid hll
          by_cases hlt : j < bl.length
          · obtain ⟨rfl, hAb⟩ := HA'.out (by omega)
            obtain ⟨c0, c1, c2, i0, i1, i2⟩ := ce_cells HE'.out hAb (Keeps.of_below hib) hlt
            obtain ⟨c, hc⟩ : ∃ c, c = bl[j] := ⟨_, rfl⟩
            rw [← hc] at c0 c1 c2 i0 i1 i2
            have hok := HGC.out j hlt
            simp only at hok
            rw [← hc] at hok
            have HCC := hid hc
            have HHI3 := hid hi3
            obtain ⟨va, vc, rfl, hvl, hvm⟩ := OwnF.val hio
            rw [hll] at hvl
            have HIO := hid hio
            have HIT := hid hit
            have HIB := hid hib
            have hnb : ownB (.slice va (h.cells.length + j) vc) ≠ some w3.heap.size := by rw [← hll]; exact OwnF.ne_box hio hi3 (by decide)
            have HNB := hid hnb
            have hlb : b' < wr.heap.size := World.block_lt_of_cell? wr _ c0
            rw [hll] at hi3
            obtain ⟨z0, z1, zf⟩ := box2 hi3
            clear hc hib hi1 hi2 hi3 hio hit hll hnb
            have hi0' : (0 : Int) ≤ (j : Int) := Int.natCast_nonneg _
            have hi1' : (j : Int) < (bl.length : Int) := by omega
            by_cases hk : c.kind = 0
            · have hn : 0 ≤ c.n ∧ c.n < 65536 := by
                unfold Ce.OkAt at hok
                omega
              obtain ⟨hn0, hn1⟩ := hn
              have HK := hid hk
              rw [hk] at c0
              clear hk hok
              have HRP := hid (show Ce.rep (fun b => True ∧ ownB (.slice va (h.cells.length + j) vc) ≠ some b) (wr.alloc (.cells #[.int .i64 0, .int .i64 (c.n + (h.cells.length : Int)), .string c.s] 73)) (shC h.cells.length c) [.int .i64 0, .int .i64 (c.n + (h.cells.length : Int)), .string c.s] from by
                refine ⟨?_, ?_⟩
                · rw [shC, if_pos HK.out]; exact ⟨i0, by unfold I64; simp only; omega, i2⟩
                · rw [shC, if_pos HK.out]; simp [Ce.vals, HK.out])
              have HOW := hid (show OwnR (wr.alloc (.cells #[.int .i64 0, .int .i64 (c.n + (h.cells.length : Int)), .string c.s] 73)) w2.heap.size 73 3 Ce.rep (fun _ => True) (h.cells ++ (bl.take j).map (shC h.cells.length)) (.slice va (h.cells.length + j) vc) from
                OwnF.ownR Ce.vals_len (OwnF.below (by rw [← HLL.out]; exact HIO.out) ((Below.refl _ _).alloc (Nat.le_refl _) _)) _)
              have HLN := hid (show (h.cells ++ (bl.take j).map (shC h.cells.length)).length < 4194304 ∧ w2.heap.size ≤ (wr.alloc (.cells #[.int .i64 0, .int .i64 (c.n + (h.cells.length : Int)), .string c.s] 73)).heap.size from ⟨by rw [HLL.out]; omega, by simp; omega⟩)
              go_wp2_with (at_builtin; go_must (refine wpList_app1 rfl (.tmp 47) (.tmp 49) 35 rfl w2.heap.size 73 3 32 tyCells Ce.rep_lasts (A := fun _ => True) (.slice va (h.cells.length + j) vc) _ rfl HOW.out (shC h.cells.length c) [.int .i64 0, .int .i64 (c.n + (h.cells.length : Int)), .string c.s] (by simp only [World.size_alloc]; rfl) rfl HRP.out HLN.out ?_); go_must (intro v2 w4 hown hgrew; obtain ⟨va2, vc2, hv2, hvl2, hvm2⟩ := OwnR.val' hown; rw [List.length_append, HLL.out, show [shC h.cells.length c].length = 1 from rfl] at hv2; subst hv2; have HO4 := hid (OwnF.of_ownR hown); have HG4 := hid hgrew; have hz4 := hgrew.size; simp only [World.size_alloc] at hz4; have hB4 := (hgrew.grown.block w3.heap.size (by simp; omega) (fun e => HNB.out e.symm)).trans (blk_alloc (blk_alloc HHI3.out _) _); rw [HLL.out] at hB4; have HB4 := hid hB4; obtain ⟨q0, q1, qf⟩ := box2 hB4; clear hown hgrew hB4))
              go_roundw
              case rel =>
                have hlt4 := HIO.out.lt
                rw [HLL.out] at hlt4
                have hBE : Below w.heap.size w w4 := HG4.out.below ((HIB.out.alloc (by omega) _).alloc (by simp; omega) _) (by simp; omega) (fun k hk => by have := (hlt4 k hk).1; omega)
                have hbig : ∀ k, k < w3.heap.size → k ≠ w3.heap.size → (∀ e, ownB (.slice va (h.cells.length + j) vc) = some e → k ≠ e) → w4.heap[k]? = wr.heap[k]? := fun k hk _ hne =>
                  (HG4.out.grown.block k (by simp; omega) (fun e => hne k e.symm rfl)).trans ((Below.heap_alloc _ _ _ (by simp; omega)).trans (Below.heap_alloc _ _ _ (by omega)))
                have hold : ∀ k, k < w2.heap.size → w4.heap[k]? = wr.heap[k]? := fun k hk => hbig k (by omega) (by omega) (fun e he => by have := (hlt4 e he).1; omega)
                have ho5 := HO4.out
                have hnb5 : ownB (.slice va2 (h.cells.length + j + 1) vc2) ≠ some w3.heap.size := OwnF.ne_box (by simpa [HLL.out] using ho5) HB4.out (by decide)
                have hll5 : (h.cells ++ (bl.take j).map (shC h.cells.length) ++ [shC h.cells.length c]) = h.cells ++ (bl.take (j + 1)).map (shC h.cells.length) := by
                  rw [List.take_succ_eq_append_getElem hlt, List.map_append, List.append_assoc, HCC.out]; rfl
                refine ⟨j + 1, .slice va2 (h.cells.length + j + 1) vc2, by omega, by go_num, Below.setCell hBE (by simp; omega) _, ?_, ?_, ?_, ?_, ?_, by simp; omega⟩
                · rw [Below.heap_setCell _ _ _ _ (by simp; omega), hold _ (by omega)]; exact HI.out.2.1
                · rw [Below.heap_setCell _ _ _ _ (by simp; omega), hold _ (by omega)]; exact HI.out.2.2.1
                · exact (blk_set HB4.out 0 _).trans rfl
                · rw [hll5] at ho5
                  exact ho5.kept fun k hk => Below.heap_setCell _ _ _ _ (fun e => hnb5 (hk.trans (congrArg some e)))
                · refine HIT.out.kept fun k hk => ?_
                  have hk1 := HIT.out.lt k hk
                  have hk2 : k ≠ w3.heap.size := fun e => OwnF.ne_box HIT.out HHI3.out (by decide) (e ▸ hk)
                  have hk3 : ownB (.slice va (h.cells.length + j) vc) ≠ some k := fun e => ownF_apart (by decide) HIO.out HIT.out k (by rw [HLL.out]; exact e) hk
                  rw [Below.heap_setCell _ _ _ _ hk2]
                  exact (HG4.out.grown.block k (by simp; omega) (fun e => hk3 e.symm)).trans ((Below.heap_alloc _ _ _ (by simp; omega)).trans (Below.heap_alloc _ _ _ (by omega)))
              case measure => simp [intOf]; omega
            · have hk' : (c.kind == 0) = false := by simpa using hk
              have HK := hid hk
              clear hk hok
              have HRP := hid (show Ce.rep (fun b => True ∧ ownB (.slice va (h.cells.length + j) vc) ≠ some b) (wr.alloc (.cells #[.int .i64 c.kind, .int .i64 c.n, .string c.s] 73)) (shC h.cells.length c) [.int .i64 c.kind, .int .i64 c.n, .string c.s] from by
                refine ⟨?_, ?_⟩
                · rw [shC, if_neg HK.out]; exact ⟨i0, i1, i2⟩
                · rw [shC, if_neg HK.out]; rfl)
              have HOW := hid (show OwnR (wr.alloc (.cells #[.int .i64 c.kind, .int .i64 c.n, .string c.s] 73)) w2.heap.size 73 3 Ce.rep (fun _ => True) (h.cells ++ (bl.take j).map (shC h.cells.length)) (.slice va (h.cells.length + j) vc) from
                OwnF.ownR Ce.vals_len (OwnF.below (by rw [← HLL.out]; exact HIO.out) ((Below.refl _ _).alloc (Nat.le_refl _) _)) _)
              have HLN := hid (show (h.cells ++ (bl.take j).map (shC h.cells.length)).length < 4194304 ∧ w2.heap.size ≤ (wr.alloc (.cells #[.int .i64 c.kind, .int .i64 c.n, .string c.s] 73)).heap.size from ⟨by rw [HLL.out]; omega, by simp; omega⟩)
              go_wp2_with (at_builtin; go_must (refine wpList_app1 rfl (.tmp 47) (.tmp 49) 35 rfl w2.heap.size 73 3 32 tyCells Ce.rep_lasts (A := fun _ => True) (.slice va (h.cells.length + j) vc) _ rfl HOW.out (shC h.cells.length c) [.int .i64 c.kind, .int .i64 c.n, .string c.s] (by simp only [World.size_alloc]; rfl) rfl HRP.out HLN.out ?_); go_must (intro v2 w4 hown hgrew; obtain ⟨va2, vc2, hv2, hvl2, hvm2⟩ := OwnR.val' hown; rw [List.length_append, HLL.out, show [shC h.cells.length c].length = 1 from rfl] at hv2; subst hv2; have HO4 := hid (OwnF.of_ownR hown); have HG4 := hid hgrew; have hz4 := hgrew.size; simp only [World.size_alloc] at hz4; have hB4 := (hgrew.grown.block w3.heap.size (by simp; omega) (fun e => HNB.out e.symm)).trans (blk_alloc (blk_alloc HHI3.out _) _); rw [HLL.out] at hB4; have HB4 := hid hB4; obtain ⟨q0, q1, qf⟩ := box2 hB4; clear hown hgrew hB4))
              go_roundw
              case rel =>
                have hlt4 := HIO.out.lt
                rw [HLL.out] at hlt4
                have hBE : Below w.heap.size w w4 := HG4.out.below ((HIB.out.alloc (by omega) _).alloc (by simp; omega) _) (by simp; omega) (fun k hk => by have := (hlt4 k hk).1; omega)
                have hbig : ∀ k, k < w3.heap.size → k ≠ w3.heap.size → (∀ e, ownB (.slice va (h.cells.length + j) vc) = some e → k ≠ e) → w4.heap[k]? = wr.heap[k]? := fun k hk _ hne =>
                  (HG4.out.grown.block k (by simp; omega) (fun e => hne k e.symm rfl)).trans ((Below.heap_alloc _ _ _ (by simp; omega)).trans (Below.heap_alloc _ _ _ (by omega)))
                have hold : ∀ k, k < w2.heap.size → w4.heap[k]? = wr.heap[k]? := fun k hk => hbig k (by omega) (by omega) (fun e he => by have := (hlt4 e he).1; omega)
                have ho5 := HO4.out
                have hnb5 : ownB (.slice va2 (h.cells.length + j + 1) vc2) ≠ some w3.heap.size := OwnF.ne_box (by simpa [HLL.out] using ho5) HB4.out (by decide)
                have hll5 : (h.cells ++ (bl.take j).map (shC h.cells.length) ++ [shC h.cells.length c]) = h.cells ++ (bl.take (j + 1)).map (shC h.cells.length) := by
                  rw [List.take_succ_eq_append_getElem hlt, List.map_append, List.append_assoc, HCC.out]; rfl
                refine ⟨j + 1, .slice va2 (h.cells.length + j + 1) vc2, by omega, by go_num, Below.setCell hBE (by simp; omega) _, ?_, ?_, ?_, ?_, ?_, by simp; omega⟩
                · rw [Below.heap_setCell _ _ _ _ (by simp; omega), hold _ (by omega)]; exact HI.out.2.1
                · rw [Below.heap_setCell _ _ _ _ (by simp; omega), hold _ (by omega)]; exact HI.out.2.2.1
                · exact (blk_set HB4.out 0 _).trans rfl
                · rw [hll5] at ho5
                  exact ho5.kept fun k hk => Below.heap_setCell _ _ _ _ (fun e => hnb5 (hk.trans (congrArg some e)))
                · refine HIT.out.kept fun k hk => ?_
                  have hk1 := HIT.out.lt k hk
                  have hk2 : k ≠ w3.heap.size := fun e => OwnF.ne_box HIT.out HHI3.out (by decide) (e ▸ hk)
                  have hk3 : ownB (.slice va (h.cells.length + j) vc) ≠ some k := fun e => ownF_apart (by decide) HIO.out HIT.out k (by rw [HLL.out]; exact e) hk
                  rw [Below.heap_setCell _ _ _ _ hk2]
                  exact (HG4.out.grown.block k (by simp; omega) (fun e => hk3 e.symm)).trans ((Below.heap_alloc _ _ _ (by simp; omega)).trans (Below.heap_alloc _ _ _ (by omega)))
              case measure => simp [intOf]; omega
          · have hje : j = bl.length := by omega
            have HJE := hid hje
            obtain ⟨L, hL⟩ : ∃ L, L = h.cells ++ (bl.take j).map (shC h.cells.length) := ⟨_, rfl⟩
            rw [← hL] at hio hll
            have HL := hid hL
            have HLL2 := hid hll
            clear hL
            obtain ⟨va, vc, rfl, hvl, hvm⟩ := OwnF.val hio
            obtain ⟨x0, x1, xf⟩ := box2 hi1
            obtain ⟨y0, y1, yf⟩ := box2 hi2
            obtain ⟨z0, z1, zf⟩ := box2 hi3
            have HIO := hid hio
            have HIT := hid hit
            have HIB := hid hib
            have HI3 := hid hi3
            have hlt4 := HIO.out.lt
            have HLT4 := hid hlt4
            clear hje hio hit hib hi1 hi2 hi3 hll hlt4
            go_wp2_with fail
            refine bodyPost_ret (v := .tuple #[.agg #[.slice va L.length vc, .slice ta h.trail.length tc], .int .i64 h.cells.length, .int .i64 0]) (by simp [results, Try.results30, go_sem, hcs, x0, x1, y0, y1]) rfl ?_
            have hb : Below w.heap.size w ((wr.setCell ⟨w.heap.size + 1, 0, none⟩ (.slice va L.length vc)).setCell ⟨w.heap.size + 1, 1, none⟩ (.slice ta h.trail.length tc)) := Below.setCell (Below.setCell HIB.out (by simp) _) (by simp) _
            have hkk : ∀ k, w2.heap.size ≤ k → ((wr.setCell ⟨w.heap.size + 1, 0, none⟩ (.slice va L.length vc)).setCell ⟨w.heap.size + 1, 1, none⟩ (.slice ta h.trail.length tc)).heap[k]? = wr.heap[k]? := fun k hk => by
              rw [Below.heap_setCell _ _ _ _ (by simp; omega), Below.heap_setCell _ _ _ _ (by simp; omega)]
            rw [loadF, if_neg (not_not_intro HG.out), if_neg hbig]
            refine Pure.mk hb ⟨_, rfl, _, _, rfl, ?_, ?_⟩
            · have h6 := OwnF.kept HIO.out (fun k hk => hkk k (HIO.out.lt k hk).1)
              have h7 : (h.cells ++ (bl.take j).map (shC h.cells.length)) = h.cells ++ bl.map (shC h.cells.length) := by rw [HJE.out, List.take_length]
              have h8 := CesR.sl_of (A := fun b => A b ∨ New w b) h6 (by rw [HLL2.out]; omega) (fun k hk => .inr (by have := (HIO.out.lt k hk).1; unfold New; omega))
              simp only
              rw [← h7, ← HL.out]
              exact h8
            · exact OwnF.sl numV_len numV_one (OwnF.kept HIT.out (fun k hk => hkk k (HIT.out.lt k hk).1)) ht3 (A := fun b => A b ∨ New w b) (fun k hk => Or.inr (by have := (HIT.out.lt k hk).1; unfold New; omega))
end Go.Proofs.Ytlpmfkpefoegeaa
