/-
  Queries and clauses as blocks, as the document's own answer has them.
-/
import Derived.Test.YtlpmfkpefoegeabDoorHLaid
import Derived.Test.YtlpmfkpefoegeabDoorQIsClause
namespace Go.Proofs.YtlpmfkpefoegeabDoor
set_option linter.unusedVariables false
set_option linter.unusedSimpArgs false
open Go.RowKit

set_option maxHeartbeats 4000000 in
theorem qblock_ok (l : List Tm) (v : Int) (hi : I64 v) (hnd : Tm.nodesL l ≤ 4194304) (w : World) (u : Value) (hu : TmsR (fun b => b < w.heap.size) w l u) :
    Calls Tryd.prog 35 #[u, .int .i64 v] w (Pure w (BkPost (New w) (queryF l v))) := by
  have hcs := cell_set
  have HGQ := hid (fun (W : World) (h : Below w.heap.size w W) => isQuery_ok l v hnd hi (fun b => b < w.heap.size) W u (SlR.keeps Tm.rep_lasts hu (Keeps.of_below h)))
  have HU := hid hu
  obtain ⟨a, cap, b, off, rfl, hlc, hcm, hlb, ha, he⟩ := hu.at
  clear hu ha he
  go_enter Tryd.func35, Tryd.ntmps35
  go_wp2_with fail
  have HRS0 := hid (blk_new w (.cells #[.slice none 0 0, .int .i64 0, .int .i64 0, .slice none 0 0] 50))
  have HB0 := hid ((Below.refl _ w).alloc (Nat.le_refl _) (.cells #[.slice none 0 0, .int .i64 0, .int .i64 0, .slice none 0 0] 50))
  refine (HGQ.out _ HB0.out).mono ?_
  rintro e w1 ⟨r, rfl, hb1, q, rfl, hq⟩
  have HB1 := hid (HB0.out.trans (hb1.mono HB0.out.size))
  have HRS1 := hid (blk_below HRS0.out hb1)
  clear hb1 HB0 HRS0
  obtain ⟨rb, hrb⟩ : ∃ rb, rb = w.heap.size := ⟨_, rfl⟩
  have HRB := hid hrb
  have hrw : rb < w1.heap.size := by rw [hrb]; exact blk_lt HRS1.out
  have hrw0 : w.heap.size ≤ rb := by omega
  rw [← hrb] at HRS1
  obtain ⟨r0, r1, r2, r3, rf⟩ := blk4 HRS1.out
  rw [← hrb]
  clear hrb
  cases q with
  | false =>
    have hng : ¬ GoodQ l v := fun h => by have := hq.2 h; cases this
    have HQF := hid (show queryF l v = (bk0, 1) by rw [queryF, if_neg hng])
    clear hng hq
    go_wp2_with fail
    refine bodyPost_ret (v := .tuple #[.agg #[.slice none 0 0, .int .i64 0, .int .i64 0, .slice none 0 0], .int .i64 1]) (by simp [results, Tryd.results35, go_sem, hcs, r0, r1, r2, r3]; try rfl) rfl ?_
    rw [HQF.out]
    exact Pure.mk (Below.setCell (Below.setCell (Below.setCell (Below.setCell HB1.out (by simp only; omega) _) (by simp only; omega) _) (by simp only; omega) _) (by simp only; omega) _) ⟨_, _, rfl, SlR.nil .., SlR.nil ..⟩
  | true =>
    have hgq : GoodQ l v := hq.1 rfl
    have HQF := hid (show queryF l v = (queryB l v, 0) by rw [queryF, if_pos hgq])
    obtain ⟨v0, v8, l5, lg⟩ := hgq
    have hnd2 := nodesL_le l (fun g hg => (lg g hg).2.2)
    have HLG := hid (fun c => laids_goals l (fun t ht => ⟨(lg t ht).1, (lg t ht).2.1⟩) c)
    clear lg hnd
    obtain ⟨n, rfl⟩ := Int.eq_ofNat_of_zero_le v0
    clear hq
    have HU1 := hid (SlR.mono (A' := fun b => b < w1.heap.size) Tm.rep_lasts (by omega) (SlR.keeps Tm.rep_lasts HU.out (Keeps.of_below HB1.out)) (fun b _ hb => Nat.lt_of_lt_of_le hb HB1.out.size))
    go_wp2_with fail
    refine (blockOf_ok l n (by omega) (by omega) w1 _ HU1.out).mono ?_
    rintro e w2 ⟨r, rfl, hb2, cv, gv, rfl, hc2, hg2⟩
    rw [HLG.out] at hc2 hg2
    have HB2 := hid (HB1.out.trans (hb2.mono HB1.out.size))
    have HRS2 := hid (blk_below HRS1.out hb2)
    have HC2 := hid hc2
    have HG2 := hid hg2
    obtain ⟨k0, k1, k2, k3, kf⟩ := blk4 HRS2.out
    have hrw2 := blk_lt HRS2.out
    obtain ⟨c1, c2, _, _, rfl, -⟩ := SlR.at hc2
    obtain ⟨c3, c4, _, _, rfl, -⟩ := SlR.at hg2
    clear hb2 hc2 hg2 r0 r1 r2 r3 rf
    go_wp2_with fail
    have HCH := hid ((((((Ch.refl (fun b => b = rb) w2).setCell (p := ⟨rb, 0, none⟩) (.inl rfl) (.slice c1 (goalsF (begF n) l).1.length c2)).setCell (p := ⟨rb, 1, none⟩) (.inl rfl) (.int .i64 (n : Int))).setCell (p := ⟨rb, 2, none⟩) (.inl rfl) (.int .i64 (-1))).setCell (p := ⟨rb, 3, none⟩) (.inl rfl) (.slice c3 (goalsF (begF n) l).2.length c4)))
    refine bodyPost_ret (v := .tuple #[.agg #[.slice c1 (goalsF (begF n) l).1.length c2, .int .i64 (n : Int), .int .i64 (-1), .slice c3 (goalsF (begF n) l).2.length c4], .int .i64 0]) (by simp [results, Tryd.results35, go_sem, hcs, k0, k1, k2, k3]; try rfl) rfl ?_
    rw [HQF.out]
    have hKN := HCH.out.keeps (A := New w1) (fun b _ hb e => by unfold New at hb; omega)
    have hw1 := HB1.out.size
    refine Pure.mk (HB2.out.trans ⟨HCH.out.os, HCH.out.tape, HCH.out.output, HCH.out.size, fun k hk => HCH.out.block k (by have := HB2.out.size; omega) (by omega)⟩) ⟨_, _, rfl, ?_, ?_⟩
    · exact SlR.mono Ce.rep_lasts (by omega) (SlR.keeps Ce.rep_lasts HC2.out hKN) (fun b _ hb => by unfold New at hb ⊢; omega)
    · exact SlR.mono numR_lasts (by omega) (SlR.keeps numR_lasts HG2.out hKN) (fun b _ hb => by unfold New at hb ⊢; omega)
end Go.Proofs.YtlpmfkpefoegeabDoor
