/-
  Copies of heaps.
-/
import Derived.Test.YtlpmfkpefoegeaaQPosts
import Derived.Test.YtlpmfkpefoegeaaQClone
namespace Go.Proofs.Ytlpmfkpefoegeaa
set_option linter.unusedVariables false
set_option linter.unusedSimpArgs false
open Go.RowKit

/-- a heap of one's own -/
def IsHpO (base : Nat) (h : Hp) : Value → World → Prop := fun v w => ∃ us, v = .agg us.toArray ∧ HpOwn w base h us
theorem stays_HpO (base : Nat) (h : Hp) : Stays (IsHpO base h) := fun v w w' ⟨us, e, c, t, e2, h1, h2⟩ hb => ⟨us, e, c, t, e2, OwnF.below h1 hb, OwnF.below h2 hb⟩

set_option maxHeartbeats 2000000 in
theorem copyHeap_ok (h : Hp) (A : Nat → Prop) (w : World) (vs : List Value) (hh : Hp.rep A w h vs) :
    Calls Try.prog 28 #[.agg vs.toArray] w (Pure w (IsHpO w.heap.size h)) := by
  obtain ⟨a, cap, b, tap, rfl, hc1, hc2, hc3, ht1, ht2, ht3, hc, ht⟩ := Hp.rep2 hh
  have HC := hid hc
  have HT := hid ht
  clear hh hc ht
  go_enter Try.func28, Try.ntmps28
  go_wp2_with fail
  generalize hW : (w.alloc (.cells #[.slice a h.cells.length cap, .slice b h.trail.length tap] 38)).alloc (.cells #[.slice none 0 0, .slice none 0 0] 38) = W0
  have hA0 : ∀ w', Below W0.heap.size W0 w' → Below w.heap.size w w' ∧ w'.cell? ⟨w.heap.size, 0, none⟩ = some (.slice a h.cells.length cap) ∧ w'.cell? ⟨w.heap.size, 1, none⟩ = some (.slice b h.trail.length tap) ∧ w'.heap[w.heap.size + 1]? = some (.cells #[.slice none 0 0, .slice none 0 0] 38 (0, 0)) := by
    intro w' hb
    subst hW
    have h2 := heap2 w (.cells #[.slice a h.cells.length cap, .slice b h.trail.length tap] 38) (.cells #[.slice none 0 0, .slice none 0 0] 38)
    have h3 := blk_below h2.1 hb
    have h4 := blk_below h2.2 hb
    exact ⟨below_pure (below_pure (hb.mono (by simp))), (blk_cell h3 0).trans rfl, (blk_cell h3 1).trans rfl, h4⟩
  have HA0 := hid hA0
  have hsz : W0.heap.size = w.heap.size + 2 := by subst hW; simp
  have hsz' : w.heap.size + 2 ≤ W0.heap.size := by omega
  have HSZ := hid hsz
  clear hA0 hW hsz
  refine wp_region_front 7 (Inv := fun w' => Below W0.heap.size W0 w') (Po := posts [IsV (.pointer (some ⟨w.heap.size, 0, none⟩)), IsV (.slice a h.cells.length cap), IsOC W0.heap.size h.cells, IsV (.pointer (some ⟨w.heap.size, 1, none⟩)), IsV (.slice b h.trail.length tap), IsON W0.heap.size h.trail, IsHpO W0.heap.size h]) (Rl := fun w w' => Below w.heap.size w w') (by kernel_rfl) (by kernel_rfl) (by kernel_rfl) (by kernel_rfl) ((Below.refl _ _).drew) ?_ ?_ ?_ ?_
  · refine posts_stay fun R hR => ?_
    simp only [List.mem_cons, List.not_mem_nil, or_false] at hR
    rcases hR with rfl | rfl | rfl | rfl | rfl | rfl | rfl <;> first | exact stays_V _ | exact stays_any | exact stays_B _ | exact stays_Tm _ | exact stays_Tms _ | exact stays_Cs _ | exact stays_Ns _ | exact stays_Bs _ | exact stays_Hp _ | exact stays_OC _ _ | exact stays_ON _ _ | exact stays_HpO _ _
  · exact fun w1 w2 h h' => h.trans (h'.mono h.size)
  · intro i o ho f ac ww hinv hpo hdst hold
    match i, ho with
      | 0, ho =>
        obtain rfl : _ = o := Option.some.inj ho
        have t1 := hold 1 (by kernel_rfl)
        refine Or.inl ⟨want0 rfl, ?_⟩
        clear hdst hpo hold ho
        clear hinv
        unfold Ans
        go_simp
        exact ⟨rfl, Below.refl _ _⟩
      | 1, ho =>
        obtain rfl : _ = o := Option.some.inj ho
        have t3 : ac.tmps[3]? = some (f 0) := hdst 0 3 (by kernel_rfl) (by kernel_rfl)
        have p0 : (IsV (.pointer (some ⟨w.heap.size, 0, none⟩))) (f 0) ww := hpo 0 (by kernel_rfl)
        refine Or.inl ⟨want0 rfl, ?_⟩
        clear hdst hpo hold ho
        rw [show f 0 = _ from p0] at t3
        obtain ⟨-, x0, x1, -⟩ := HA0.out ww hinv
        unfold Ans
        go_simp
        exact ⟨rfl, Below.refl _ _⟩
      | 2, ho =>
        obtain rfl : _ = o := Option.some.inj ho
        have t4 : ac.tmps[4]? = some (f 1) := hdst 1 4 (by kernel_rfl) (by kernel_rfl)
        have p1 : (IsV (.slice a h.cells.length cap)) (f 1) ww := hpo 1 (by kernel_rfl)
        refine Or.inl ⟨want0 rfl, ?_⟩
        clear hdst hpo hold ho
        rw [show f 1 = _ from p1] at t4
        have hB := hinv
        refine ans_app (.const (.slice none 0 0)) (.tmp 4) 35 rfl W0.heap.size 73 3 32 tyCells Ce.rep_lasts (A := fun _ => True) (.slice none 0 0) [] rfl (OwnR.nil ..) (.slice a h.cells.length cap) (by clear hB; go_simp) h.cells ?_ (by simp; omega) hB.size ?_
        · exact SlR.mono Ce.rep_lasts (by omega) (SlR.keeps Ce.rep_lasts HC.out (Keeps.of_below (HA0.out ww hB).1)) (fun _ _ _ => ⟨trivial, by simp [ownB]⟩)
        · intro v2 w2 k1 k2
          exact ⟨OwnF.of_ownR (A := fun _ => True) (by rw [List.nil_append] at k1; exact k1), k2.below (Below.refl _ _) (Nat.le_refl _) (fun k hk => by simp [ownB] at hk)⟩
      | 3, ho =>
        obtain rfl : _ = o := Option.some.inj ho
        have t1 := hold 1 (by kernel_rfl)
        refine Or.inl ⟨want0 rfl, ?_⟩
        clear hdst hpo hold ho
        clear hinv
        unfold Ans
        go_simp
        exact ⟨rfl, Below.refl _ _⟩
      | 4, ho =>
        obtain rfl : _ = o := Option.some.inj ho
        have t6 : ac.tmps[6]? = some (f 3) := hdst 3 6 (by kernel_rfl) (by kernel_rfl)
        have p3 : (IsV (.pointer (some ⟨w.heap.size, 1, none⟩))) (f 3) ww := hpo 3 (by kernel_rfl)
        refine Or.inl ⟨want0 rfl, ?_⟩
        clear hdst hpo hold ho
        rw [show f 3 = _ from p3] at t6
        obtain ⟨-, x0, x1, -⟩ := HA0.out ww hinv
        unfold Ans
        go_simp
        exact ⟨rfl, Below.refl _ _⟩
      | 5, ho =>
        obtain rfl : _ = o := Option.some.inj ho
        have t7 : ac.tmps[7]? = some (f 4) := hdst 4 7 (by kernel_rfl) (by kernel_rfl)
        have p4 : (IsV (.slice b h.trail.length tap)) (f 4) ww := hpo 4 (by kernel_rfl)
        refine Or.inl ⟨want0 rfl, ?_⟩
        clear hdst hpo hold ho
        rw [show f 4 = _ from p4] at t7
        have hB := hinv
        refine ans_app (.const (.slice none 0 0)) (.tmp 7) 36 rfl W0.heap.size 3 1 8 tyNums numR_lasts (A := fun _ => True) (.slice none 0 0) [] rfl (OwnR.nil ..) (.slice b h.trail.length tap) (by clear hB; go_simp) h.trail ?_ (by simp; omega) hB.size ?_
        · exact SlR.mono numR_lasts (by omega) (SlR.keeps numR_lasts HT.out (Keeps.of_below (HA0.out ww hB).1)) (fun _ _ _ => ⟨trivial, by simp [ownB]⟩)
        · intro v2 w2 k1 k2
          exact ⟨OwnF.of_ownR (A := fun _ => True) (by rw [List.nil_append] at k1; exact k1), k2.below (Below.refl _ _) (Nat.le_refl _) (fun k hk => by simp [ownB] at hk)⟩
      | 6, ho =>
        obtain rfl : _ = o := Option.some.inj ho
        have t5 : ac.tmps[5]? = some (f 2) := hdst 2 5 (by kernel_rfl) (by kernel_rfl)
        have p2 : (IsOC W0.heap.size h.cells) (f 2) ww := hpo 2 (by kernel_rfl)
        have t8 : ac.tmps[8]? = some (f 5) := hdst 5 8 (by kernel_rfl) (by kernel_rfl)
        have p5 : (IsON W0.heap.size h.trail) (f 5) ww := hpo 5 (by kernel_rfl)
        refine Or.inl ⟨want0 rfl, ?_⟩
        clear hdst hpo hold ho
        have P2 := hid p2
        have P5 := hid p5
        obtain ⟨a1, c1, e2, -⟩ := OwnF.val p2
        obtain ⟨a2, c2, e5, -⟩ := OwnF.val p5
        rw [e2] at t5
        rw [e5] at t8
        clear hinv p2 p5
        unfold Ans
        go_simp
        refine ⟨⟨_, rfl, _, _, rfl, ?_, ?_⟩, Below.refl _ _⟩
        · rw [← e2]; exact P2.out
        · rw [← e5]; exact P5.out
      | i + 7, ho => simp at ho
  · intro f ww hinv hpo
    have p6 : (IsHpO W0.heap.size h) (f 6) ww := hpo 6 (by decide)
    obtain ⟨us, e6, c, t, rfl, hoc, hot⟩ := p6
    have ET := hoc.val
    have ES := hot.val
    obtain ⟨a1, c1, rfl, -⟩ := ET
    obtain ⟨a2, c2, rfl, -⟩ := ES
    obtain ⟨b3, a3, a4, a5⟩ := HA0.out ww hinv
    simp only [fillT, List.take_succ_cons, List.take_zero, List.setIfInBounds_toArray, List.set_cons_succ, List.set_cons_zero]
    rw [e6]
    refine wpAny_only (i := 7) (by kernel_rfl) (wpOp_run rfl (by rfl) ?_)
    have HOC := hid hoc
    have HOT := hid hot
    have HBB := hid hinv
    have HB3 := hid b3
    have hz : w.heap.size + 2 ≤ ww.heap.size := by have := hinv.size; omega
    have y0 : ww.cell? ⟨w.heap.size + 1, 0, none⟩ = some (.slice none 0 0) := (blk_cell a5 0).trans rfl
    have y1 : ww.cell? ⟨w.heap.size + 1, 1, none⟩ = some (.slice none 0 0) := (blk_cell a5 1).trans rfl
    have yf : ∀ o, ww.frozen? ⟨w.heap.size + 1, o, none⟩ = false := fun o => by simp [World.frozen?, a5]
    have hcs := cell_set
    clear hoc hot hinv hpo b3 a3 a4 a5
    go_simp
    refine wpAny_all (by kernel_rfl) ?_ _
    go_wp2_with fail
    refine bodyPost_ret (v := .agg #[.slice a1 h.cells.length c1, .slice a2 h.trail.length c2]) (by simp [results, Try.results28, go_sem, hcs, y0, y1]) rfl ⟨_, rfl, ?_, _, rfl, _, _, rfl, ?_, ?_⟩
    · refine Below.setCell (Below.setCell HB3.out ?_ _) ?_ _ <;> simp
    · refine (HOC.out.kept fun k hk => ?_).rebase fun k hk => by have := (HOC.out.lt k hk).1; omega
      have := (HOC.out.lt k hk).1
      rw [Below.heap_setCell _ _ _ _ (by simp; omega), Below.heap_setCell _ _ _ _ (by simp; omega)]
    · refine (HOT.out.kept fun k hk => ?_).rebase fun k hk => by have := (HOT.out.lt k hk).1; omega
      have := (HOT.out.lt k hk).1
      rw [Below.heap_setCell _ _ _ _ (by simp; omega), Below.heap_setCell _ _ _ _ (by simp; omega)]
end Go.Proofs.Ytlpmfkpefoegeaa
