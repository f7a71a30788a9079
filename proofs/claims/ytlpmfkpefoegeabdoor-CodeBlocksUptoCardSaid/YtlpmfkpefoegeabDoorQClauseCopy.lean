/-
  Copies of clauses and of programs, of their own memory.
-/
import Derived.Test.YtlpmfkpefoegeabDoorQCopyHeap
import Derived.Test.YtlpmfkpefoegeabDoorQClause2
import Derived.Test.YtlpmfkpefoegeabDoorQCopy
namespace Go.Proofs.YtlpmfkpefoegeabDoor
set_option linter.unusedVariables false
set_option linter.unusedSimpArgs false
open Go.RowKit

def IsTmN (base : Nat) (t : Tm) : Value → World → Prop := fun v w => ∃ us, v = .agg us.toArray ∧ Tm.rep (fun b => base ≤ b) w t us
def IsTmsN (base : Nat) (l : List Tm) : Value → World → Prop := fun v w => TmsR (fun b => base ≤ b) w l v
theorem stays_TmN (base : Nat) (t : Tm) : Stays (IsTmN base t) := fun v w w' ⟨us, h1, h2⟩ hb => ⟨us, h1, Tm.rep_lasts.1 _ _ _ _ _ h2 (Keeps.of_below hb)⟩
theorem stays_TmsN (base : Nat) (l : List Tm) : Stays (IsTmsN base l) := fun v w w' h hb => h.below hb

set_option maxHeartbeats 2000000 in
theorem clauseCopy_ok (c : Cl) (A : Nat → Prop) (w : World) (vs : List Value) (hc : Cl.rep A w c vs) :
    Calls Tryd.prog 23 #[.agg vs.toArray] w (Pure w fun v w' => ∃ us, v = .agg us.toArray ∧ Cl.rep (New w) w' c us) := by
  obtain ⟨h, l, v⟩ := c
  obtain ⟨pa, pac, pb, pbc, rfl, hh, hb, hi⟩ := hc
  simp only at hh hb hi
  have HH := hid hh
  have HBD := hid hb
  have HI := hid hi
  clear hh hb hi
  go_enter Tryd.func23, Tryd.ntmps23
  go_wp2_with fail
  generalize hW : (w.alloc (.cells #[.int .i64 h.kind, .int .i64 h.n, .string h.s, .slice pa h.args.length pac, .slice pb l.length pbc, .int .i64 v] 39)).alloc (.cells #[.int .i64 0, .int .i64 0, .string ⟨#[]⟩, .slice none 0 0, .slice none 0 0, .int .i64 0] 39) = W0
  have hA0 : ∀ w', Below W0.heap.size W0 w' → Below w.heap.size w w' ∧ RowAt w' w.heap.size 0 [.int .i64 h.kind, .int .i64 h.n, .string h.s, .slice pa h.args.length pac] ∧ w'.cell? ⟨w.heap.size, 4, none⟩ = some (.slice pb l.length pbc) ∧ w'.heap[w.heap.size]? = some (.cells #[.int .i64 h.kind, .int .i64 h.n, .string h.s, .slice pa h.args.length pac, .slice pb l.length pbc, .int .i64 v] 39 (0, 0)) ∧ w'.heap[w.heap.size + 1]? = some (.cells #[.int .i64 0, .int .i64 0, .string ⟨#[]⟩, .slice none 0 0, .slice none 0 0, .int .i64 0] 39 (0, 0)) := by
    intro w' hb
    subst hW
    have h2 := heap2 w (.cells #[.int .i64 h.kind, .int .i64 h.n, .string h.s, .slice pa h.args.length pac, .slice pb l.length pbc, .int .i64 v] 39) (.cells #[.int .i64 0, .int .i64 0, .string ⟨#[]⟩, .slice none 0 0, .slice none 0 0, .int .i64 0] 39)
    have h3 := blk_below h2.1 hb
    have h4 := blk_below h2.2 hb
    exact ⟨below_pure (below_pure (hb.mono (by simp))), by intro j u hj; match j, hj with | 0, hj => exact (blk_cell h3 0).trans hj | 1, hj => exact (blk_cell h3 1).trans hj | 2, hj => exact (blk_cell h3 2).trans hj | 3, hj => exact (blk_cell h3 3).trans hj | j + 4, hj => simp at hj, (blk_cell h3 4).trans rfl, h3, h4⟩
  have HA0 := hid hA0
  have hsz : W0.heap.size = w.heap.size + 2 := by subst hW; simp
  have hsz' : w.heap.size + 2 ≤ W0.heap.size := by omega
  have HSZ := hid hsz
  clear hA0 hW hsz
  refine wp_region_front 7 (Inv := fun w' => Below W0.heap.size W0 w') (Po := posts [IsV (.pointer (some ⟨w.heap.size, 0, none⟩)), IsV (.agg #[.int .i64 h.kind, .int .i64 h.n, .string h.s, .slice pa h.args.length pac]), IsTmN W0.heap.size h, IsV (.pointer (some ⟨w.heap.size, 4, none⟩)), IsV (.slice pb l.length pbc), IsTmsN W0.heap.size l, IsV (.pointer (some ⟨w.heap.size, 0, none⟩))]) (Rl := fun w w' => Below w.heap.size w w') (by kernel_rfl) (by kernel_rfl) (by kernel_rfl) (by kernel_rfl) ((Below.refl _ _).drew) ?_ ?_ ?_ ?_
  · refine posts_stay fun R hR => ?_
    simp only [List.mem_cons, List.not_mem_nil, or_false] at hR
    rcases hR with rfl | rfl | rfl | rfl | rfl | rfl | rfl <;> first | exact stays_V _ | exact stays_any | exact stays_B _ | exact stays_Tm _ | exact stays_Tms _ | exact stays_Cs _ | exact stays_Ns _ | exact stays_Bs _ | exact stays_Hp _ | exact stays_OC _ _ | exact stays_ON _ _ | exact stays_TmN _ _ | exact stays_TmsN _ _
  · exact fun w1 w2 h h' => h.trans (h'.mono h.size)
  · intro i o ho f ac ww hinv hpo hdst hold
    match i, ho with
      | 0, ho =>
        obtain rfl : _ = o := Option.some.inj ho
        have t1 := hold 1 (by kernel_rfl)
        refine Or.inl ⟨want0 rfl, ?_⟩
        clear hdst hpo hold ho
        clear hinv
        unfold Ans
        go_simp
        exact ⟨rfl, Below.refl _ _⟩
      | 1, ho =>
        obtain rfl : _ = o := Option.some.inj ho
        have t3 : ac.tmps[3]? = some (f 0) := hdst 0 3 (by kernel_rfl) (by kernel_rfl)
        have p0 : (IsV (.pointer (some ⟨w.heap.size, 0, none⟩))) (f 0) ww := hpo 0 (by kernel_rfl)
        refine Or.inl ⟨want0 rfl, ?_⟩
        clear hdst hpo hold ho
        rw [show f 0 = _ from p0] at t3
        obtain ⟨-, q1, q2, q3, -⟩ := HA0.out ww hinv
        obtain ⟨r0, r1, r2, r3, r4, r5, rf⟩ := blk6 q3
        clear q3
        unfold Ans
        go_simp
        exact ⟨rfl, Below.refl _ _⟩
      | 2, ho =>
        obtain rfl : _ = o := Option.some.inj ho
        have t4 : ac.tmps[4]? = some (f 1) := hdst 1 4 (by kernel_rfl) (by kernel_rfl)
        have p1 : (IsV (.agg #[.int .i64 h.kind, .int .i64 h.n, .string h.s, .slice pa h.args.length pac])) (f 1) ww := hpo 1 (by kernel_rfl)
        refine Or.inl ⟨want0 rfl, ?_⟩
        clear hdst hpo hold ho
        rw [show f 1 = _ from p1] at t4
        unfold Ans
        go_simp
        refine (copyTerm_ok h A _ _ (Tm.rep_lasts.1 _ _ _ _ _ HH.out (Keeps.of_below (HA0.out ww hinv).1))).mono ?_
        rintro e w1 ⟨r, rfl, hb, us, rfl, hr⟩
        exact ⟨_, rfl, ⟨us, rfl, Tm.rep_lasts.2.1 _ _ _ _ _ hr (fun b _ hb => Nat.le_trans hinv.size hb)⟩, hb⟩
      | 3, ho =>
        obtain rfl : _ = o := Option.some.inj ho
        have t1 := hold 1 (by kernel_rfl)
        refine Or.inl ⟨want0 rfl, ?_⟩
        clear hdst hpo hold ho
        clear hinv
        unfold Ans
        go_simp
        exact ⟨rfl, Below.refl _ _⟩
      | 4, ho =>
        obtain rfl : _ = o := Option.some.inj ho
        have t6 : ac.tmps[6]? = some (f 3) := hdst 3 6 (by kernel_rfl) (by kernel_rfl)
        have p3 : (IsV (.pointer (some ⟨w.heap.size, 4, none⟩))) (f 3) ww := hpo 3 (by kernel_rfl)
        refine Or.inl ⟨want0 rfl, ?_⟩
        clear hdst hpo hold ho
        rw [show f 3 = _ from p3] at t6
        obtain ⟨-, q1, q2, q3, -⟩ := HA0.out ww hinv
        obtain ⟨r0, r1, r2, r3, r4, r5, rf⟩ := blk6 q3
        clear q3
        unfold Ans
        go_simp
        exact ⟨rfl, Below.refl _ _⟩
      | 5, ho =>
        obtain rfl : _ = o := Option.some.inj ho
        have t7 : ac.tmps[7]? = some (f 4) := hdst 4 7 (by kernel_rfl) (by kernel_rfl)
        have p4 : (IsV (.slice pb l.length pbc)) (f 4) ww := hpo 4 (by kernel_rfl)
        refine Or.inl ⟨want0 rfl, ?_⟩
        clear hdst hpo hold ho
        rw [show f 4 = _ from p4] at t7
        unfold Ans
        go_simp
        refine (copyTerms_ok l A _ _ (SlR.keeps Tm.rep_lasts HBD.out (Keeps.of_below (HA0.out ww hinv).1))).mono ?_
        rintro e w1 ⟨r, rfl, hb, hr⟩
        exact ⟨_, rfl, SlR.mono Tm.rep_lasts (by omega) hr (fun b _ hb => Nat.le_trans hinv.size hb), hb⟩
      | 6, ho =>
        obtain rfl : _ = o := Option.some.inj ho
        have t1 := hold 1 (by kernel_rfl)
        refine Or.inl ⟨want0 rfl, ?_⟩
        clear hdst hpo hold ho
        clear hinv
        unfold Ans
        go_simp
        exact ⟨rfl, Below.refl _ _⟩
      | i + 7, ho => simp at ho
  · intro f ww hinv hpo
    have p2 : (IsTmN W0.heap.size h) (f 2) ww := hpo 2 (by decide)
    have p5 : (IsTmsN W0.heap.size l) (f 5) ww := hpo 5 (by decide)
    have p6 : f 6 = .pointer (some ⟨w.heap.size, 0, none⟩) := hpo 6 (by decide)
    obtain ⟨us, e2, hr⟩ := p2
    obtain ⟨a2, c2, b2, o2, e5, -⟩ := SlR.at p5
    have HR2 := hid hr
    have HR5 := hid p5
    obtain ⟨sa, sc, rfl, -⟩ := Tm.rep4 hr
    obtain ⟨b3, x0, x1, b4, b5⟩ := HA0.out ww hinv
    obtain ⟨y0, y1, y2, y3, y4, y5, yf⟩ := blk6 b4
    obtain ⟨z0, z1, z2, z3, z4, z5, zf⟩ := blk6 b5
    simp only [fillT, List.take_succ_cons, List.take_zero, List.setIfInBounds_toArray, List.set_cons_succ, List.set_cons_zero]
    rw [e2, e5, p6]
    rw [e5] at HR5
    have HBB := hid b3
    have hz : w.heap.size + 2 ≤ ww.heap.size := by have := hinv.size; omega
    have hcs := cell_set
    clear hr p5 e2 e5 p6 hinv hpo b3 x0 x1 b4 b5
    refine wpAny_only (i := 7) (by kernel_rfl) (wpOp_run rfl (by rfl) ?_)
    go_simp
    refine wpAny_only (i := 8) (by kernel_rfl) (wpOp_run rfl (by rfl) ?_)
    go_simp
    refine wpAny_only (i := 9) (by kernel_rfl) (wpOp_run rfl (by rfl) ?_)
    go_simp
    refine wpAny_all (by kernel_rfl) ?_ _
    go_wp2_with fail
    have HCH := hid (show Ch (fun b => b = w.heap.size ∨ b = w.heap.size + 1) ww (((((((((((ww.setCell ⟨w.heap.size, 0, none⟩ (.int .i64 h.kind)).setCell ⟨w.heap.size, 1, none⟩ (.int .i64 h.n)).setCell ⟨w.heap.size, 2, none⟩ (.string h.s)).setCell ⟨w.heap.size, 3, none⟩ (.slice sa h.args.length sc)).setCell ⟨w.heap.size, 4, none⟩ (.slice a2 l.length c2)).setCell ⟨w.heap.size + 1, 0, none⟩ (.int .i64 h.kind)).setCell ⟨w.heap.size + 1, 1, none⟩ (.int .i64 h.n)).setCell ⟨w.heap.size + 1, 2, none⟩ (.string h.s)).setCell ⟨w.heap.size + 1, 3, none⟩ (.slice sa h.args.length sc)).setCell ⟨w.heap.size + 1, 4, none⟩ (.slice a2 l.length c2)).setCell ⟨w.heap.size + 1, 5, none⟩ (.int .i64 v)) from ((((((((((((((((((((((Ch.refl _ _).setCell (p := ⟨w.heap.size, 0, none⟩) (Or.inl (Or.inl rfl)) (.int .i64 h.kind))).setCell (p := ⟨w.heap.size, 1, none⟩) (Or.inl (Or.inl rfl)) (.int .i64 h.n))).setCell (p := ⟨w.heap.size, 2, none⟩) (Or.inl (Or.inl rfl)) (.string h.s))).setCell (p := ⟨w.heap.size, 3, none⟩) (Or.inl (Or.inl rfl)) (.slice sa h.args.length sc))).setCell (p := ⟨w.heap.size, 4, none⟩) (Or.inl (Or.inl rfl)) (.slice a2 l.length c2))).setCell (p := ⟨w.heap.size + 1, 0, none⟩) (Or.inl (Or.inr rfl)) (.int .i64 h.kind))).setCell (p := ⟨w.heap.size + 1, 1, none⟩) (Or.inl (Or.inr rfl)) (.int .i64 h.n))).setCell (p := ⟨w.heap.size + 1, 2, none⟩) (Or.inl (Or.inr rfl)) (.string h.s))).setCell (p := ⟨w.heap.size + 1, 3, none⟩) (Or.inl (Or.inr rfl)) (.slice sa h.args.length sc))).setCell (p := ⟨w.heap.size + 1, 4, none⟩) (Or.inl (Or.inr rfl)) (.slice a2 l.length c2))).setCell (p := ⟨w.heap.size + 1, 5, none⟩) (Or.inl (Or.inr rfl)) (.int .i64 v)))
    refine bodyPost_ret (v := .agg #[.int .i64 h.kind, .int .i64 h.n, .string h.s, .slice sa h.args.length sc, .slice a2 l.length c2, .int .i64 v]) (by simp [results, Tryd.results23, go_sem, hcs, z0, z1, z2, z3, z4, z5, zf, y0, y1, y2, y3, y4, y5, yf]) rfl ⟨_, rfl, ?_, _, rfl, sa, sc, a2, c2, rfl, ?_, ?_, HI.out⟩
    · exact HBB.out.trans ⟨HCH.out.os, HCH.out.tape, HCH.out.output, HCH.out.size, fun k hk => HCH.out.block k (by omega) (by omega)⟩
    · have HK := hid (HCH.out.keeps (A := fun b => W0.heap.size ≤ b) (fun b _ h => by omega))
      exact Tm.rep_lasts.2.1 _ _ _ _ _ (Tm.rep_lasts.1 _ _ _ _ _ HR2.out HK.out) (fun b _ hb => Nat.le_trans (by omega) hb)
    · have HK := hid (HCH.out.keeps (A := fun b => W0.heap.size ≤ b) (fun b _ h => by omega))
      exact SlR.mono Tm.rep_lasts (by omega) (SlR.keeps Tm.rep_lasts HR5.out HK.out) (fun b _ hb => Nat.le_trans (by omega) hb)
end Go.Proofs.YtlpmfkpefoegeabDoor
