/-
  The walk of queristlaw.HeapLoads.
-/
import Derived.Test.YtlpmfkpefoegeaaQFront2
import Derived.Test.YtlpmfkpefoegeaaQLoadB
import Derived.Test.YtlpmfkpefoegeaaQLoadT
import Derived.Test.YtlpmfkpefoegeaaQHeaps
import Derived.Test.YtlpmfkpefoegeaaQSameHeap
namespace Go.Proofs.Ytlpmfkpefoegeaa
set_option linter.unusedVariables false
set_option linter.unusedSimpArgs false
open Go.RowKit

/-- a box just made -/
def IsBox (base : Nat) (E : TypeId) (z : Array Value) : Value → World → Prop := fun v w => ∃ g, v = .pointer (some ⟨g, 0, none⟩) ∧ base ≤ g ∧ w.heap[g]? = some (.cells z E (0, 0))
theorem stays_Box (base : Nat) (E : TypeId) (z : Array Value) : Stays (IsBox base E z) := fun v w w' ⟨g, e, h1, h2⟩ hb => ⟨g, e, h1, blk_below h2 hb⟩
/-- a heap, a number, an error -/
def IsLd (base : Nat) (x : Hp × Int × Int) : Value → World → Prop := fun v w => ∃ us, v = .tuple #[.agg us.toArray, .int .i64 x.2.1, .int .i64 x.2.2] ∧ Hp.rep (fun b => b < base ∨ Typed w b) w x.1 us
theorem Typed.below {w w' : World} {b : Nat} (h : Typed w b) (hb : Below w.heap.size w w') : Typed w' b := by
  obtain ⟨c, E, h1, h2⟩ := h
  exact ⟨c, E, blk_below h1 hb, h2⟩
theorem stays_Ld (base : Nat) (x : Hp × Int × Int) : Stays (IsLd base x) := fun v w w' ⟨us, e, h⟩ hb => ⟨us, e, Hp.rep.mono (Hp.rep.below h hb) (fun b _ h => h.imp id (fun h => h.below hb))⟩
def IsHpT (base : Nat) (h : Hp) : Value → World → Prop := fun v w => ∃ us, v = .agg us.toArray ∧ Hp.rep (fun b => b < base ∨ Typed w b) w h us
theorem stays_HpT (base : Nat) (x : Hp) : Stays (IsHpT base x) := fun v w w' ⟨us, e, h⟩ hb => ⟨us, e, Hp.rep.mono (Hp.rep.below h hb) (fun b _ h => h.imp id (fun h => h.below hb))⟩

set_option maxRecDepth 100000 in
set_option maxHeartbeats 4000000 in
theorem heapLoads_walk (h : Hp) (bl : List Ce) (w : World) (vs : List Value) (v : Value) (hh : Hp.rep (fun _ => True) w h vs) (hv : CesR (fun _ => True) w bl v) :
    Calls Try.prog 6 #[.agg vs.toArray, v] w (Pure w (fun r _ => r = .bool true)) := by
  obtain ⟨va, cap, vb, tap, rfl, hc1, hc2, hc3, ht1, ht2, ht3, -⟩ := Hp.rep2 hh
  obtain ⟨ab, capb, bb, offb, rfl, hlb1, hlb2, hlb3, -⟩ := hv.at
  have HH := hid hh
  have HBL := hid hv
  clear hh hv
  go_enter Try.func6, Try.ntmps6
  go_wp2_with fail
  refine (copyHeap_ok h (fun _ => True) _ [_, _] (Hp.rep.keeps HH.out (Keeps.alloc _ _ _))).mono ?_
  rintro e w1 ⟨v, rfl, hb1, us, rfl, hown⟩
  have hrc := hown.rep (A := fun _ => True) hc3 ht3 (fun _ _ => trivial)
  obtain ⟨ca, cc, ta, tc, rfl, -⟩ := Hp.rep2 hrc
  have HB1 := hid (below_pure hb1)
  have HX21 := hid (blk_below (blk_new w (.cells #[.slice va h.cells.length cap, .slice vb h.trail.length tap] 38)) hb1)
  have HRC1 := hid hrc
  have hz1 := hb1.size
  simp only [World.size_alloc] at hz1
  clear hb1 hown hrc
  go_wp2_with fail
  have HX20 := hid (blk_alloc HX21.out (.cells #[.slice ca h.cells.length cc, .slice ta h.trail.length tc] 38))
  have HX50 := hid (blk_new w1 (.cells #[.slice ca h.cells.length cc, .slice ta h.trail.length tc] 38))
  have HRC := hid (Hp.rep.keeps HRC1.out (Keeps.alloc _ _ (.cells #[.slice ca h.cells.length cc, .slice ta h.trail.length tc] 38)))
  have HB0 := hid (HB1.out.alloc (by omega) (.cells #[.slice ca h.cells.length cc, .slice ta h.trail.length tc] 38))
  have hsz : w.heap.size < (w1.alloc (.cells #[.slice ca h.cells.length cc, .slice ta h.trail.length tc] 38)).heap.size := by simp; omega
  have hsz5 : w1.heap.size < (w1.alloc (.cells #[.slice ca h.cells.length cc, .slice ta h.trail.length tc] 38)).heap.size := by simp
  generalize w1.alloc (.cells #[.slice ca h.cells.length cc, .slice ta h.trail.length tc] 38) = W0 at HX20 HX50 HRC HB0 hsz hsz5 ⊢
  have HA0 : Hid (∀ w', Below W0.heap.size W0 w' → Below w.heap.size w w' ∧ w'.cell? ⟨w.heap.size, 0, none⟩ = some (.slice va h.cells.length cap) ∧ w'.cell? ⟨w.heap.size, 1, none⟩ = some (.slice vb h.trail.length tap) ∧
      w'.cell? ⟨w1.heap.size, 0, none⟩ = some (.slice ca h.cells.length cc) ∧ w'.cell? ⟨w1.heap.size, 1, none⟩ = some (.slice ta h.trail.length tc)) := hid fun w' hb => by
    obtain ⟨z0, z1, -⟩ := box2 (blk_below HX20.out hb)
    obtain ⟨z2, z3, -⟩ := box2 (blk_below HX50.out hb)
    exact ⟨HB0.out.trans (hb.mono (by omega)), z0, z1, z2, z3⟩
  refine wp_region_front2 9 (fun i => i == 6 || i == 7) (Inv := fun w' => Below W0.heap.size W0 w') (Po := posts [IsV (.agg #[.slice ca h.cells.length cc, .slice ta h.trail.length tc]), IsV (.slice ab bl.length capb), IsOC W0.heap.size bl, IsLd W0.heap.size (loadF h bl), IsLd W0.heap.size (loadF h bl), IsHpT W0.heap.size (loadF h bl).1, IsV (.int .i64 (loadF h bl).2.1), IsV (.int .i64 (loadF h bl).2.2), IsBox W0.heap.size 38 #[.slice none 0 0, .slice none 0 0]]) (Rl := fun w w' => Below w.heap.size w w') (by kernel_rfl) (by kernel_rfl) (by kernel_rfl) (fun _ _ _ _ h => h) (by kernel_rfl) (by kernel_rfl) ((Below.refl _ _).drew) ?_ ?_ ?_ ?_ ?_
  · refine posts_stay fun R hR => ?_
    simp only [List.mem_cons, List.not_mem_nil, or_false] at hR
    rcases hR with rfl | rfl | rfl | rfl | rfl | rfl | rfl | rfl | rfl <;> first | exact stays_V _ | exact stays_any | exact stays_B _ | exact stays_Tm _ | exact stays_Tms _ | exact stays_Cs _ | exact stays_Ns _ | exact stays_Bs _ | exact stays_Hp _ | exact stays_OC _ _ | exact stays_ON _ _ | exact stays_Ld _ _ | exact stays_HpT _ _ | exact stays_Box _ _ _
  · exact fun w1 w2 h h' => h.trans (h'.mono h.size)
  · intro i o ho hps f ac ww hinv hpo hdst hold
    match i, ho, hps with
      | 0, ho, hps =>
        exact absurd hps (by decide)
      | 1, ho, hps =>
        exact absurd hps (by decide)
      | 2, ho, hps =>
        exact absurd hps (by decide)
      | 3, ho, hps =>
        exact absurd hps (by decide)
      | 4, ho, hps =>
        exact absurd hps (by decide)
      | 5, ho, hps =>
        exact absurd hps (by decide)
      | 6, ho, hps =>
        obtain rfl : _ = o := Option.some.inj ho
        have t14 : ac.tmps[14]? = some (f 4) := hdst 4 14 (by kernel_rfl) (by kernel_rfl)
        have p4 : (IsLd W0.heap.size (loadF h bl)) (f 4) ww := hpo 4 (by kernel_rfl)
        clear hdst hpo hold ho
        obtain ⟨us, e4, hr⟩ := p4
        rw [e4] at t14
        clear hinv
        exact ⟨_, Or.inl ⟨want0 rfl, fun w' => by go_simp⟩, rfl⟩
      | 7, ho, hps =>
        obtain rfl : _ = o := Option.some.inj ho
        have t14 : ac.tmps[14]? = some (f 4) := hdst 4 14 (by kernel_rfl) (by kernel_rfl)
        have p4 : (IsLd W0.heap.size (loadF h bl)) (f 4) ww := hpo 4 (by kernel_rfl)
        clear hdst hpo hold ho
        obtain ⟨us, e4, hr⟩ := p4
        rw [e4] at t14
        clear hinv
        exact ⟨_, Or.inl ⟨want0 rfl, fun w' => by go_simp⟩, rfl⟩
      | 8, ho, hps =>
        exact absurd hps (by decide)
      | i + 9, ho, hps => simp at ho
  · intro i o ho hps f ac ww hinv hpo hdst hold
    match i, ho, hps with
      | 0, ho, hps =>
        obtain rfl : _ = o := Option.some.inj ho
        have t5 := hold 5 (by kernel_rfl)
        refine Or.inl ⟨want0 rfl, ?_⟩
        clear hdst hpo hold ho
        obtain ⟨-, -, -, x0, x1⟩ := HA0.out ww hinv
        unfold Ans
        go_simp
        exact ⟨rfl, Below.refl _ _⟩
      | 1, ho, hps =>
        obtain rfl : _ = o := Option.some.inj ho
        have t1 := hold 1 (by kernel_rfl)
        refine Or.inl ⟨want0 rfl, ?_⟩
        clear hdst hpo hold ho
        clear hinv
        unfold Ans
        go_simp
        exact ⟨rfl, Below.refl _ _⟩
      | 2, ho, hps =>
        obtain rfl : _ = o := Option.some.inj ho
        have t16 : ac.tmps[16]? = some (f 1) := hdst 1 16 (by kernel_rfl) (by kernel_rfl)
        have p1 : (IsV (.slice ab bl.length capb)) (f 1) ww := hpo 1 (by kernel_rfl)
        refine Or.inl ⟨want0 rfl, ?_⟩
        clear hdst hpo hold ho
        rw [show f 1 = _ from p1] at t16
        have hB := hinv
        refine ans_app (.const (.slice none 0 0)) (.tmp 16) 35 rfl W0.heap.size 73 3 32 tyCells Ce.rep_lasts (A := fun _ => True) (.slice none 0 0) [] rfl (OwnR.nil ..) (.slice ab bl.length capb) (by clear hB; go_simp) bl ?_ (by simp; omega) hB.size ?_
        · exact SlR.mono Ce.rep_lasts (by omega) (SlR.keeps Ce.rep_lasts HBL.out (Keeps.of_below (HA0.out ww hB).1)) (fun _ _ _ => ⟨trivial, by simp [ownB]⟩)
        · intro v2 w2 k1 k2
          exact ⟨OwnF.of_ownR (A := fun _ => True) (by rw [List.nil_append] at k1; exact k1), k2.below (Below.refl _ _) (Nat.le_refl _) (fun k hk => by simp [ownB] at hk)⟩
      | 3, ho, hps =>
        obtain rfl : _ = o := Option.some.inj ho
        have t15 : ac.tmps[15]? = some (f 0) := hdst 0 15 (by kernel_rfl) (by kernel_rfl)
        have p0 : (IsV (.agg #[.slice ca h.cells.length cc, .slice ta h.trail.length tc])) (f 0) ww := hpo 0 (by kernel_rfl)
        have t17 : ac.tmps[17]? = some (f 2) := hdst 2 17 (by kernel_rfl) (by kernel_rfl)
        have p2 : (IsOC W0.heap.size bl) (f 2) ww := hpo 2 (by kernel_rfl)
        refine Or.inl ⟨want0 rfl, ?_⟩
        clear hdst hpo hold ho
        rw [show f 0 = _ from p0] at t15
        unfold Ans
        go_simp
        refine (loadT_ok h bl (fun b => b < W0.heap.size ∨ Typed ww b) ww [_, _] _ (Hp.rep.below (Hp.rep.mono HRC.out (fun b hb _ => .inl hb)) hinv) (OwnF.sl Ce.vals_len Ce.vals_one p2 (by omega) (fun b hb => .inr (by obtain ⟨c, hc⟩ := OwnF.typed p2 b hb; exact ⟨c, _, hc, by decide⟩)))).mono ?_
        rintro e w1 ⟨r, rfl, hb, us, rfl, hr⟩
        exact ⟨_, rfl, ⟨us, rfl, Hp.rep.mono hr (fun b _ h => by
          rcases h with ⟨h | h, _⟩ | ⟨_, h⟩
          · exact .inl h
          · exact .inr (h.below hb)
          · exact .inr h)⟩, hb⟩
      | 4, ho, hps =>
        obtain rfl : _ = o := Option.some.inj ho
        have t18 : ac.tmps[18]? = some (f 3) := hdst 3 18 (by kernel_rfl) (by kernel_rfl)
        have p3 : (IsLd W0.heap.size (loadF h bl)) (f 3) ww := hpo 3 (by kernel_rfl)
        refine Or.inl ⟨want0 rfl, ?_⟩
        clear hdst hpo hold ho
        clear hinv
        unfold Ans
        go_simp
        exact ⟨p3, Below.refl _ _⟩
      | 5, ho, hps =>
        obtain rfl : _ = o := Option.some.inj ho
        have t14 : ac.tmps[14]? = some (f 4) := hdst 4 14 (by kernel_rfl) (by kernel_rfl)
        have p4 : (IsLd W0.heap.size (loadF h bl)) (f 4) ww := hpo 4 (by kernel_rfl)
        refine Or.inl ⟨want0 rfl, ?_⟩
        clear hdst hpo hold ho
        obtain ⟨us, e4, hr⟩ := p4
        rw [e4] at t14
        clear hinv
        unfold Ans
        go_simp
        exact ⟨⟨us, rfl, hr⟩, Below.refl _ _⟩
      | 6, ho, hps =>
        exact absurd hps (by decide)
      | 7, ho, hps =>
        exact absurd hps (by decide)
      | 8, ho, hps =>
        obtain rfl : _ = o := Option.some.inj ho
        refine Or.inl ⟨want0 rfl, ?_⟩
        clear hdst hpo hold ho
        unfold Ans
        go_simp
        exact ⟨⟨_, rfl, hinv.size, blk_new _ _⟩, (Below.refl _ _).alloc (Nat.le_refl _) _⟩
      | i + 9, ho, hps => simp at ho
  · intro f ww hinv hpo
    have p5 : (IsHpT W0.heap.size (loadF h bl).1) (f 5) ww := hpo 5 (by decide)
    have p6 : (IsV (.int .i64 (loadF h bl).2.1)) (f 6) ww := hpo 6 (by decide)
    have p7 : (IsV (.int .i64 (loadF h bl).2.2)) (f 7) ww := hpo 7 (by decide)
    have p8 : (IsBox W0.heap.size 38 #[.slice none 0 0, .slice none 0 0]) (f 8) ww := hpo 8 (by decide)
    obtain ⟨us6, e5, hr6⟩ := p5
    obtain ⟨g6, e8, hg6, hx6⟩ := p8
    simp only [fillT, List.take_succ_cons, List.take_zero, List.setIfInBounds_toArray, List.set_cons_succ, List.set_cons_zero]
    rw [e5, show f 6 = _ from p6, show f 7 = _ from p7, e8]
    have HLB := hid (fun W us A' hu => loadBlock_ok h bl (fun _ => True) W us (.slice ab bl.length capb) hu A')
    generalize loadF h bl = r at *
    obtain ⟨hl, n, e0⟩ := r
    simp only at hr6
    obtain ⟨a6, c6, b6, d6, rfl, -⟩ := Hp.rep2 hr6
    have hB := HA0.out ww hinv
    have HB1 := hid hB.1
    have HX2 := hid (blk_below HX20.out hinv)
    have HX5 := hid (blk_below HX50.out hinv)
    have HRC1 := hid (Hp.rep.below HRC.out hinv)
    have HRH1 := hid (Hp.rep.keeps HH.out (Keeps.of_below hB.1))
    have HBL1 := hid (SlR.keeps Ce.rep_lasts HBL.out (Keeps.of_below hB.1))
    have HR6 := hid hr6
    have HW0 := hid hinv
    have HX6 := hid hx6
    have hzw : w.heap.size < W0.heap.size := hsz
    have hzw5 : w1.heap.size < W0.heap.size := hsz5
    obtain ⟨y0, y1, yf⟩ := box2 hx6
    have hcs := cell_set
    clear hinv hpo hB hr6 hx6 p6 p7 e5 e8
    refine wpAny_only (i := 9) (by kernel_rfl) (wpOp_run rfl (by rfl) ?_)
    go_simp
    refine wpAny_only (i := 10) (by kernel_rfl) (wpOp_run rfl (by rfl) ?_)
    go_simp
    refine wpAny_only (i := 11) (by kernel_rfl) (wpOp_run rfl (by rfl) ?_)
    go_simp
    refine wpAny_all (by kernel_rfl) ?_ _
    -- the box holds what Load made
    have hkeep : ∀ k, k < W0.heap.size → ((ww.setCell ⟨g6, 0, none⟩ (.slice a6 hl.cells.length c6)).setCell ⟨g6, 1, none⟩ (.slice b6 hl.trail.length d6)).heap[k]? = ww.heap[k]? := fun k hk => by
      rw [Below.heap_setCell _ _ _ _ (by simp only; omega), Below.heap_setCell _ _ _ _ (by simp only; omega)]
    have hBW : Below W0.heap.size ww ((ww.setCell ⟨g6, 0, none⟩ (.slice a6 hl.cells.length c6)).setCell ⟨g6, 1, none⟩ (.slice b6 hl.trail.length d6)) := ⟨rfl, rfl, rfl, by simp, fun k hk => hkeep k hk⟩
    have HBF := hid (show Below w.heap.size w ((ww.setCell ⟨g6, 0, none⟩ (.slice a6 hl.cells.length c6)).setCell ⟨g6, 1, none⟩ (.slice b6 hl.trail.length d6)) from HB1.out.trans (hBW.mono (by omega)))
    have HXF2 := hid ((hkeep _ hzw).trans HX2.out)
    have HXF5 := hid ((hkeep _ hzw5).trans HX5.out)
    have HXF6 : Hid (((ww.setCell ⟨g6, 0, none⟩ (.slice a6 hl.cells.length c6)).setCell ⟨g6, 1, none⟩ (.slice b6 hl.trail.length d6)).heap[g6]? = some (.cells #[.slice a6 hl.cells.length c6, .slice b6 hl.trail.length d6] 38 (0, 0))) :=
      hid ((blk_set (blk_set HX6.out 0 _) 1 _).trans rfl)
    have hK : Keeps (fun b => b < W0.heap.size ∨ Typed ww b) ww ((ww.setCell ⟨g6, 0, none⟩ (.slice a6 hl.cells.length c6)).setCell ⟨g6, 1, none⟩ (.slice b6 hl.trail.length d6)) := by
      have hng : ¬ (g6 < W0.heap.size ∨ Typed ww g6) := by
        rintro (h | ⟨c, E, h1, h2⟩)
        · omega
        · have h3 := HX6.out
          rw [h1] at h3
          simp only [Option.some.injEq, Obj.cells.injEq] at h3
          exact h2 h3.2.1
      exact (Keeps.setCell _ _ ⟨g6, 0, none⟩ _ hng).trans (Keeps.setCell _ _ ⟨g6, 1, none⟩ _ hng)
    have HR6F := hid (Hp.rep.keeps HR6.out hK)
    have HRCF := hid (Hp.rep.keeps HRC.out (show Keeps (fun _ => True) W0 _ from Keeps.of_below (HW0.out.trans hBW)))
    have HRHF := hid (Hp.rep.keeps HH.out (show Keeps (fun _ => True) w _ from Keeps.of_below HBF.out))
    have HBLF := hid (SlR.keeps Ce.rep_lasts HBL.out (show Keeps (fun _ => True) w _ from Keeps.of_below HBF.out))
    clear hkeep hBW hK y0 y1 yf
    generalize (ww.setCell ⟨g6, 0, none⟩ (.slice a6 hl.cells.length c6)).setCell ⟨g6, 1, none⟩ (.slice b6 hl.trail.length d6) = WS at HBF HXF2 HXF5 HXF6 HR6F HRCF HRHF HBLF ⊢
    obtain ⟨x20, x21, x2f⟩ := box2 HXF2.out
    go_wp2_with fail
    refine (HLB.out _ [_, _] HBLF.out HRHF.out).mono ?_
    rintro e w3 ⟨v, rfl, hb3, us, rfl, hr3⟩
    obtain ⟨a9, c9, b9, d9, rfl, -⟩ := Hp.rep2 hr3
    have HB3 := hid (HBF.out.trans (hb3.mono HBF.out.size))
    have HX23 := hid (blk_below HXF2.out hb3)
    have HX53 := hid (blk_below HXF5.out hb3)
    have HX63 := hid (blk_below HXF6.out hb3)
    have HR63 := hid (Hp.rep.below HR6F.out hb3)
    have HRC3 := hid (Hp.rep.below HRCF.out hb3)
    have HRH3 := hid (Hp.rep.below HRHF.out hb3)
    have HR93 := hid hr3
    clear hb3 hr3 x20 x21 x2f
    go_wp2_with fail
    have HX24 := hid (blk_alloc HX23.out (.cells #[.slice a9 hl.cells.length c9, .slice b9 hl.trail.length d9] 38))
    have HX54 := hid (blk_alloc HX53.out (.cells #[.slice a9 hl.cells.length c9, .slice b9 hl.trail.length d9] 38))
    have HX64 := hid (blk_alloc HX63.out (.cells #[.slice a9 hl.cells.length c9, .slice b9 hl.trail.length d9] 38))
    have HX94 := hid (blk_new w3 (.cells #[.slice a9 hl.cells.length c9, .slice b9 hl.trail.length d9] 38))
    have HB4 := hid (HB3.out.alloc HB3.out.size (.cells #[.slice a9 hl.cells.length c9, .slice b9 hl.trail.length d9] 38))
    have HR6 := hid (show Hp.rep (fun _ => True) (w3.alloc (.cells #[.slice a9 hl.cells.length c9, .slice b9 hl.trail.length d9] 38)) _ _ from Hp.rep.mono (Hp.rep.keeps HR63.out (Keeps.alloc _ _ _)) (fun _ _ _ => trivial))
    have HR9 := hid (show Hp.rep (fun _ => True) (w3.alloc (.cells #[.slice a9 hl.cells.length c9, .slice b9 hl.trail.length d9] 38)) _ _ from Hp.rep.mono (Hp.rep.keeps HR93.out (Keeps.alloc _ _ _)) (fun _ _ _ => trivial))
    have HRC4 := hid (show Hp.rep (fun _ => True) (w3.alloc (.cells #[.slice a9 hl.cells.length c9, .slice b9 hl.trail.length d9] 38)) _ _ from Hp.rep.keeps HRC3.out (Keeps.alloc _ _ _))
    have HRH4 := hid (show Hp.rep (fun _ => True) (w3.alloc (.cells #[.slice a9 hl.cells.length c9, .slice b9 hl.trail.length d9] 38)) _ _ from Hp.rep.keeps HRH3.out (Keeps.alloc _ _ _))
    clear HRC HRH1 HRC1 HX2 HX5 HX20 HX50 HX21
    generalize w3.alloc (.cells #[.slice a9 hl.cells.length c9, .slice b9 hl.trail.length d9] 38) = W4 at HX24 HX54 HX64 HX94 HB4 HR6 HR9 HRC4 HRH4 ⊢
    have HA4 : Hid (∀ w', Below W4.heap.size W4 w' → Below w.heap.size w w' ∧ w'.cell? ⟨w.heap.size, 0, none⟩ = some (.slice va h.cells.length cap) ∧ w'.cell? ⟨w.heap.size, 1, none⟩ = some (.slice vb h.trail.length tap) ∧
        w'.cell? ⟨w1.heap.size, 0, none⟩ = some (.slice ca h.cells.length cc) ∧ w'.cell? ⟨w1.heap.size, 1, none⟩ = some (.slice ta h.trail.length tc) ∧
        w'.cell? ⟨g6, 0, none⟩ = some (.slice a6 hl.cells.length c6) ∧ w'.cell? ⟨g6, 1, none⟩ = some (.slice b6 hl.trail.length d6) ∧
        w'.cell? ⟨w3.heap.size, 0, none⟩ = some (.slice a9 hl.cells.length c9) ∧ w'.cell? ⟨w3.heap.size, 1, none⟩ = some (.slice b9 hl.trail.length d9)) := hid fun w' hb => by
      obtain ⟨z0, z1, -⟩ := box2 (blk_below HX24.out hb)
      obtain ⟨z2, z3, -⟩ := box2 (blk_below HX54.out hb)
      obtain ⟨z4, z5, -⟩ := box2 (blk_below HX64.out hb)
      obtain ⟨z6, z7, -⟩ := box2 (blk_below HX94.out hb)
      exact ⟨HB4.out.trans (hb.mono HB4.out.size), z0, z1, z2, z3, z4, z5, z6, z7⟩
    refine wp_region_each (Inv := fun w' => Below W4.heap.size W4 w') (Po := posts [IsV (.agg #[.slice a6 hl.cells.length c6, .slice b6 hl.trail.length d6]), IsV (.agg #[.slice a9 hl.cells.length c9, .slice b9 hl.trail.length d9]), IsV (.bool true), IsV (.bool true), IsV (.int .i64 n), IsV (.int .i64 n), IsV (.bool true), IsV (.bool true), IsV (.bool true), IsV (.int .i64 e0), IsV (.int .i64 e0), IsV (.bool true), IsV (.bool true), IsV (.bool true), IsV (.agg #[.slice ca h.cells.length cc, .slice ta h.trail.length tc]), IsB h.Good, IsV (.agg #[.slice va h.cells.length cap, .slice vb h.trail.length tap]), IsB h.Good, IsV (.bool true), IsV (.bool true), IsV (.bool true), IsV (.agg #[.slice ca h.cells.length cc, .slice ta h.trail.length tc]), IsV (.agg #[.slice va h.cells.length cap, .slice vb h.trail.length tap]), IsV (.bool true), IsV (.bool true), IsV (.bool true), IsV (.bool true), IsV (.bool true), IsV (.bool true)]) (Rl := fun w w' => Below w.heap.size w w') (by kernel_rfl) (by kernel_rfl) (by kernel_rfl) ((Below.refl _ _).drew) ?_ ?_ ?_ ?_
    · refine posts_stay fun R hR => ?_
      simp only [List.mem_cons, List.not_mem_nil, or_false] at hR
      rcases hR with rfl | rfl | rfl | rfl | rfl | rfl | rfl | rfl | rfl | rfl | rfl | rfl | rfl | rfl | rfl | rfl | rfl | rfl | rfl | rfl | rfl | rfl | rfl | rfl | rfl | rfl | rfl | rfl | rfl <;> first | exact stays_V _ | exact stays_any | exact stays_B _ | exact stays_Tm _ | exact stays_Tms _ | exact stays_Cs _ | exact stays_Ns _ | exact stays_Bs _ | exact stays_Hp _ | exact stays_OC _ _ | exact stays_ON _ _ | exact stays_V _
    · exact fun w1 w2 h h' => h.trans (h'.mono h.size)
    · intro i o ho f ac ww hinv hpo hdst hold
      match i, ho with
        | 0, ho =>
          obtain rfl : _ = o := Option.some.inj ho
          have t6 := hold 6 (by kernel_rfl)
          refine Or.inl ⟨want0 rfl, ?_⟩
          clear hdst hpo hold ho
          obtain ⟨-, x2a, x2b, x5a, x5b, x6a, x6b, x9a, x9b⟩ := HA4.out ww hinv
          unfold Ans
          go_simp
          exact ⟨rfl, Below.refl _ _⟩
        | 1, ho =>
          obtain rfl : _ = o := Option.some.inj ho
          have t9 := hold 9 (by kernel_rfl)
          refine Or.inl ⟨want0 rfl, ?_⟩
          clear hdst hpo hold ho
          obtain ⟨-, x2a, x2b, x5a, x5b, x6a, x6b, x9a, x9b⟩ := HA4.out ww hinv
          unfold Ans
          go_simp
          exact ⟨rfl, Below.refl _ _⟩
        | 2, ho =>
          obtain rfl : _ = o := Option.some.inj ho
          have t29 : ac.tmps[29]? = some (f 0) := hdst 0 29 (by kernel_rfl) (by kernel_rfl)
          have p0 : (IsV (.agg #[.slice a6 hl.cells.length c6, .slice b6 hl.trail.length d6])) (f 0) ww := hpo 0 (by kernel_rfl)
          have t30 : ac.tmps[30]? = some (f 1) := hdst 1 30 (by kernel_rfl) (by kernel_rfl)
          have p1 : (IsV (.agg #[.slice a9 hl.cells.length c9, .slice b9 hl.trail.length d9])) (f 1) ww := hpo 1 (by kernel_rfl)
          refine Or.inl ⟨want0 rfl, ?_⟩
          clear hdst hpo hold ho
          rw [show f 0 = _ from p0] at t29
          rw [show f 1 = _ from p1] at t30
          unfold Ans
          go_simp
          refine (sameHeap_ok hl hl (fun _ => True) ww [_, _] [_, _] (Hp.rep.below HR6.out hinv) (Hp.rep.below HR9.out hinv)).mono ?_
          rintro e w1 ⟨r, rfl, hb, t, rfl, ht⟩
          obtain rfl : t = true := ht.2 rfl
          exact ⟨_, rfl, rfl, hb⟩
        | 3, ho =>
          obtain rfl : _ = o := Option.some.inj ho
          have t31 : ac.tmps[31]? = some (f 2) := hdst 2 31 (by kernel_rfl) (by kernel_rfl)
          have p2 : (IsV (.bool true)) (f 2) ww := hpo 2 (by kernel_rfl)
          refine Or.inl ⟨want0 rfl, ?_⟩
          clear hdst hpo hold ho
          rw [show f 2 = _ from p2] at t31
          clear hinv
          unfold Ans
          go_simp
          exact ⟨rfl, Below.refl _ _⟩
        | 4, ho =>
          obtain rfl : _ = o := Option.some.inj ho
          have t32 : ac.tmps[32]? = some (f 3) := hdst 3 32 (by kernel_rfl) (by kernel_rfl)
          have p3 : (IsV (.bool true)) (f 3) ww := hpo 3 (by kernel_rfl)
          have t7 := hold 7 (by kernel_rfl)
          have g3 := t32
          rw [show f 3 = _ from p3] at g3
          refine Or.inl ⟨want1 (g := 3) (s := 32) (b := true) (c := true) rfl (by kernel_rfl) g3, ?_⟩
          clear t32 p3 g3
          clear hdst hpo hold ho
          clear hinv
          unfold Ans
          go_simp
          exact ⟨rfl, Below.refl _ _⟩
        | 5, ho =>
          obtain rfl : _ = o := Option.some.inj ho
          have t32 : ac.tmps[32]? = some (f 3) := hdst 3 32 (by kernel_rfl) (by kernel_rfl)
          have p3 : (IsV (.bool true)) (f 3) ww := hpo 3 (by kernel_rfl)
          have t10 := hold 10 (by kernel_rfl)
          have g3 := t32
          rw [show f 3 = _ from p3] at g3
          refine Or.inl ⟨want1 (g := 3) (s := 32) (b := true) (c := true) rfl (by kernel_rfl) g3, ?_⟩
          clear t32 p3 g3
          clear hdst hpo hold ho
          clear hinv
          unfold Ans
          go_simp
          exact ⟨rfl, Below.refl _ _⟩
        | 6, ho =>
          obtain rfl : _ = o := Option.some.inj ho
          have t33 : ac.tmps[33]? = some (f 4) := hdst 4 33 (by kernel_rfl) (by kernel_rfl)
          have p4 : (IsV (.int .i64 n)) (f 4) ww := hpo 4 (by kernel_rfl)
          have t34 : ac.tmps[34]? = some (f 5) := hdst 5 34 (by kernel_rfl) (by kernel_rfl)
          have p5 : (IsV (.int .i64 n)) (f 5) ww := hpo 5 (by kernel_rfl)
          have t32 : ac.tmps[32]? = some (f 3) := hdst 3 32 (by kernel_rfl) (by kernel_rfl)
          have p3 : (IsV (.bool true)) (f 3) ww := hpo 3 (by kernel_rfl)
          have g3 := t32
          rw [show f 3 = _ from p3] at g3
          refine Or.inl ⟨want1 (g := 3) (s := 32) (b := true) (c := true) rfl (by kernel_rfl) g3, ?_⟩
          clear t32 p3 g3
          clear hdst hpo hold ho
          rw [show f 4 = _ from p4] at t33
          rw [show f 5 = _ from p5] at t34
          clear hinv
          unfold Ans
          go_simp
          exact ⟨rfl, Below.refl _ _⟩
        | 7, ho =>
          obtain rfl : _ = o := Option.some.inj ho
          have t32 : ac.tmps[32]? = some (f 3) := hdst 3 32 (by kernel_rfl) (by kernel_rfl)
          have p3 : (IsV (.bool true)) (f 3) ww := hpo 3 (by kernel_rfl)
          have t35 : ac.tmps[35]? = some (f 6) := hdst 6 35 (by kernel_rfl) (by kernel_rfl)
          have p6 : (IsV (.bool true)) (f 6) ww := hpo 6 (by kernel_rfl)
          refine Or.inl ⟨want0 rfl, ?_⟩
          clear hdst hpo hold ho
          rw [show f 3 = _ from p3] at t32
          rw [show f 6 = _ from p6] at t35
          clear hinv
          unfold Ans
          go_simp
          exact ⟨rfl, Below.refl _ _⟩
        | 8, ho =>
          obtain rfl : _ = o := Option.some.inj ho
          have t36 : ac.tmps[36]? = some (f 7) := hdst 7 36 (by kernel_rfl) (by kernel_rfl)
          have p7 : (IsV (.bool true)) (f 7) ww := hpo 7 (by kernel_rfl)
          refine Or.inl ⟨want0 rfl, ?_⟩
          clear hdst hpo hold ho
          rw [show f 7 = _ from p7] at t36
          clear hinv
          unfold Ans
          go_simp
          exact ⟨rfl, Below.refl _ _⟩
        | 9, ho =>
          obtain rfl : _ = o := Option.some.inj ho
          have t37 : ac.tmps[37]? = some (f 8) := hdst 8 37 (by kernel_rfl) (by kernel_rfl)
          have p8 : (IsV (.bool true)) (f 8) ww := hpo 8 (by kernel_rfl)
          have t8 := hold 8 (by kernel_rfl)
          have g8 := t37
          rw [show f 8 = _ from p8] at g8
          refine Or.inl ⟨want1 (g := 8) (s := 37) (b := true) (c := true) rfl (by kernel_rfl) g8, ?_⟩
          clear t37 p8 g8
          clear hdst hpo hold ho
          clear hinv
          unfold Ans
          go_simp
          exact ⟨rfl, Below.refl _ _⟩
        | 10, ho =>
          obtain rfl : _ = o := Option.some.inj ho
          have t37 : ac.tmps[37]? = some (f 8) := hdst 8 37 (by kernel_rfl) (by kernel_rfl)
          have p8 : (IsV (.bool true)) (f 8) ww := hpo 8 (by kernel_rfl)
          have t11 := hold 11 (by kernel_rfl)
          have g8 := t37
          rw [show f 8 = _ from p8] at g8
          refine Or.inl ⟨want1 (g := 8) (s := 37) (b := true) (c := true) rfl (by kernel_rfl) g8, ?_⟩
          clear t37 p8 g8
          clear hdst hpo hold ho
          clear hinv
          unfold Ans
          go_simp
          exact ⟨rfl, Below.refl _ _⟩
        | 11, ho =>
          obtain rfl : _ = o := Option.some.inj ho
          have t38 : ac.tmps[38]? = some (f 9) := hdst 9 38 (by kernel_rfl) (by kernel_rfl)
          have p9 : (IsV (.int .i64 e0)) (f 9) ww := hpo 9 (by kernel_rfl)
          have t39 : ac.tmps[39]? = some (f 10) := hdst 10 39 (by kernel_rfl) (by kernel_rfl)
          have p10 : (IsV (.int .i64 e0)) (f 10) ww := hpo 10 (by kernel_rfl)
          have t37 : ac.tmps[37]? = some (f 8) := hdst 8 37 (by kernel_rfl) (by kernel_rfl)
          have p8 : (IsV (.bool true)) (f 8) ww := hpo 8 (by kernel_rfl)
          have g8 := t37
          rw [show f 8 = _ from p8] at g8
          refine Or.inl ⟨want1 (g := 8) (s := 37) (b := true) (c := true) rfl (by kernel_rfl) g8, ?_⟩
          clear t37 p8 g8
          clear hdst hpo hold ho
          rw [show f 9 = _ from p9] at t38
          rw [show f 10 = _ from p10] at t39
          clear hinv
          unfold Ans
          go_simp
          exact ⟨rfl, Below.refl _ _⟩
        | 12, ho =>
          obtain rfl : _ = o := Option.some.inj ho
          have t37 : ac.tmps[37]? = some (f 8) := hdst 8 37 (by kernel_rfl) (by kernel_rfl)
          have p8 : (IsV (.bool true)) (f 8) ww := hpo 8 (by kernel_rfl)
          have t40 : ac.tmps[40]? = some (f 11) := hdst 11 40 (by kernel_rfl) (by kernel_rfl)
          have p11 : (IsV (.bool true)) (f 11) ww := hpo 11 (by kernel_rfl)
          refine Or.inl ⟨want0 rfl, ?_⟩
          clear hdst hpo hold ho
          rw [show f 8 = _ from p8] at t37
          rw [show f 11 = _ from p11] at t40
          clear hinv
          unfold Ans
          go_simp
          exact ⟨rfl, Below.refl _ _⟩
        | 13, ho =>
          obtain rfl : _ = o := Option.some.inj ho
          have t41 : ac.tmps[41]? = some (f 12) := hdst 12 41 (by kernel_rfl) (by kernel_rfl)
          have p12 : (IsV (.bool true)) (f 12) ww := hpo 12 (by kernel_rfl)
          refine Or.inl ⟨want0 rfl, ?_⟩
          clear hdst hpo hold ho
          rw [show f 12 = _ from p12] at t41
          clear hinv
          unfold Ans
          go_simp
          exact ⟨rfl, Below.refl _ _⟩
        | 14, ho =>
          obtain rfl : _ = o := Option.some.inj ho
          have t42 : ac.tmps[42]? = some (f 13) := hdst 13 42 (by kernel_rfl) (by kernel_rfl)
          have p13 : (IsV (.bool true)) (f 13) ww := hpo 13 (by kernel_rfl)
          have t5 := hold 5 (by kernel_rfl)
          have g13 := t42
          rw [show f 13 = _ from p13] at g13
          refine Or.inl ⟨want1 (g := 13) (s := 42) (b := true) (c := true) rfl (by kernel_rfl) g13, ?_⟩
          clear t42 p13 g13
          clear hdst hpo hold ho
          obtain ⟨-, x2a, x2b, x5a, x5b, x6a, x6b, x9a, x9b⟩ := HA4.out ww hinv
          unfold Ans
          go_simp
          exact ⟨rfl, Below.refl _ _⟩
        | 15, ho =>
          obtain rfl : _ = o := Option.some.inj ho
          have t43 : ac.tmps[43]? = some (f 14) := hdst 14 43 (by kernel_rfl) (by kernel_rfl)
          have p14 : (IsV (.agg #[.slice ca h.cells.length cc, .slice ta h.trail.length tc])) (f 14) ww := hpo 14 (by kernel_rfl)
          have t42 : ac.tmps[42]? = some (f 13) := hdst 13 42 (by kernel_rfl) (by kernel_rfl)
          have p13 : (IsV (.bool true)) (f 13) ww := hpo 13 (by kernel_rfl)
          have g13 := t42
          rw [show f 13 = _ from p13] at g13
          refine Or.inl ⟨want1 (g := 13) (s := 42) (b := true) (c := true) rfl (by kernel_rfl) g13, ?_⟩
          clear t42 p13 g13
          clear hdst hpo hold ho
          rw [show f 14 = _ from p14] at t43
          unfold Ans
          go_simp
          refine (good_ok h (fun _ => True) ww [_, _] (Hp.rep.below HRC4.out hinv)).mono ?_
          rintro e w1 ⟨r, rfl, hb, hr⟩
          exact ⟨_, rfl, hr, hb⟩
        | 16, ho =>
          obtain rfl : _ = o := Option.some.inj ho
          have t42 : ac.tmps[42]? = some (f 13) := hdst 13 42 (by kernel_rfl) (by kernel_rfl)
          have p13 : (IsV (.bool true)) (f 13) ww := hpo 13 (by kernel_rfl)
          have t2 := hold 2 (by kernel_rfl)
          have g13 := t42
          rw [show f 13 = _ from p13] at g13
          refine Or.inl ⟨want1 (g := 13) (s := 42) (b := true) (c := true) rfl (by kernel_rfl) g13, ?_⟩
          clear t42 p13 g13
          clear hdst hpo hold ho
          obtain ⟨-, x2a, x2b, x5a, x5b, x6a, x6b, x9a, x9b⟩ := HA4.out ww hinv
          unfold Ans
          go_simp
          exact ⟨rfl, Below.refl _ _⟩
        | 17, ho =>
          obtain rfl : _ = o := Option.some.inj ho
          have t45 : ac.tmps[45]? = some (f 16) := hdst 16 45 (by kernel_rfl) (by kernel_rfl)
          have p16 : (IsV (.agg #[.slice va h.cells.length cap, .slice vb h.trail.length tap])) (f 16) ww := hpo 16 (by kernel_rfl)
          have t42 : ac.tmps[42]? = some (f 13) := hdst 13 42 (by kernel_rfl) (by kernel_rfl)
          have p13 : (IsV (.bool true)) (f 13) ww := hpo 13 (by kernel_rfl)
          have g13 := t42
          rw [show f 13 = _ from p13] at g13
          refine Or.inl ⟨want1 (g := 13) (s := 42) (b := true) (c := true) rfl (by kernel_rfl) g13, ?_⟩
          clear t42 p13 g13
          clear hdst hpo hold ho
          rw [show f 16 = _ from p16] at t45
          unfold Ans
          go_simp
          refine (isHeap_ok h (fun _ => True) ww [_, _] (Hp.rep.below HRH4.out hinv)).mono ?_
          rintro e w1 ⟨r, rfl, hb, hr⟩
          exact ⟨_, rfl, hr, hb⟩
        | 18, ho =>
          obtain rfl : _ = o := Option.some.inj ho
          have t44 : ac.tmps[44]? = some (f 15) := hdst 15 44 (by kernel_rfl) (by kernel_rfl)
          have p15 : (IsB h.Good) (f 15) ww := hpo 15 (by kernel_rfl)
          have t46 : ac.tmps[46]? = some (f 17) := hdst 17 46 (by kernel_rfl) (by kernel_rfl)
          have p17 : (IsB h.Good) (f 17) ww := hpo 17 (by kernel_rfl)
          have t42 : ac.tmps[42]? = some (f 13) := hdst 13 42 (by kernel_rfl) (by kernel_rfl)
          have p13 : (IsV (.bool true)) (f 13) ww := hpo 13 (by kernel_rfl)
          have g13 := t42
          rw [show f 13 = _ from p13] at g13
          refine Or.inl ⟨want1 (g := 13) (s := 42) (b := true) (c := true) rfl (by kernel_rfl) g13, ?_⟩
          clear t42 p13 g13
          clear hdst hpo hold ho
          obtain ⟨r, e1, h1⟩ := p15
          obtain ⟨r', e2, h2⟩ := p17
          obtain rfl : r = r' := by rw [Bool.eq_iff_iff, h1, h2]
          rw [e1] at t44
          rw [e2] at t46
          clear hinv
          unfold Ans
          go_simp
          exact ⟨by simp [posts, IsV], Below.refl _ _⟩
        | 19, ho =>
          obtain rfl : _ = o := Option.some.inj ho
          have t42 : ac.tmps[42]? = some (f 13) := hdst 13 42 (by kernel_rfl) (by kernel_rfl)
          have p13 : (IsV (.bool true)) (f 13) ww := hpo 13 (by kernel_rfl)
          have t47 : ac.tmps[47]? = some (f 18) := hdst 18 47 (by kernel_rfl) (by kernel_rfl)
          have p18 : (IsV (.bool true)) (f 18) ww := hpo 18 (by kernel_rfl)
          refine Or.inl ⟨want0 rfl, ?_⟩
          clear hdst hpo hold ho
          rw [show f 13 = _ from p13] at t42
          rw [show f 18 = _ from p18] at t47
          clear hinv
          unfold Ans
          go_simp
          exact ⟨rfl, Below.refl _ _⟩
        | 20, ho =>
          obtain rfl : _ = o := Option.some.inj ho
          have t48 : ac.tmps[48]? = some (f 19) := hdst 19 48 (by kernel_rfl) (by kernel_rfl)
          have p19 : (IsV (.bool true)) (f 19) ww := hpo 19 (by kernel_rfl)
          refine Or.inl ⟨want0 rfl, ?_⟩
          clear hdst hpo hold ho
          rw [show f 19 = _ from p19] at t48
          clear hinv
          unfold Ans
          go_simp
          exact ⟨rfl, Below.refl _ _⟩
        | 21, ho =>
          obtain rfl : _ = o := Option.some.inj ho
          have t49 : ac.tmps[49]? = some (f 20) := hdst 20 49 (by kernel_rfl) (by kernel_rfl)
          have p20 : (IsV (.bool true)) (f 20) ww := hpo 20 (by kernel_rfl)
          have t5 := hold 5 (by kernel_rfl)
          have g20 := t49
          rw [show f 20 = _ from p20] at g20
          refine Or.inl ⟨want1 (g := 20) (s := 49) (b := true) (c := true) rfl (by kernel_rfl) g20, ?_⟩
          clear t49 p20 g20
          clear hdst hpo hold ho
          obtain ⟨-, x2a, x2b, x5a, x5b, x6a, x6b, x9a, x9b⟩ := HA4.out ww hinv
          unfold Ans
          go_simp
          exact ⟨rfl, Below.refl _ _⟩
        | 22, ho =>
          obtain rfl : _ = o := Option.some.inj ho
          have t49 : ac.tmps[49]? = some (f 20) := hdst 20 49 (by kernel_rfl) (by kernel_rfl)
          have p20 : (IsV (.bool true)) (f 20) ww := hpo 20 (by kernel_rfl)
          have t2 := hold 2 (by kernel_rfl)
          have g20 := t49
          rw [show f 20 = _ from p20] at g20
          refine Or.inl ⟨want1 (g := 20) (s := 49) (b := true) (c := true) rfl (by kernel_rfl) g20, ?_⟩
          clear t49 p20 g20
          clear hdst hpo hold ho
          obtain ⟨-, x2a, x2b, x5a, x5b, x6a, x6b, x9a, x9b⟩ := HA4.out ww hinv
          unfold Ans
          go_simp
          exact ⟨rfl, Below.refl _ _⟩
        | 23, ho =>
          obtain rfl : _ = o := Option.some.inj ho
          have t50 : ac.tmps[50]? = some (f 21) := hdst 21 50 (by kernel_rfl) (by kernel_rfl)
          have p21 : (IsV (.agg #[.slice ca h.cells.length cc, .slice ta h.trail.length tc])) (f 21) ww := hpo 21 (by kernel_rfl)
          have t51 : ac.tmps[51]? = some (f 22) := hdst 22 51 (by kernel_rfl) (by kernel_rfl)
          have p22 : (IsV (.agg #[.slice va h.cells.length cap, .slice vb h.trail.length tap])) (f 22) ww := hpo 22 (by kernel_rfl)
          have t49 : ac.tmps[49]? = some (f 20) := hdst 20 49 (by kernel_rfl) (by kernel_rfl)
          have p20 : (IsV (.bool true)) (f 20) ww := hpo 20 (by kernel_rfl)
          have g20 := t49
          rw [show f 20 = _ from p20] at g20
          refine Or.inl ⟨want1 (g := 20) (s := 49) (b := true) (c := true) rfl (by kernel_rfl) g20, ?_⟩
          clear t49 p20 g20
          clear hdst hpo hold ho
          rw [show f 21 = _ from p21] at t50
          rw [show f 22 = _ from p22] at t51
          unfold Ans
          go_simp
          refine (sameHeap_ok h h (fun _ => True) ww [_, _] [_, _] (Hp.rep.below HRC4.out hinv) (Hp.rep.below HRH4.out hinv)).mono ?_
          rintro e w1 ⟨r, rfl, hb, t, rfl, ht⟩
          obtain rfl : t = true := ht.2 rfl
          exact ⟨_, rfl, rfl, hb⟩
        | 24, ho =>
          obtain rfl : _ = o := Option.some.inj ho
          have t49 : ac.tmps[49]? = some (f 20) := hdst 20 49 (by kernel_rfl) (by kernel_rfl)
          have p20 : (IsV (.bool true)) (f 20) ww := hpo 20 (by kernel_rfl)
          have t52 : ac.tmps[52]? = some (f 23) := hdst 23 52 (by kernel_rfl) (by kernel_rfl)
          have p23 : (IsV (.bool true)) (f 23) ww := hpo 23 (by kernel_rfl)
          refine Or.inl ⟨want0 rfl, ?_⟩
          clear hdst hpo hold ho
          rw [show f 20 = _ from p20] at t49
          rw [show f 23 = _ from p23] at t52
          clear hinv
          unfold Ans
          go_simp
          exact ⟨rfl, Below.refl _ _⟩
        | 25, ho =>
          obtain rfl : _ = o := Option.some.inj ho
          have t53 : ac.tmps[53]? = some (f 24) := hdst 24 53 (by kernel_rfl) (by kernel_rfl)
          have p24 : (IsV (.bool true)) (f 24) ww := hpo 24 (by kernel_rfl)
          refine Or.inl ⟨want0 rfl, ?_⟩
          clear hdst hpo hold ho
          rw [show f 24 = _ from p24] at t53
          clear hinv
          unfold Ans
          go_simp
          exact ⟨rfl, Below.refl _ _⟩
        | 26, ho =>
          obtain rfl : _ = o := Option.some.inj ho
          have t54 : ac.tmps[54]? = some (f 25) := hdst 25 54 (by kernel_rfl) (by kernel_rfl)
          have p25 : (IsV (.bool true)) (f 25) ww := hpo 25 (by kernel_rfl)
          have g25 := t54
          rw [show f 25 = _ from p25] at g25
          refine Or.inl ⟨want1 (g := 25) (s := 54) (b := true) (c := true) rfl (by kernel_rfl) g25, ?_⟩
          clear t54 p25 g25
          clear hdst hpo hold ho
          unfold Ans
          go_simp
          refine (heapsL_ok ww).mono ?_
          rintro e w1 ⟨r, rfl, hb, rfl⟩
          exact ⟨_, rfl, rfl, hb⟩
        | 27, ho =>
          obtain rfl : _ = o := Option.some.inj ho
          have t54 : ac.tmps[54]? = some (f 25) := hdst 25 54 (by kernel_rfl) (by kernel_rfl)
          have p25 : (IsV (.bool true)) (f 25) ww := hpo 25 (by kernel_rfl)
          have t55 : ac.tmps[55]? = some (f 26) := hdst 26 55 (by kernel_rfl) (by kernel_rfl)
          have p26 : (IsV (.bool true)) (f 26) ww := hpo 26 (by kernel_rfl)
          refine Or.inl ⟨want0 rfl, ?_⟩
          clear hdst hpo hold ho
          rw [show f 25 = _ from p25] at t54
          rw [show f 26 = _ from p26] at t55
          clear hinv
          unfold Ans
          go_simp
          exact ⟨rfl, Below.refl _ _⟩
        | 28, ho =>
          obtain rfl : _ = o := Option.some.inj ho
          have t56 : ac.tmps[56]? = some (f 27) := hdst 27 56 (by kernel_rfl) (by kernel_rfl)
          have p27 : (IsV (.bool true)) (f 27) ww := hpo 27 (by kernel_rfl)
          refine Or.inl ⟨want0 rfl, ?_⟩
          clear hdst hpo hold ho
          rw [show f 27 = _ from p27] at t56
          clear hinv
          unfold Ans
          go_simp
          exact ⟨rfl, Below.refl _ _⟩
        | i + 29, ho => simp at ho
    · intro f ww hinv hpo
      have p28 : (IsV (.bool true)) (f 28) ww := hpo 28 (by decide)
      simp only [fillT, List.setIfInBounds_toArray, List.set_cons_succ, List.set_cons_zero]
      rw [show f 28 = _ from p28]
      have hB := HA4.out ww hinv
      have HB := hid hB.1
      clear hinv hpo hB p28
      go_wp2_with fail
      go_ret
      exact ⟨_, rfl, HB.out, rfl⟩
end Go.Proofs.Ytlpmfkpefoegeaa
