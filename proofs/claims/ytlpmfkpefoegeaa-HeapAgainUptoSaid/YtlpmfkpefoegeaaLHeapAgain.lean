/-
  The walk of queristkeep.HeapAgain.
-/
import Derived.Test.YtlpmfkpefoegeaaHOne
import Derived.Test.YtlpmfkpefoegeaaQHeaps
import Derived.Test.YtlpmfkpefoegeaaQSameHeap
namespace Go.Proofs.Ytlpmfkpefoegeaa
set_option linter.unusedVariables false
set_option linter.unusedSimpArgs false
open Go.RowKit

set_option maxRecDepth 100000 in
set_option maxHeartbeats 4000000 in
theorem heapAgain_walk (h : Hp) (a b : Int) (ha : I64 a) (hb : I64 b) (w : World) (vs : List Value) (hh : Hp.rep (fun _ => True) w h vs) :
    Calls Try.prog 8 #[.agg vs.toArray, .int .i64 a, .int .i64 b] w (Pure w (fun r _ => r = .bool true)) := by
  obtain ⟨va, cap, vb, tap, rfl, -⟩ := Hp.rep2 hh
  have HH := hid hh
  have HIA := hid ha
  have HIB := hid hb
  clear hh ha hb
  go_enter Try.func8, Try.ntmps8
  go_wp2_with fail
  refine (hunify_ok h a b HIA.out HIB.out (fun _ => True) _ [_, _] (Hp.rep.keeps HH.out (Keeps.alloc _ _ _))).mono ?_
  rintro e w1 ⟨v, rfl, hb1, us, rfl, hr⟩
  have HAG := hid (fun u e hu => @unify_again h u a b e hu)
  have HNO := hid (unifyF_ok0 (h := h) (a := a) (b := b))
  generalize unifyF h a b = r at *
  obtain ⟨u, ok, e⟩ := r
  simp only at hr
  obtain ⟨a1, cap1, b1, tap1, rfl, -⟩ := Hp.rep2 hr
  have HB1 := hid (below_pure hb1)
  have HR1 := hid (show Hp.rep (fun _ => True) w1 u _ from Hp.rep.mono hr (fun _ _ _ => trivial))
  have hz1 := hb1.size
  simp only [World.size_alloc] at hz1
  clear hb1 hr
  have hend : ∀ (w2 : World), Below w.heap.size w w2 → Calls Try.prog 37 #[] w2 (Pure w (fun r _ => r = .bool true)) := fun w2 hb2 =>
    (heapsK_ok w2).mono fun e w3 ⟨r, e1, hb3, e2⟩ => ⟨r, e1, hb2.trans (hb3.mono hb2.size), e2⟩
  have HEND := hid hend
  clear hend
  by_cases he : e = 0
  case neg =>
    have he' : (e != 0) = true := by simpa using he
    clear he
    go_wp2_with fail
    refine (HEND.out _ ?_).mono ?_
    · exact HB1.out.alloc (by omega) _
    rintro e w3 ⟨r, rfl, hb3, rfl⟩
    have HB3 := hid hb3
    clear hb3
    go_wp2_with fail
    go_ret
    exact ⟨_, rfl, HB3.out, rfl⟩
  subst he
  cases ok with
  | false =>
    go_wp2_with fail
    refine (HEND.out _ ?_).mono ?_
    · exact HB1.out.alloc (by omega) _
    rintro e w3 ⟨r, rfl, hb3, rfl⟩
    have HB3 := hid hb3
    clear hb3
    go_wp2_with fail
    go_ret
    exact ⟨_, rfl, HB3.out, rfl⟩
  | true =>
    go_wp2_with fail
    refine (heapsK_ok _).mono ?_
    rintro e w2 ⟨r, rfl, hb2, rfl⟩
    have hX7 := blk_below (blk_new w1 (.cells #[.slice a1 u.cells.length cap1, .slice b1 u.trail.length tap1] 38)) hb2
    have HX7 := hid hX7
    have HB2 := hid (show Below w.heap.size w w2 from (HB1.out.alloc (by omega) _).trans (hb2.mono (by simp; omega)))
    have HR2 := hid (Hp.rep.keeps HR1.out ((Keeps.alloc _ _ (.cells #[.slice a1 u.cells.length cap1, .slice b1 u.trail.length tap1] 38)).trans (Keeps.of_below hb2)))
    have hz2 : w1.heap.size < w2.heap.size := blk_lt hX7
    obtain ⟨x0, x1, xf⟩ := box2 hX7
    obtain ⟨AG1, AG2⟩ := HAG.out u 0 rfl
    have HA1 := hid AG1
    have HA2 := hid AG2
    clear hX7 hb2 AG1 AG2 HAG
    go_wp2_with fail
    refine (hunify_ok u a b HIA.out HIB.out (fun _ => True) _ [_, _] HR2.out).mono ?_
    rintro e w3 ⟨v, rfl, hb3, us, rfl, hr⟩
    have HX73 := hid (blk_below HX7.out hb3)
    have HB3 := hid (HB2.out.trans (hb3.mono HB2.out.size))
    have HR3 := hid (Hp.rep.below HR2.out hb3)
    have hz3 := hb3.size
    have hA1 := HA1.out
    generalize unifyF u a b = r1 at *
    obtain ⟨y1, is, f⟩ := r1
    simp only at hr hA1
    have HY1 := hid (show Hp.rep (fun _ => True) w3 y1 us from Hp.rep.mono hr (fun _ _ _ => trivial))
    have HAA := hid hA1
    obtain ⟨a3, cap3, b3, tap3, rfl, -⟩ := Hp.rep2 hr
    clear hb3 hr hA1 HA1 x0 x1 xf
    obtain ⟨x0, x1, xf⟩ := box2 HX73.out
    have hz73 : w1.heap.size < w3.heap.size := by omega
    go_wp2_with fail
    refine (hunify_ok u b a HIB.out HIA.out (fun _ => True) _ [_, _] (Hp.rep.keeps HR3.out (Keeps.alloc _ _ _))).mono ?_
    rintro e w4 ⟨v, rfl, hb4, us, rfl, hr⟩
    have HX74 := hid (blk_below (blk_alloc HX73.out _) hb4)
    have HX10 := hid (blk_below (blk_new w3 (.cells #[.slice a3 y1.cells.length cap3, .slice b3 y1.trail.length tap3] 38)) hb4)
    have HB4 := hid ((HB3.out.alloc (by have := HB3.out.size; omega) (.cells #[.slice a3 y1.cells.length cap3, .slice b3 y1.trail.length tap3] 38)).trans (hb4.mono (by simp; have := HB3.out.size; omega)))
    have HR4 := hid (Hp.rep.below (Hp.rep.keeps HR3.out (Keeps.alloc _ _ (.cells #[.slice a3 y1.cells.length cap3, .slice b3 y1.trail.length tap3] 38))) hb4)
    have HY4 := hid (Hp.rep.below (Hp.rep.keeps HY1.out (Keeps.alloc _ _ (.cells #[.slice a3 y1.cells.length cap3, .slice b3 y1.trail.length tap3] 38))) hb4)
    have hz4 := hb4.size
    simp only [World.size_alloc] at hz4
    have hA2 := HA2.out
    generalize unifyF u b a = r2 at *
    obtain ⟨y2, too, g⟩ := r2
    simp only at hr hA2
    have HY2 := hid (show Hp.rep (fun _ => True) w4 y2 us from Hp.rep.mono hr (fun _ _ _ => trivial))
    have HBB := hid hA2
    obtain ⟨a4, cap4, b4, tap4, rfl, -⟩ := Hp.rep2 hr
    clear hb4 hr hA2 HA2 x0 x1 xf
    obtain ⟨x0, x1, xf⟩ := box2 HX74.out
    obtain ⟨z0, z1, zf⟩ := box2 HX10.out
    have hz74 : w1.heap.size < w4.heap.size := by omega
    have hz10 : w3.heap.size < w4.heap.size := by omega
    have HSAME := hid (fun (W : World) (y : Hp) (ys us : List Value) (hy : Hp.rep (fun _ => True) W y ys) (hu : Hp.rep (fun _ => True) W u us) => sameHeapK_ok y u (fun _ => True) W ys us hy hu)
    have HY5 := hid (Hp.rep.keeps HY2.out (Keeps.alloc _ _ (.cells #[.slice a4 y2.cells.length cap4, .slice b4 y2.trail.length tap4] 38)))
    have HY45 := hid (Hp.rep.keeps HY4.out (Keeps.alloc _ _ (.cells #[.slice a4 y2.cells.length cap4, .slice b4 y2.trail.length tap4] 38)))
    have HR5 := hid (Hp.rep.keeps HR4.out (Keeps.alloc _ _ (.cells #[.slice a4 y2.cells.length cap4, .slice b4 y2.trail.length tap4] 38)))
    have HB5 := hid (HB4.out.alloc HB4.out.size (.cells #[.slice a4 y2.cells.length cap4, .slice b4 y2.trail.length tap4] 38))
    have HX75 := hid (blk_alloc HX74.out (.cells #[.slice a4 y2.cells.length cap4, .slice b4 y2.trail.length tap4] 38))
    have HX13 := hid (blk_new w4 (.cells #[.slice a4 y2.cells.length cap4, .slice b4 y2.trail.length tap4] 38))
    rcases HAA.out with h1 | h1 <;> rcases HBB.out with h2 | h2
    · simp only [Prod.mk.injEq] at h1 h2
      obtain ⟨rfl, rfl, rfl⟩ := h1
      obtain ⟨rfl, rfl, rfl⟩ := h2
      go_wp2_with fail
      refine (HSAME.out _ _ [_, _] [_, _] HY45.out HR5.out).mono ?_
      rintro e w6 ⟨r, rfl, hb6, t, rfl, ht⟩
      obtain rfl : t = true := ht.2 rfl
      have HR6 := hid (Hp.rep.below HR5.out hb6)
      have HY6 := hid (Hp.rep.below HY5.out hb6)
      have HB6 := hid (HB5.out.trans (hb6.mono HB5.out.size))
      have HX6 := hid (blk_below HX75.out hb6)
      have HX16 := hid (blk_below HX13.out hb6)
      clear hb6 ht x0 x1 xf z0 z1 zf
      obtain ⟨x0, x1, xf⟩ := box2 HX6.out
      obtain ⟨z0, z1, zf⟩ := box2 HX16.out
      go_wp2_with fail
      refine (HSAME.out _ _ [_, _] [_, _] HY6.out HR6.out).mono ?_
      rintro e w7 ⟨r, rfl, hb7, t, rfl, ht⟩
      obtain rfl : t = true := ht.2 rfl
      have HB7 := hid (HB6.out.trans (hb7.mono HB6.out.size))
      clear hb7 ht
      go_wp2_with fail
      go_ret
      exact ⟨_, rfl, HB7.out, rfl⟩
    · simp only [Prod.mk.injEq] at h1
      obtain ⟨rfl, rfl, rfl⟩ := h1
      subst h2
      go_wp2_with fail
      refine (HSAME.out _ _ [_, _] [_, _] HY45.out HR5.out).mono ?_
      rintro e w6 ⟨r, rfl, hb6, t, rfl, ht⟩
      obtain rfl : t = true := ht.2 rfl
      have HB6 := hid (HB5.out.trans (hb6.mono HB5.out.size))
      clear hb6 ht
      go_wp2_with fail
      go_ret
      exact ⟨_, rfl, HB6.out, rfl⟩
    · simp only [Prod.mk.injEq] at h2
      obtain ⟨rfl, rfl, rfl⟩ := h2
      subst h1
      go_wp2_with fail
      refine (HSAME.out _ _ [_, _] [_, _] HY5.out HR5.out).mono ?_
      rintro e w6 ⟨r, rfl, hb6, t, rfl, ht⟩
      obtain rfl : t = true := ht.2 rfl
      have HB6 := hid (HB5.out.trans (hb6.mono HB5.out.size))
      clear hb6 ht
      go_wp2_with fail
      go_ret
      exact ⟨_, rfl, HB6.out, rfl⟩
    · subst h1
      subst h2
      go_wp2_with fail
      go_ret
      exact ⟨_, rfl, HB5.out, rfl⟩
end Go.Proofs.Ytlpmfkpefoegeaa
