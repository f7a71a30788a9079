/-
  The walk of queristlaw.HeapUnifies.
-/
import Derived.Test.YtlpmfkpefoegeaaQUnifyAt
import Derived.Test.YtlpmfkpefoegeaaQCopyHeap
import Derived.Test.YtlpmfkpefoegeaaQHeaps
import Derived.Test.YtlpmfkpefoegeaaQSameHeap
namespace Go.Proofs.Ytlpmfkpefoegeaa
set_option linter.unusedVariables false
set_option linter.unusedSimpArgs false
open Go.RowKit

set_option maxRecDepth 100000 in
set_option maxHeartbeats 4000000 in
theorem heapUnifies_walk (h : Hp) (a b : Int) (ha : I64 a) (hb : I64 b) (w : World) (vs : List Value) (hh : Hp.rep (fun _ => True) w h vs) :
    Calls Try.prog 7 #[.agg vs.toArray, .int .i64 a, .int .i64 b] w (Pure w (fun r _ => r = .bool true)) := by
  obtain ⟨va, cap, vb, tap, rfl, hc1, hc2, hc3, ht1, ht2, ht3, -⟩ := Hp.rep2 hh
  have HU1 := hid (fun (W : World) (us : List Value) (k : Hp.rep (fun _ => True) W h us) => hunify_ok h a b ha hb (fun _ => True) W us k)
  have HU2 := hid (fun (W : World) (us : List Value) (k : Hp.rep (fun _ => True) W h us) => unifyAt_ok h a b ha hb (fun _ => True) W us k)
  clear ha hb
  generalize unifyF h a b = ru at HU1 HU2
  obtain ⟨u, ok, er⟩ := ru
  have HH := hid (hh)
  clear hh
  go_enter Try.func7, Try.ntmps7
  go_wp2_with fail
  have HHa1 := hid (Hp.rep.keeps HH.out (Keeps.alloc _ _ (.cells #[.slice va h.cells.length cap, .slice vb h.trail.length tap] 38)))
  have HXn1 := hid (blk_new w (.cells #[.slice va h.cells.length cap, .slice vb h.trail.length tap] 38))
  have HBa1 := hid ((Below.refl _ w).alloc (Nat.le_refl _) (.cells #[.slice va h.cells.length cap, .slice vb h.trail.length tap] 38))
  have hsz1 : w.heap.size < (w.alloc (.cells #[.slice va h.cells.length cap, .slice vb h.trail.length tap] 38)).heap.size := by simp
  generalize w.alloc (.cells #[.slice va h.cells.length cap, .slice vb h.trail.length tap] 38) = w1 at HXn1 HHa1 HBa1 hsz1 ⊢
  obtain ⟨x0a, x0b, x0z⟩ := box2 HXn1.out
  have hz0 := blk_lt HXn1.out
  refine (copyHeap_ok h (fun _ => True) _ [_, _] HHa1.out).mono ?_
  rintro e w2 ⟨v, rfl, hb2, us, rfl, hown⟩
  have hrc := hown.rep (A := fun _ => True) hc3 ht3 (fun _ _ => trivial)
  obtain ⟨ca, cc, ta, tc, rfl, -⟩ := Hp.rep2 hrc
  clear x0a x0b x0z hz0
  have HXn1c2 := hid (blk_below HXn1.out hb2)
  have HHa1c2 := hid (Hp.rep.keeps HHa1.out (Keeps.of_below hb2))
  have HBc2 := hid (HBa1.out.trans (hb2.mono HBa1.out.size))
  have hzz2 := hb2.size
  clear hb2
  obtain ⟨x0a, x0b, x0z⟩ := box2 HXn1c2.out
  have hz0 := blk_lt HXn1c2.out
  have HRC := hid (hrc)
  clear hrc hown
  go_wp2_with fail
  clear x0a x0b x0z hz0
  have HXn1c2a3 := hid (blk_alloc HXn1c2.out (.cells #[.slice ca h.cells.length cc, .slice ta h.trail.length tc] 38))
  have HHa1c2a3 := hid (Hp.rep.keeps HHa1c2.out (Keeps.alloc _ _ (.cells #[.slice ca h.cells.length cc, .slice ta h.trail.length tc] 38)))
  have HRCa3 := hid (Hp.rep.keeps HRC.out (Keeps.alloc _ _ (.cells #[.slice ca h.cells.length cc, .slice ta h.trail.length tc] 38)))
  have HXn3 := hid (blk_new w2 (.cells #[.slice ca h.cells.length cc, .slice ta h.trail.length tc] 38))
  have HBa3 := hid (HBc2.out.alloc HBc2.out.size (.cells #[.slice ca h.cells.length cc, .slice ta h.trail.length tc] 38))
  have hsz3 : w2.heap.size < (w2.alloc (.cells #[.slice ca h.cells.length cc, .slice ta h.trail.length tc] 38)).heap.size := by simp
  generalize w2.alloc (.cells #[.slice ca h.cells.length cc, .slice ta h.trail.length tc] 38) = w3 at HXn1c2a3 HXn3 HHa1c2a3 HRCa3 HBa3 hsz3 ⊢
  obtain ⟨x0a, x0b, x0z⟩ := box2 HXn1c2a3.out
  have hz0 := blk_lt HXn1c2a3.out
  obtain ⟨x1a, x1b, x1z⟩ := box2 HXn3.out
  have hz1 := blk_lt HXn3.out
  refine (HU1.out _ [_, _] HRCa3.out).mono ?_
  rintro e w4 ⟨v, rfl, hb4, us, rfl, hr⟩
  obtain ⟨a1, c1, b1, d1, rfl, -⟩ := Hp.rep2 hr
  clear x0a x0b x0z hz0 x1a x1b x1z hz1
  have HXn1c2a3c4 := hid (blk_below HXn1c2a3.out hb4)
  have HXn3c4 := hid (blk_below HXn3.out hb4)
  have HHa1c2a3c4 := hid (Hp.rep.keeps HHa1c2a3.out (Keeps.of_below hb4))
  have HRCa3c4 := hid (Hp.rep.keeps HRCa3.out (Keeps.of_below hb4))
  have HBc4 := hid (HBa3.out.trans (hb4.mono HBa3.out.size))
  have hzz4 := hb4.size
  clear hb4
  obtain ⟨x0a, x0b, x0z⟩ := box2 HXn1c2a3c4.out
  have hz0 := blk_lt HXn1c2a3c4.out
  obtain ⟨x1a, x1b, x1z⟩ := box2 HXn3c4.out
  have hz1 := blk_lt HXn3c4.out
  have HR1 := hid (show Hp.rep (fun _ => True) _ u _ from Hp.rep.mono hr (fun _ _ _ => trivial))
  clear hr
  go_wp2_with fail
  clear x0a x0b x0z hz0 x1a x1b x1z hz1
  have HXn1c2a3c4a5 := hid (blk_alloc HXn1c2a3c4.out (.cells #[.slice a1 u.cells.length c1, .slice b1 u.trail.length d1] 38))
  have HXn3c4a5 := hid (blk_alloc HXn3c4.out (.cells #[.slice a1 u.cells.length c1, .slice b1 u.trail.length d1] 38))
  have HHa1c2a3c4a5 := hid (Hp.rep.keeps HHa1c2a3c4.out (Keeps.alloc _ _ (.cells #[.slice a1 u.cells.length c1, .slice b1 u.trail.length d1] 38)))
  have HRCa3c4a5 := hid (Hp.rep.keeps HRCa3c4.out (Keeps.alloc _ _ (.cells #[.slice a1 u.cells.length c1, .slice b1 u.trail.length d1] 38)))
  have HR1a5 := hid (Hp.rep.keeps HR1.out (Keeps.alloc _ _ (.cells #[.slice a1 u.cells.length c1, .slice b1 u.trail.length d1] 38)))
  have HXn5 := hid (blk_new w4 (.cells #[.slice a1 u.cells.length c1, .slice b1 u.trail.length d1] 38))
  have HBa5 := hid (HBc4.out.alloc HBc4.out.size (.cells #[.slice a1 u.cells.length c1, .slice b1 u.trail.length d1] 38))
  have hsz5 : w4.heap.size < (w4.alloc (.cells #[.slice a1 u.cells.length c1, .slice b1 u.trail.length d1] 38)).heap.size := by simp
  generalize w4.alloc (.cells #[.slice a1 u.cells.length c1, .slice b1 u.trail.length d1] 38) = w5 at HXn1c2a3c4a5 HXn3c4a5 HXn5 HHa1c2a3c4a5 HRCa3c4a5 HR1a5 HBa5 hsz5 ⊢
  obtain ⟨x0a, x0b, x0z⟩ := box2 HXn1c2a3c4a5.out
  have hz0 := blk_lt HXn1c2a3c4a5.out
  obtain ⟨x1a, x1b, x1z⟩ := box2 HXn3c4a5.out
  have hz1 := blk_lt HXn3c4a5.out
  obtain ⟨x2a, x2b, x2z⟩ := box2 HXn5.out
  have hz2 := blk_lt HXn5.out
  refine (HU2.out _ [_, _] HHa1c2a3c4a5.out).mono ?_
  rintro e w6 ⟨v, rfl, hb6, us, rfl, hr⟩
  obtain ⟨a2, c2, b2, d2, rfl, -⟩ := Hp.rep2 hr
  clear x0a x0b x0z hz0 x1a x1b x1z hz1 x2a x2b x2z hz2
  have HXn1c2a3c4a5c6 := hid (blk_below HXn1c2a3c4a5.out hb6)
  have HXn3c4a5c6 := hid (blk_below HXn3c4a5.out hb6)
  have HXn5c6 := hid (blk_below HXn5.out hb6)
  have HHa1c2a3c4a5c6 := hid (Hp.rep.keeps HHa1c2a3c4a5.out (Keeps.of_below hb6))
  have HRCa3c4a5c6 := hid (Hp.rep.keeps HRCa3c4a5.out (Keeps.of_below hb6))
  have HR1a5c6 := hid (Hp.rep.keeps HR1a5.out (Keeps.of_below hb6))
  have HBc6 := hid (HBa5.out.trans (hb6.mono HBa5.out.size))
  have hzz6 := hb6.size
  clear hb6
  obtain ⟨x0a, x0b, x0z⟩ := box2 HXn1c2a3c4a5c6.out
  have hz0 := blk_lt HXn1c2a3c4a5c6.out
  obtain ⟨x1a, x1b, x1z⟩ := box2 HXn3c4a5c6.out
  have hz1 := blk_lt HXn3c4a5c6.out
  obtain ⟨x2a, x2b, x2z⟩ := box2 HXn5c6.out
  have hz2 := blk_lt HXn5c6.out
  have HR2 := hid (show Hp.rep (fun _ => True) _ u _ from Hp.rep.mono hr (fun _ _ _ => trivial))
  clear hr
  go_wp2_with fail
  clear x0a x0b x0z hz0 x1a x1b x1z hz1 x2a x2b x2z hz2
  have HXn1c2a3c4a5c6a7 := hid (blk_alloc HXn1c2a3c4a5c6.out (.cells #[.slice a2 u.cells.length c2, .slice b2 u.trail.length d2] 38))
  have HXn3c4a5c6a7 := hid (blk_alloc HXn3c4a5c6.out (.cells #[.slice a2 u.cells.length c2, .slice b2 u.trail.length d2] 38))
  have HXn5c6a7 := hid (blk_alloc HXn5c6.out (.cells #[.slice a2 u.cells.length c2, .slice b2 u.trail.length d2] 38))
  have HHa1c2a3c4a5c6a7 := hid (Hp.rep.keeps HHa1c2a3c4a5c6.out (Keeps.alloc _ _ (.cells #[.slice a2 u.cells.length c2, .slice b2 u.trail.length d2] 38)))
  have HRCa3c4a5c6a7 := hid (Hp.rep.keeps HRCa3c4a5c6.out (Keeps.alloc _ _ (.cells #[.slice a2 u.cells.length c2, .slice b2 u.trail.length d2] 38)))
  have HR1a5c6a7 := hid (Hp.rep.keeps HR1a5c6.out (Keeps.alloc _ _ (.cells #[.slice a2 u.cells.length c2, .slice b2 u.trail.length d2] 38)))
  have HR2a7 := hid (Hp.rep.keeps HR2.out (Keeps.alloc _ _ (.cells #[.slice a2 u.cells.length c2, .slice b2 u.trail.length d2] 38)))
  have HXn7 := hid (blk_new w6 (.cells #[.slice a2 u.cells.length c2, .slice b2 u.trail.length d2] 38))
  have HBa7 := hid (HBc6.out.alloc HBc6.out.size (.cells #[.slice a2 u.cells.length c2, .slice b2 u.trail.length d2] 38))
  have hsz7 : w6.heap.size < (w6.alloc (.cells #[.slice a2 u.cells.length c2, .slice b2 u.trail.length d2] 38)).heap.size := by simp
  generalize w6.alloc (.cells #[.slice a2 u.cells.length c2, .slice b2 u.trail.length d2] 38) = w7 at HXn1c2a3c4a5c6a7 HXn3c4a5c6a7 HXn5c6a7 HXn7 HHa1c2a3c4a5c6a7 HRCa3c4a5c6a7 HR1a5c6a7 HR2a7 HBa7 hsz7 ⊢
  obtain ⟨x0a, x0b, x0z⟩ := box2 HXn1c2a3c4a5c6a7.out
  have hz0 := blk_lt HXn1c2a3c4a5c6a7.out
  obtain ⟨x1a, x1b, x1z⟩ := box2 HXn3c4a5c6a7.out
  have hz1 := blk_lt HXn3c4a5c6a7.out
  obtain ⟨x2a, x2b, x2z⟩ := box2 HXn5c6a7.out
  have hz2 := blk_lt HXn5c6a7.out
  obtain ⟨x3a, x3b, x3z⟩ := box2 HXn7.out
  have hz3 := blk_lt HXn7.out
  refine (sameHeap_ok u u (fun _ => True) _ [_, _] [_, _] HR1a5c6a7.out HR2a7.out).mono ?_
  rintro e w8 ⟨v, rfl, hb8, b, rfl, ht⟩
  obtain rfl : b = true := ht.2 rfl
  clear ht
  clear x0a x0b x0z hz0 x1a x1b x1z hz1 x2a x2b x2z hz2 x3a x3b x3z hz3
  have HXn1c2a3c4a5c6a7c8 := hid (blk_below HXn1c2a3c4a5c6a7.out hb8)
  have HXn3c4a5c6a7c8 := hid (blk_below HXn3c4a5c6a7.out hb8)
  have HXn5c6a7c8 := hid (blk_below HXn5c6a7.out hb8)
  have HXn7c8 := hid (blk_below HXn7.out hb8)
  have HHa1c2a3c4a5c6a7c8 := hid (Hp.rep.keeps HHa1c2a3c4a5c6a7.out (Keeps.of_below hb8))
  have HRCa3c4a5c6a7c8 := hid (Hp.rep.keeps HRCa3c4a5c6a7.out (Keeps.of_below hb8))
  have HR1a5c6a7c8 := hid (Hp.rep.keeps HR1a5c6a7.out (Keeps.of_below hb8))
  have HR2a7c8 := hid (Hp.rep.keeps HR2a7.out (Keeps.of_below hb8))
  have HBc8 := hid (HBa7.out.trans (hb8.mono HBa7.out.size))
  have hzz8 := hb8.size
  clear hb8
  obtain ⟨x0a, x0b, x0z⟩ := box2 HXn1c2a3c4a5c6a7c8.out
  have hz0 := blk_lt HXn1c2a3c4a5c6a7c8.out
  obtain ⟨x1a, x1b, x1z⟩ := box2 HXn3c4a5c6a7c8.out
  have hz1 := blk_lt HXn3c4a5c6a7c8.out
  obtain ⟨x2a, x2b, x2z⟩ := box2 HXn5c6a7c8.out
  have hz2 := blk_lt HXn5c6a7c8.out
  obtain ⟨x3a, x3b, x3z⟩ := box2 HXn7c8.out
  have hz3 := blk_lt HXn7c8.out
  go_wp2_with fail
  refine (sameHeap_ok h h (fun _ => True) _ [_, _] [_, _] HRCa3c4a5c6a7c8.out HHa1c2a3c4a5c6a7c8.out).mono ?_
  rintro e w9 ⟨v, rfl, hb9, b, rfl, ht⟩
  obtain rfl : b = true := ht.2 rfl
  clear ht
  clear x0a x0b x0z hz0 x1a x1b x1z hz1 x2a x2b x2z hz2 x3a x3b x3z hz3
  have HXn1c2a3c4a5c6a7c8c9 := hid (blk_below HXn1c2a3c4a5c6a7c8.out hb9)
  have HXn3c4a5c6a7c8c9 := hid (blk_below HXn3c4a5c6a7c8.out hb9)
  have HXn5c6a7c8c9 := hid (blk_below HXn5c6a7c8.out hb9)
  have HXn7c8c9 := hid (blk_below HXn7c8.out hb9)
  have HHa1c2a3c4a5c6a7c8c9 := hid (Hp.rep.keeps HHa1c2a3c4a5c6a7c8.out (Keeps.of_below hb9))
  have HRCa3c4a5c6a7c8c9 := hid (Hp.rep.keeps HRCa3c4a5c6a7c8.out (Keeps.of_below hb9))
  have HR1a5c6a7c8c9 := hid (Hp.rep.keeps HR1a5c6a7c8.out (Keeps.of_below hb9))
  have HR2a7c8c9 := hid (Hp.rep.keeps HR2a7c8.out (Keeps.of_below hb9))
  have HBc9 := hid (HBc8.out.trans (hb9.mono HBc8.out.size))
  have hzz9 := hb9.size
  clear hb9
  obtain ⟨x0a, x0b, x0z⟩ := box2 HXn1c2a3c4a5c6a7c8c9.out
  have hz0 := blk_lt HXn1c2a3c4a5c6a7c8c9.out
  obtain ⟨x1a, x1b, x1z⟩ := box2 HXn3c4a5c6a7c8c9.out
  have hz1 := blk_lt HXn3c4a5c6a7c8c9.out
  obtain ⟨x2a, x2b, x2z⟩ := box2 HXn5c6a7c8c9.out
  have hz2 := blk_lt HXn5c6a7c8c9.out
  obtain ⟨x3a, x3b, x3z⟩ := box2 HXn7c8c9.out
  have hz3 := blk_lt HXn7c8c9.out
  go_wp2_with fail
  refine (heapsL_ok _).mono ?_
  rintro e w10 ⟨v, rfl, hb10, rfl⟩
  clear x0a x0b x0z hz0 x1a x1b x1z hz1 x2a x2b x2z hz2 x3a x3b x3z hz3
  have HXn1c2a3c4a5c6a7c8c9c10 := hid (blk_below HXn1c2a3c4a5c6a7c8c9.out hb10)
  have HXn3c4a5c6a7c8c9c10 := hid (blk_below HXn3c4a5c6a7c8c9.out hb10)
  have HXn5c6a7c8c9c10 := hid (blk_below HXn5c6a7c8c9.out hb10)
  have HXn7c8c9c10 := hid (blk_below HXn7c8c9.out hb10)
  have HHa1c2a3c4a5c6a7c8c9c10 := hid (Hp.rep.keeps HHa1c2a3c4a5c6a7c8c9.out (Keeps.of_below hb10))
  have HRCa3c4a5c6a7c8c9c10 := hid (Hp.rep.keeps HRCa3c4a5c6a7c8c9.out (Keeps.of_below hb10))
  have HR1a5c6a7c8c9c10 := hid (Hp.rep.keeps HR1a5c6a7c8c9.out (Keeps.of_below hb10))
  have HR2a7c8c9c10 := hid (Hp.rep.keeps HR2a7c8c9.out (Keeps.of_below hb10))
  have HBc10 := hid (HBc9.out.trans (hb10.mono HBc9.out.size))
  have hzz10 := hb10.size
  clear hb10
  obtain ⟨x0a, x0b, x0z⟩ := box2 HXn1c2a3c4a5c6a7c8c9c10.out
  have hz0 := blk_lt HXn1c2a3c4a5c6a7c8c9c10.out
  obtain ⟨x1a, x1b, x1z⟩ := box2 HXn3c4a5c6a7c8c9c10.out
  have hz1 := blk_lt HXn3c4a5c6a7c8c9c10.out
  obtain ⟨x2a, x2b, x2z⟩ := box2 HXn5c6a7c8c9c10.out
  have hz2 := blk_lt HXn5c6a7c8c9c10.out
  obtain ⟨x3a, x3b, x3z⟩ := box2 HXn7c8c9c10.out
  have hz3 := blk_lt HXn7c8c9c10.out
  go_wp2_with fail
  go_ret
  exact ⟨_, rfl, HBc10.out, rfl⟩
end Go.Proofs.Ytlpmfkpefoegeaa
