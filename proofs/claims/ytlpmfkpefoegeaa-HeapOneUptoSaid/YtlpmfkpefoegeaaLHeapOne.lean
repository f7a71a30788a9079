/-
  The walk of queristkeep.HeapOne.
-/
import Derived.Test.YtlpmfkpefoegeaaQTermH
import Derived.Test.YtlpmfkpefoegeaaQBack
import Derived.Test.YtlpmfkpefoegeaaQHeaps
import Derived.Test.YtlpmfkpefoegeaaQSameHeap
import Derived.Test.YtlpmfkpefoegeaaQSameK
import Derived.Test.YtlpmfkpefoegeaaHOnce
namespace Go.Proofs.Ytlpmfkpefoegeaa
set_option linter.unusedVariables false
set_option linter.unusedSimpArgs false
open Go.RowKit

set_option maxRecDepth 100000 in
set_option maxHeartbeats 4000000 in
theorem heapOne_walk (h : Hp) (a b : Int) (ha : I64 a) (hb : I64 b) (w : World) (vs : List Value) (hh : Hp.rep (fun _ => True) w h vs) :
    Calls Try.prog 11 #[.agg vs.toArray, .int .i64 a, .int .i64 b] w (Pure w (fun r _ => r = .bool true)) := by
  obtain ⟨va, cap, vb, tap, rfl, hc1, hc2, hc3, ht1, ht2, ht3, -⟩ := Hp.rep2 hh
  have HIA := hid ha
  have HIB := hid hb
  have HUN := hid (fun (W : World) (us : List Value) (k : Hp.rep (fun _ => True) W h us) => hunify_ok h a b ha hb (fun _ => True) W us k)
  have HNO := hid (unifyF_no (h := h) (a := a) (b := b))
  have HOK := hid (unifyF_ok0 (h := h) (a := a) (b := b))
  have HYES := hid (fun (u : Hp) (e : Int) (hu : unifyF h a b = (u, true, e)) => And.intro (unify_term hu 1000) (And.intro (unify_undo hu) (unifyF_good hu).1))
  clear ha hb
  generalize unifyF h a b = r at *
  obtain ⟨u, ok, e⟩ := r
  simp only at HNO HOK
  have HH := hid (hh)
  clear hh
  go_enter Try.func11, Try.ntmps11
  go_wp2_with fail
  have HHa1 := hid (Hp.rep.keeps HH.out (Keeps.alloc _ _ (.cells #[.slice va h.cells.length cap, .slice vb h.trail.length tap] 38)))
  have HXn1 := hid (blk_new w (.cells #[.slice va h.cells.length cap, .slice vb h.trail.length tap] 38))
  have HBa1 := hid ((Below.refl _ w).alloc (Nat.le_refl _) (.cells #[.slice va h.cells.length cap, .slice vb h.trail.length tap] 38))
  have hsz1 : w.heap.size < (w.alloc (.cells #[.slice va h.cells.length cap, .slice vb h.trail.length tap] 38)).heap.size := by simp
  generalize w.alloc (.cells #[.slice va h.cells.length cap, .slice vb h.trail.length tap] 38) = w1 at HXn1 HHa1 HBa1 hsz1 ⊢
  obtain ⟨x0a, x0b, x0z⟩ := box2 HXn1.out
  have hz0 := blk_lt HXn1.out
  refine (HUN.out _ [_, _] HHa1.out).mono ?_
  rintro e w2 ⟨v, rfl, hb2, us, rfl, hr⟩
  obtain ⟨ua, uc, ub, ud, rfl, -⟩ := Hp.rep2 hr
  clear x0a x0b x0z hz0
  have HXn1c2 := hid (blk_below HXn1.out hb2)
  have HHa1c2 := hid (Hp.rep.keeps HHa1.out (Keeps.of_below hb2))
  have HBc2 := hid (HBa1.out.trans (hb2.mono HBa1.out.size))
  have hzz2 := hb2.size
  clear hb2
  obtain ⟨x0a, x0b, x0z⟩ := box2 HXn1c2.out
  have hz0 := blk_lt HXn1c2.out
  have HRU := hid (show Hp.rep (fun _ => True) _ u _ from Hp.rep.mono hr (fun _ _ _ => trivial))
  clear hr
  cases ok with
  | false =>
    by_cases he : e = 0
    · subst he
      obtain rfl : u = h := HNO.out rfl
      go_wp2_with fail
      clear x0a x0b x0z hz0
      have HXn1c2a3 := hid (blk_alloc HXn1c2.out (.cells #[.slice ua u.cells.length uc, .slice ub u.trail.length ud] 38))
      have HHa1c2a3 := hid (Hp.rep.keeps HHa1c2.out (Keeps.alloc _ _ (.cells #[.slice ua u.cells.length uc, .slice ub u.trail.length ud] 38)))
      have HRUa3 := hid (Hp.rep.keeps HRU.out (Keeps.alloc _ _ (.cells #[.slice ua u.cells.length uc, .slice ub u.trail.length ud] 38)))
      have HXn3 := hid (blk_new w2 (.cells #[.slice ua u.cells.length uc, .slice ub u.trail.length ud] 38))
      have HBa3 := hid (HBc2.out.alloc HBc2.out.size (.cells #[.slice ua u.cells.length uc, .slice ub u.trail.length ud] 38))
      have hsz3 : w2.heap.size < (w2.alloc (.cells #[.slice ua u.cells.length uc, .slice ub u.trail.length ud] 38)).heap.size := by simp
      generalize w2.alloc (.cells #[.slice ua u.cells.length uc, .slice ub u.trail.length ud] 38) = w3 at HXn1c2a3 HXn3 HHa1c2a3 HRUa3 HBa3 hsz3 ⊢
      obtain ⟨x0a, x0b, x0z⟩ := box2 HXn1c2a3.out
      have hz0 := blk_lt HXn1c2a3.out
      obtain ⟨x1a, x1b, x1z⟩ := box2 HXn3.out
      have hz1 := blk_lt HXn3.out
      refine (sameHeapK_ok u u (fun _ => True) _ [_, _] [_, _] HRUa3.out HHa1c2a3.out).mono ?_
      rintro e w4 ⟨v, rfl, hb4, b, rfl, ht⟩
      obtain rfl : b = true := ht.2 rfl
      clear ht
      clear x0a x0b x0z hz0 x1a x1b x1z hz1
      have HXn1c2a3c4 := hid (blk_below HXn1c2a3.out hb4)
      have HXn3c4 := hid (blk_below HXn3.out hb4)
      have HHa1c2a3c4 := hid (Hp.rep.keeps HHa1c2a3.out (Keeps.of_below hb4))
      have HRUa3c4 := hid (Hp.rep.keeps HRUa3.out (Keeps.of_below hb4))
      have HBc4 := hid (HBa3.out.trans (hb4.mono HBa3.out.size))
      have hzz4 := hb4.size
      clear hb4
      obtain ⟨x0a, x0b, x0z⟩ := box2 HXn1c2a3c4.out
      have hz0 := blk_lt HXn1c2a3c4.out
      obtain ⟨x1a, x1b, x1z⟩ := box2 HXn3c4.out
      have hz1 := blk_lt HXn3c4.out
      go_wp2_with fail
      refine (heapsK_ok _).mono ?_
      rintro e w5 ⟨v, rfl, hb5, rfl⟩
      clear x0a x0b x0z hz0 x1a x1b x1z hz1
      have HXn1c2a3c4c5 := hid (blk_below HXn1c2a3c4.out hb5)
      have HXn3c4c5 := hid (blk_below HXn3c4.out hb5)
      have HHa1c2a3c4c5 := hid (Hp.rep.keeps HHa1c2a3c4.out (Keeps.of_below hb5))
      have HRUa3c4c5 := hid (Hp.rep.keeps HRUa3c4.out (Keeps.of_below hb5))
      have HBc5 := hid (HBc4.out.trans (hb5.mono HBc4.out.size))
      have hzz5 := hb5.size
      clear hb5
      obtain ⟨x0a, x0b, x0z⟩ := box2 HXn1c2a3c4c5.out
      have hz0 := blk_lt HXn1c2a3c4c5.out
      obtain ⟨x1a, x1b, x1z⟩ := box2 HXn3c4c5.out
      have hz1 := blk_lt HXn3c4c5.out
      go_wp2_with fail
      go_ret
      exact ⟨_, rfl, HBc5.out, rfl⟩
    · have he' : (e != 0) = true := by simpa using he
      clear he
      obtain rfl : u = h := HNO.out rfl
      go_wp2_with fail
      clear x0a x0b x0z hz0
      have HXn1c2a3 := hid (blk_alloc HXn1c2.out (.cells #[.slice ua u.cells.length uc, .slice ub u.trail.length ud] 38))
      have HHa1c2a3 := hid (Hp.rep.keeps HHa1c2.out (Keeps.alloc _ _ (.cells #[.slice ua u.cells.length uc, .slice ub u.trail.length ud] 38)))
      have HRUa3 := hid (Hp.rep.keeps HRU.out (Keeps.alloc _ _ (.cells #[.slice ua u.cells.length uc, .slice ub u.trail.length ud] 38)))
      have HXn3 := hid (blk_new w2 (.cells #[.slice ua u.cells.length uc, .slice ub u.trail.length ud] 38))
      have HBa3 := hid (HBc2.out.alloc HBc2.out.size (.cells #[.slice ua u.cells.length uc, .slice ub u.trail.length ud] 38))
      have hsz3 : w2.heap.size < (w2.alloc (.cells #[.slice ua u.cells.length uc, .slice ub u.trail.length ud] 38)).heap.size := by simp
      generalize w2.alloc (.cells #[.slice ua u.cells.length uc, .slice ub u.trail.length ud] 38) = w3 at HXn1c2a3 HXn3 HHa1c2a3 HRUa3 HBa3 hsz3 ⊢
      obtain ⟨x0a, x0b, x0z⟩ := box2 HXn1c2a3.out
      have hz0 := blk_lt HXn1c2a3.out
      obtain ⟨x1a, x1b, x1z⟩ := box2 HXn3.out
      have hz1 := blk_lt HXn3.out
      refine (sameHeapK_ok u u (fun _ => True) _ [_, _] [_, _] HRUa3.out HHa1c2a3.out).mono ?_
      rintro e w4 ⟨v, rfl, hb4, b, rfl, ht⟩
      obtain rfl : b = true := ht.2 rfl
      clear ht
      clear x0a x0b x0z hz0 x1a x1b x1z hz1
      have HXn1c2a3c4 := hid (blk_below HXn1c2a3.out hb4)
      have HXn3c4 := hid (blk_below HXn3.out hb4)
      have HHa1c2a3c4 := hid (Hp.rep.keeps HHa1c2a3.out (Keeps.of_below hb4))
      have HRUa3c4 := hid (Hp.rep.keeps HRUa3.out (Keeps.of_below hb4))
      have HBc4 := hid (HBa3.out.trans (hb4.mono HBa3.out.size))
      have hzz4 := hb4.size
      clear hb4
      obtain ⟨x0a, x0b, x0z⟩ := box2 HXn1c2a3c4.out
      have hz0 := blk_lt HXn1c2a3c4.out
      obtain ⟨x1a, x1b, x1z⟩ := box2 HXn3c4.out
      have hz1 := blk_lt HXn3c4.out
      go_wp2_with fail
      refine (heapsK_ok _).mono ?_
      rintro e w5 ⟨v, rfl, hb5, rfl⟩
      clear x0a x0b x0z hz0 x1a x1b x1z hz1
      have HXn1c2a3c4c5 := hid (blk_below HXn1c2a3c4.out hb5)
      have HXn3c4c5 := hid (blk_below HXn3c4.out hb5)
      have HHa1c2a3c4c5 := hid (Hp.rep.keeps HHa1c2a3c4.out (Keeps.of_below hb5))
      have HRUa3c4c5 := hid (Hp.rep.keeps HRUa3c4.out (Keeps.of_below hb5))
      have HBc5 := hid (HBc4.out.trans (hb5.mono HBc4.out.size))
      have hzz5 := hb5.size
      clear hb5
      obtain ⟨x0a, x0b, x0z⟩ := box2 HXn1c2a3c4c5.out
      have hz0 := blk_lt HXn1c2a3c4c5.out
      obtain ⟨x1a, x1b, x1z⟩ := box2 HXn3c4c5.out
      have hz1 := blk_lt HXn3c4c5.out
      go_wp2_with fail
      go_ret
      exact ⟨_, rfl, HBc5.out, rfl⟩
  | true =>
    obtain rfl : e = 0 := HOK.out rfl
    obtain ⟨HTM, hund, hgu⟩ := HYES.out u 0 rfl
    have HTA := hid (fun (W : World) (us : List Value) (k : Hp.rep (fun _ => True) W u us) => termH_ok u a 1000 HIA.out (by unfold I64; omega) (fun _ => True) W us k)
    have HTB := hid (fun (W : World) (us : List Value) (k : Hp.rep (fun _ => True) W u us) => termH_ok u b 1000 HIB.out (by unfold I64; omega) (fun _ => True) W us k)
    have HUD := hid (fun (W : World) (us : List Value) (k : Hp.rep (fun _ => True) W u us) => undo_ok u h.trail.length (by unfold I64; omega) (fun _ => True) W us k)
    rw [HTM] at HTA
    rw [hund] at HUD
    have HGU := hid hgu
    clear HTM hund hgu HYES HNO HUN
    generalize termF u b 1000 = ru at HTA HTB
    obtain ⟨t, n, er⟩ := ru
    go_wp2_with fail
    clear x0a x0b x0z hz0
    have HXn1c2a3 := hid (blk_alloc HXn1c2.out (.cells #[.slice ua u.cells.length uc, .slice ub u.trail.length ud] 38))
    have HHa1c2a3 := hid (Hp.rep.keeps HHa1c2.out (Keeps.alloc _ _ (.cells #[.slice ua u.cells.length uc, .slice ub u.trail.length ud] 38)))
    have HRUa3 := hid (Hp.rep.keeps HRU.out (Keeps.alloc _ _ (.cells #[.slice ua u.cells.length uc, .slice ub u.trail.length ud] 38)))
    have HXn3 := hid (blk_new w2 (.cells #[.slice ua u.cells.length uc, .slice ub u.trail.length ud] 38))
    have HBa3 := hid (HBc2.out.alloc HBc2.out.size (.cells #[.slice ua u.cells.length uc, .slice ub u.trail.length ud] 38))
    have hsz3 : w2.heap.size < (w2.alloc (.cells #[.slice ua u.cells.length uc, .slice ub u.trail.length ud] 38)).heap.size := by simp
    generalize w2.alloc (.cells #[.slice ua u.cells.length uc, .slice ub u.trail.length ud] 38) = w3 at HXn1c2a3 HXn3 HHa1c2a3 HRUa3 HBa3 hsz3 ⊢
    obtain ⟨x0a, x0b, x0z⟩ := box2 HXn1c2a3.out
    have hz0 := blk_lt HXn1c2a3.out
    obtain ⟨x1a, x1b, x1z⟩ := box2 HXn3.out
    have hz1 := blk_lt HXn3.out
    refine (heapsK_ok _).mono ?_
    rintro e w4 ⟨v, rfl, hb4, rfl⟩
    clear x0a x0b x0z hz0 x1a x1b x1z hz1
    have HXn1c2a3c4 := hid (blk_below HXn1c2a3.out hb4)
    have HXn3c4 := hid (blk_below HXn3.out hb4)
    have HHa1c2a3c4 := hid (Hp.rep.keeps HHa1c2a3.out (Keeps.of_below hb4))
    have HRUa3c4 := hid (Hp.rep.keeps HRUa3.out (Keeps.of_below hb4))
    have HBc4 := hid (HBa3.out.trans (hb4.mono HBa3.out.size))
    have hzz4 := hb4.size
    clear hb4
    obtain ⟨x0a, x0b, x0z⟩ := box2 HXn1c2a3c4.out
    have hz0 := blk_lt HXn1c2a3c4.out
    obtain ⟨x1a, x1b, x1z⟩ := box2 HXn3c4.out
    have hz1 := blk_lt HXn3c4.out
    go_wp2_with fail
    refine (HTA.out _ [_, _] HRUa3c4.out).mono ?_
    rintro e w5 ⟨v, rfl, hb5, us, rfl, hr⟩
    obtain ⟨a1, c1, rfl, -⟩ := Tm.rep4 hr
    clear x0a x0b x0z hz0 x1a x1b x1z hz1
    have HXn1c2a3c4c5 := hid (blk_below HXn1c2a3c4.out hb5)
    have HXn3c4c5 := hid (blk_below HXn3c4.out hb5)
    have HHa1c2a3c4c5 := hid (Hp.rep.keeps HHa1c2a3c4.out (Keeps.of_below hb5))
    have HRUa3c4c5 := hid (Hp.rep.keeps HRUa3c4.out (Keeps.of_below hb5))
    have HBc5 := hid (HBc4.out.trans (hb5.mono HBc4.out.size))
    have hzz5 := hb5.size
    clear hb5
    obtain ⟨x0a, x0b, x0z⟩ := box2 HXn1c2a3c4c5.out
    have hz0 := blk_lt HXn1c2a3c4c5.out
    obtain ⟨x1a, x1b, x1z⟩ := box2 HXn3c4c5.out
    have hz1 := blk_lt HXn3c4c5.out
    have HT1 := hid (hr)
    clear hr
    go_wp2_with fail
    clear x0a x0b x0z hz0 x1a x1b x1z hz1
    have HXn1c2a3c4c5a6 := hid (blk_alloc HXn1c2a3c4c5.out (.cells #[.int .i64 t.kind, .int .i64 t.n, .string t.s, .slice a1 t.args.length c1] 26))
    have HXn3c4c5a6 := hid (blk_alloc HXn3c4c5.out (.cells #[.int .i64 t.kind, .int .i64 t.n, .string t.s, .slice a1 t.args.length c1] 26))
    have HHa1c2a3c4c5a6 := hid (Hp.rep.keeps HHa1c2a3c4c5.out (Keeps.alloc _ _ (.cells #[.int .i64 t.kind, .int .i64 t.n, .string t.s, .slice a1 t.args.length c1] 26)))
    have HRUa3c4c5a6 := hid (Hp.rep.keeps HRUa3c4c5.out (Keeps.alloc _ _ (.cells #[.int .i64 t.kind, .int .i64 t.n, .string t.s, .slice a1 t.args.length c1] 26)))
    have HT1a6 := hid (Tm.rep_lasts.1 _ _ _ _ _ HT1.out (Keeps.alloc _ _ (.cells #[.int .i64 t.kind, .int .i64 t.n, .string t.s, .slice a1 t.args.length c1] 26)))
    have HXn6 := hid (blk_new w5 (.cells #[.int .i64 t.kind, .int .i64 t.n, .string t.s, .slice a1 t.args.length c1] 26))
    have HBa6 := hid (HBc5.out.alloc HBc5.out.size (.cells #[.int .i64 t.kind, .int .i64 t.n, .string t.s, .slice a1 t.args.length c1] 26))
    have hsz6 : w5.heap.size < (w5.alloc (.cells #[.int .i64 t.kind, .int .i64 t.n, .string t.s, .slice a1 t.args.length c1] 26)).heap.size := by simp
    generalize w5.alloc (.cells #[.int .i64 t.kind, .int .i64 t.n, .string t.s, .slice a1 t.args.length c1] 26) = w6 at HXn1c2a3c4c5a6 HXn3c4c5a6 HXn6 HHa1c2a3c4c5a6 HRUa3c4c5a6 HT1a6 HBa6 hsz6 ⊢
    obtain ⟨x0a, x0b, x0z⟩ := box2 HXn1c2a3c4c5a6.out
    have hz0 := blk_lt HXn1c2a3c4c5a6.out
    obtain ⟨x1a, x1b, x1z⟩ := box2 HXn3c4c5a6.out
    have hz1 := blk_lt HXn3c4c5a6.out
    obtain ⟨x2a, x2b, x2c, x2d, x2z⟩ := blk4 HXn6.out
    have hz2 := blk_lt HXn6.out
    refine (HTB.out _ [_, _] HRUa3c4c5a6.out).mono ?_
    rintro e w7 ⟨v, rfl, hb7, us, rfl, hr⟩
    obtain ⟨a2, c2, rfl, -⟩ := Tm.rep4 hr
    clear x0a x0b x0z hz0 x1a x1b x1z hz1 x2a x2b x2c x2d x2z hz2
    have HXn1c2a3c4c5a6c7 := hid (blk_below HXn1c2a3c4c5a6.out hb7)
    have HXn3c4c5a6c7 := hid (blk_below HXn3c4c5a6.out hb7)
    have HXn6c7 := hid (blk_below HXn6.out hb7)
    have HHa1c2a3c4c5a6c7 := hid (Hp.rep.keeps HHa1c2a3c4c5a6.out (Keeps.of_below hb7))
    have HRUa3c4c5a6c7 := hid (Hp.rep.keeps HRUa3c4c5a6.out (Keeps.of_below hb7))
    have HT1a6c7 := hid (Tm.rep_lasts.1 _ _ _ _ _ HT1a6.out (Keeps.of_below hb7))
    have HBc7 := hid (HBa6.out.trans (hb7.mono HBa6.out.size))
    have hzz7 := hb7.size
    clear hb7
    obtain ⟨x0a, x0b, x0z⟩ := box2 HXn1c2a3c4c5a6c7.out
    have hz0 := blk_lt HXn1c2a3c4c5a6c7.out
    obtain ⟨x1a, x1b, x1z⟩ := box2 HXn3c4c5a6c7.out
    have hz1 := blk_lt HXn3c4c5a6c7.out
    obtain ⟨x2a, x2b, x2c, x2d, x2z⟩ := blk4 HXn6c7.out
    have hz2 := blk_lt HXn6c7.out
    have HT2 := hid (hr)
    clear hr
    go_wp2_with fail
    clear x0a x0b x0z hz0 x1a x1b x1z hz1 x2a x2b x2c x2d x2z hz2
    have HXn1c2a3c4c5a6c7a8 := hid (blk_alloc HXn1c2a3c4c5a6c7.out (.cells #[.int .i64 t.kind, .int .i64 t.n, .string t.s, .slice a2 t.args.length c2] 26))
    have HXn3c4c5a6c7a8 := hid (blk_alloc HXn3c4c5a6c7.out (.cells #[.int .i64 t.kind, .int .i64 t.n, .string t.s, .slice a2 t.args.length c2] 26))
    have HXn6c7a8 := hid (blk_alloc HXn6c7.out (.cells #[.int .i64 t.kind, .int .i64 t.n, .string t.s, .slice a2 t.args.length c2] 26))
    have HHa1c2a3c4c5a6c7a8 := hid (Hp.rep.keeps HHa1c2a3c4c5a6c7.out (Keeps.alloc _ _ (.cells #[.int .i64 t.kind, .int .i64 t.n, .string t.s, .slice a2 t.args.length c2] 26)))
    have HRUa3c4c5a6c7a8 := hid (Hp.rep.keeps HRUa3c4c5a6c7.out (Keeps.alloc _ _ (.cells #[.int .i64 t.kind, .int .i64 t.n, .string t.s, .slice a2 t.args.length c2] 26)))
    have HT1a6c7a8 := hid (Tm.rep_lasts.1 _ _ _ _ _ HT1a6c7.out (Keeps.alloc _ _ (.cells #[.int .i64 t.kind, .int .i64 t.n, .string t.s, .slice a2 t.args.length c2] 26)))
    have HT2a8 := hid (Tm.rep_lasts.1 _ _ _ _ _ HT2.out (Keeps.alloc _ _ (.cells #[.int .i64 t.kind, .int .i64 t.n, .string t.s, .slice a2 t.args.length c2] 26)))
    have HXn8 := hid (blk_new w7 (.cells #[.int .i64 t.kind, .int .i64 t.n, .string t.s, .slice a2 t.args.length c2] 26))
    have HBa8 := hid (HBc7.out.alloc HBc7.out.size (.cells #[.int .i64 t.kind, .int .i64 t.n, .string t.s, .slice a2 t.args.length c2] 26))
    have hsz8 : w7.heap.size < (w7.alloc (.cells #[.int .i64 t.kind, .int .i64 t.n, .string t.s, .slice a2 t.args.length c2] 26)).heap.size := by simp
    generalize w7.alloc (.cells #[.int .i64 t.kind, .int .i64 t.n, .string t.s, .slice a2 t.args.length c2] 26) = w8 at HXn1c2a3c4c5a6c7a8 HXn3c4c5a6c7a8 HXn6c7a8 HXn8 HHa1c2a3c4c5a6c7a8 HRUa3c4c5a6c7a8 HT1a6c7a8 HT2a8 HBa8 hsz8 ⊢
    obtain ⟨x0a, x0b, x0z⟩ := box2 HXn1c2a3c4c5a6c7a8.out
    have hz0 := blk_lt HXn1c2a3c4c5a6c7a8.out
    obtain ⟨x1a, x1b, x1z⟩ := box2 HXn3c4c5a6c7a8.out
    have hz1 := blk_lt HXn3c4c5a6c7a8.out
    obtain ⟨x2a, x2b, x2c, x2d, x2z⟩ := blk4 HXn6c7a8.out
    have hz2 := blk_lt HXn6c7a8.out
    obtain ⟨x3a, x3b, x3c, x3d, x3z⟩ := blk4 HXn8.out
    have hz3 := blk_lt HXn8.out
    refine (HUD.out _ [_, _] HRUa3c4c5a6c7a8.out).mono ?_
    rintro e w9 ⟨v, rfl, hb9, us, rfl, hr⟩
    obtain ⟨ba, bc, bb, bd, rfl, -⟩ := Hp.rep2 hr
    clear x0a x0b x0z hz0 x1a x1b x1z hz1 x2a x2b x2c x2d x2z hz2 x3a x3b x3c x3d x3z hz3
    have HXn1c2a3c4c5a6c7a8c9 := hid (blk_below HXn1c2a3c4c5a6c7a8.out hb9)
    have HXn3c4c5a6c7a8c9 := hid (blk_below HXn3c4c5a6c7a8.out hb9)
    have HXn6c7a8c9 := hid (blk_below HXn6c7a8.out hb9)
    have HXn8c9 := hid (blk_below HXn8.out hb9)
    have HHa1c2a3c4c5a6c7a8c9 := hid (Hp.rep.keeps HHa1c2a3c4c5a6c7a8.out (Keeps.of_below hb9))
    have HRUa3c4c5a6c7a8c9 := hid (Hp.rep.keeps HRUa3c4c5a6c7a8.out (Keeps.of_below hb9))
    have HT1a6c7a8c9 := hid (Tm.rep_lasts.1 _ _ _ _ _ HT1a6c7a8.out (Keeps.of_below hb9))
    have HT2a8c9 := hid (Tm.rep_lasts.1 _ _ _ _ _ HT2a8.out (Keeps.of_below hb9))
    have HBc9 := hid (HBa8.out.trans (hb9.mono HBa8.out.size))
    have hzz9 := hb9.size
    clear hb9
    obtain ⟨x0a, x0b, x0z⟩ := box2 HXn1c2a3c4c5a6c7a8c9.out
    have hz0 := blk_lt HXn1c2a3c4c5a6c7a8c9.out
    obtain ⟨x1a, x1b, x1z⟩ := box2 HXn3c4c5a6c7a8c9.out
    have hz1 := blk_lt HXn3c4c5a6c7a8c9.out
    obtain ⟨x2a, x2b, x2c, x2d, x2z⟩ := blk4 HXn6c7a8c9.out
    have hz2 := blk_lt HXn6c7a8c9.out
    obtain ⟨x3a, x3b, x3c, x3d, x3z⟩ := blk4 HXn8c9.out
    have hz3 := blk_lt HXn8c9.out
    have HRB := hid (show Hp.rep (fun _ => True) _ h _ from Hp.rep.mono hr (fun _ _ _ => trivial))
    clear hr
    go_wp2_with fail
    clear x0a x0b x0z hz0 x1a x1b x1z hz1 x2a x2b x2c x2d x2z hz2 x3a x3b x3c x3d x3z hz3
    have HXn1c2a3c4c5a6c7a8c9a10 := hid (blk_alloc HXn1c2a3c4c5a6c7a8c9.out (.cells #[.slice ba h.cells.length bc, .slice bb h.trail.length bd] 38))
    have HXn3c4c5a6c7a8c9a10 := hid (blk_alloc HXn3c4c5a6c7a8c9.out (.cells #[.slice ba h.cells.length bc, .slice bb h.trail.length bd] 38))
    have HXn6c7a8c9a10 := hid (blk_alloc HXn6c7a8c9.out (.cells #[.slice ba h.cells.length bc, .slice bb h.trail.length bd] 38))
    have HXn8c9a10 := hid (blk_alloc HXn8c9.out (.cells #[.slice ba h.cells.length bc, .slice bb h.trail.length bd] 38))
    have HHa1c2a3c4c5a6c7a8c9a10 := hid (Hp.rep.keeps HHa1c2a3c4c5a6c7a8c9.out (Keeps.alloc _ _ (.cells #[.slice ba h.cells.length bc, .slice bb h.trail.length bd] 38)))
    have HRUa3c4c5a6c7a8c9a10 := hid (Hp.rep.keeps HRUa3c4c5a6c7a8c9.out (Keeps.alloc _ _ (.cells #[.slice ba h.cells.length bc, .slice bb h.trail.length bd] 38)))
    have HT1a6c7a8c9a10 := hid (Tm.rep_lasts.1 _ _ _ _ _ HT1a6c7a8c9.out (Keeps.alloc _ _ (.cells #[.slice ba h.cells.length bc, .slice bb h.trail.length bd] 38)))
    have HT2a8c9a10 := hid (Tm.rep_lasts.1 _ _ _ _ _ HT2a8c9.out (Keeps.alloc _ _ (.cells #[.slice ba h.cells.length bc, .slice bb h.trail.length bd] 38)))
    have HRBa10 := hid (Hp.rep.keeps HRB.out (Keeps.alloc _ _ (.cells #[.slice ba h.cells.length bc, .slice bb h.trail.length bd] 38)))
    have HXn10 := hid (blk_new w9 (.cells #[.slice ba h.cells.length bc, .slice bb h.trail.length bd] 38))
    have HBa10 := hid (HBc9.out.alloc HBc9.out.size (.cells #[.slice ba h.cells.length bc, .slice bb h.trail.length bd] 38))
    have hsz10 : w9.heap.size < (w9.alloc (.cells #[.slice ba h.cells.length bc, .slice bb h.trail.length bd] 38)).heap.size := by simp
    generalize w9.alloc (.cells #[.slice ba h.cells.length bc, .slice bb h.trail.length bd] 38) = w10 at HXn1c2a3c4c5a6c7a8c9a10 HXn3c4c5a6c7a8c9a10 HXn6c7a8c9a10 HXn8c9a10 HXn10 HHa1c2a3c4c5a6c7a8c9a10 HRUa3c4c5a6c7a8c9a10 HT1a6c7a8c9a10 HT2a8c9a10 HRBa10 HBa10 hsz10 ⊢
    obtain ⟨x0a, x0b, x0z⟩ := box2 HXn1c2a3c4c5a6c7a8c9a10.out
    have hz0 := blk_lt HXn1c2a3c4c5a6c7a8c9a10.out
    obtain ⟨x1a, x1b, x1z⟩ := box2 HXn3c4c5a6c7a8c9a10.out
    have hz1 := blk_lt HXn3c4c5a6c7a8c9a10.out
    obtain ⟨x2a, x2b, x2c, x2d, x2z⟩ := blk4 HXn6c7a8c9a10.out
    have hz2 := blk_lt HXn6c7a8c9a10.out
    obtain ⟨x3a, x3b, x3c, x3d, x3z⟩ := blk4 HXn8c9a10.out
    have hz3 := blk_lt HXn8c9a10.out
    obtain ⟨x4a, x4b, x4z⟩ := box2 HXn10.out
    have hz4 := blk_lt HXn10.out
    refine (same_keep_ok t t (fun _ => True) _ [_, _, _, _] [_, _, _, _] HT1a6c7a8c9a10.out HT2a8c9a10.out).mono ?_
    rintro e w11 ⟨v, rfl, hb11, b, rfl, ht⟩
    obtain rfl : b = true := ht.2 rfl
    clear ht
    clear x0a x0b x0z hz0 x1a x1b x1z hz1 x2a x2b x2c x2d x2z hz2 x3a x3b x3c x3d x3z hz3 x4a x4b x4z hz4
    have HXn1c2a3c4c5a6c7a8c9a10c11 := hid (blk_below HXn1c2a3c4c5a6c7a8c9a10.out hb11)
    have HXn3c4c5a6c7a8c9a10c11 := hid (blk_below HXn3c4c5a6c7a8c9a10.out hb11)
    have HXn6c7a8c9a10c11 := hid (blk_below HXn6c7a8c9a10.out hb11)
    have HXn8c9a10c11 := hid (blk_below HXn8c9a10.out hb11)
    have HXn10c11 := hid (blk_below HXn10.out hb11)
    have HHa1c2a3c4c5a6c7a8c9a10c11 := hid (Hp.rep.keeps HHa1c2a3c4c5a6c7a8c9a10.out (Keeps.of_below hb11))
    have HRUa3c4c5a6c7a8c9a10c11 := hid (Hp.rep.keeps HRUa3c4c5a6c7a8c9a10.out (Keeps.of_below hb11))
    have HT1a6c7a8c9a10c11 := hid (Tm.rep_lasts.1 _ _ _ _ _ HT1a6c7a8c9a10.out (Keeps.of_below hb11))
    have HT2a8c9a10c11 := hid (Tm.rep_lasts.1 _ _ _ _ _ HT2a8c9a10.out (Keeps.of_below hb11))
    have HRBa10c11 := hid (Hp.rep.keeps HRBa10.out (Keeps.of_below hb11))
    have HBc11 := hid (HBa10.out.trans (hb11.mono HBa10.out.size))
    have hzz11 := hb11.size
    clear hb11
    obtain ⟨x0a, x0b, x0z⟩ := box2 HXn1c2a3c4c5a6c7a8c9a10c11.out
    have hz0 := blk_lt HXn1c2a3c4c5a6c7a8c9a10c11.out
    obtain ⟨x1a, x1b, x1z⟩ := box2 HXn3c4c5a6c7a8c9a10c11.out
    have hz1 := blk_lt HXn3c4c5a6c7a8c9a10c11.out
    obtain ⟨x2a, x2b, x2c, x2d, x2z⟩ := blk4 HXn6c7a8c9a10c11.out
    have hz2 := blk_lt HXn6c7a8c9a10c11.out
    obtain ⟨x3a, x3b, x3c, x3d, x3z⟩ := blk4 HXn8c9a10c11.out
    have hz3 := blk_lt HXn8c9a10c11.out
    obtain ⟨x4a, x4b, x4z⟩ := box2 HXn10c11.out
    have hz4 := blk_lt HXn10c11.out
    go_wp2_with fail
    refine (sameHeapK_ok h h (fun _ => True) _ [_, _] [_, _] HRBa10c11.out HHa1c2a3c4c5a6c7a8c9a10c11.out).mono ?_
    rintro e w12 ⟨v, rfl, hb12, b, rfl, ht⟩
    obtain rfl : b = true := ht.2 rfl
    clear ht
    clear x0a x0b x0z hz0 x1a x1b x1z hz1 x2a x2b x2c x2d x2z hz2 x3a x3b x3c x3d x3z hz3 x4a x4b x4z hz4
    have HXn1c2a3c4c5a6c7a8c9a10c11c12 := hid (blk_below HXn1c2a3c4c5a6c7a8c9a10c11.out hb12)
    have HXn3c4c5a6c7a8c9a10c11c12 := hid (blk_below HXn3c4c5a6c7a8c9a10c11.out hb12)
    have HXn6c7a8c9a10c11c12 := hid (blk_below HXn6c7a8c9a10c11.out hb12)
    have HXn8c9a10c11c12 := hid (blk_below HXn8c9a10c11.out hb12)
    have HXn10c11c12 := hid (blk_below HXn10c11.out hb12)
    have HHa1c2a3c4c5a6c7a8c9a10c11c12 := hid (Hp.rep.keeps HHa1c2a3c4c5a6c7a8c9a10c11.out (Keeps.of_below hb12))
    have HRUa3c4c5a6c7a8c9a10c11c12 := hid (Hp.rep.keeps HRUa3c4c5a6c7a8c9a10c11.out (Keeps.of_below hb12))
    have HT1a6c7a8c9a10c11c12 := hid (Tm.rep_lasts.1 _ _ _ _ _ HT1a6c7a8c9a10c11.out (Keeps.of_below hb12))
    have HT2a8c9a10c11c12 := hid (Tm.rep_lasts.1 _ _ _ _ _ HT2a8c9a10c11.out (Keeps.of_below hb12))
    have HRBa10c11c12 := hid (Hp.rep.keeps HRBa10c11.out (Keeps.of_below hb12))
    have HBc12 := hid (HBc11.out.trans (hb12.mono HBc11.out.size))
    have hzz12 := hb12.size
    clear hb12
    obtain ⟨x0a, x0b, x0z⟩ := box2 HXn1c2a3c4c5a6c7a8c9a10c11c12.out
    have hz0 := blk_lt HXn1c2a3c4c5a6c7a8c9a10c11c12.out
    obtain ⟨x1a, x1b, x1z⟩ := box2 HXn3c4c5a6c7a8c9a10c11c12.out
    have hz1 := blk_lt HXn3c4c5a6c7a8c9a10c11c12.out
    obtain ⟨x2a, x2b, x2c, x2d, x2z⟩ := blk4 HXn6c7a8c9a10c11c12.out
    have hz2 := blk_lt HXn6c7a8c9a10c11c12.out
    obtain ⟨x3a, x3b, x3c, x3d, x3z⟩ := blk4 HXn8c9a10c11c12.out
    have hz3 := blk_lt HXn8c9a10c11c12.out
    obtain ⟨x4a, x4b, x4z⟩ := box2 HXn10c11c12.out
    have hz4 := blk_lt HXn10c11c12.out
    go_wp2_with fail
    refine (good_ok u (fun _ => True) _ [_, _] HRUa3c4c5a6c7a8c9a10c11c12.out).mono ?_
    rintro e w13 ⟨v, rfl, hb13, b, rfl, ht⟩
    obtain rfl : b = true := ht.2 HGU.out
    clear ht
    clear x0a x0b x0z hz0 x1a x1b x1z hz1 x2a x2b x2c x2d x2z hz2 x3a x3b x3c x3d x3z hz3 x4a x4b x4z hz4
    have HXn1c2a3c4c5a6c7a8c9a10c11c12c13 := hid (blk_below HXn1c2a3c4c5a6c7a8c9a10c11c12.out hb13)
    have HXn3c4c5a6c7a8c9a10c11c12c13 := hid (blk_below HXn3c4c5a6c7a8c9a10c11c12.out hb13)
    have HXn6c7a8c9a10c11c12c13 := hid (blk_below HXn6c7a8c9a10c11c12.out hb13)
    have HXn8c9a10c11c12c13 := hid (blk_below HXn8c9a10c11c12.out hb13)
    have HXn10c11c12c13 := hid (blk_below HXn10c11c12.out hb13)
    have HHa1c2a3c4c5a6c7a8c9a10c11c12c13 := hid (Hp.rep.keeps HHa1c2a3c4c5a6c7a8c9a10c11c12.out (Keeps.of_below hb13))
    have HRUa3c4c5a6c7a8c9a10c11c12c13 := hid (Hp.rep.keeps HRUa3c4c5a6c7a8c9a10c11c12.out (Keeps.of_below hb13))
    have HT1a6c7a8c9a10c11c12c13 := hid (Tm.rep_lasts.1 _ _ _ _ _ HT1a6c7a8c9a10c11c12.out (Keeps.of_below hb13))
    have HT2a8c9a10c11c12c13 := hid (Tm.rep_lasts.1 _ _ _ _ _ HT2a8c9a10c11c12.out (Keeps.of_below hb13))
    have HRBa10c11c12c13 := hid (Hp.rep.keeps HRBa10c11c12.out (Keeps.of_below hb13))
    have HBc13 := hid (HBc12.out.trans (hb13.mono HBc12.out.size))
    have hzz13 := hb13.size
    clear hb13
    obtain ⟨x0a, x0b, x0z⟩ := box2 HXn1c2a3c4c5a6c7a8c9a10c11c12c13.out
    have hz0 := blk_lt HXn1c2a3c4c5a6c7a8c9a10c11c12c13.out
    obtain ⟨x1a, x1b, x1z⟩ := box2 HXn3c4c5a6c7a8c9a10c11c12c13.out
    have hz1 := blk_lt HXn3c4c5a6c7a8c9a10c11c12c13.out
    obtain ⟨x2a, x2b, x2c, x2d, x2z⟩ := blk4 HXn6c7a8c9a10c11c12c13.out
    have hz2 := blk_lt HXn6c7a8c9a10c11c12c13.out
    obtain ⟨x3a, x3b, x3c, x3d, x3z⟩ := blk4 HXn8c9a10c11c12c13.out
    have hz3 := blk_lt HXn8c9a10c11c12c13.out
    obtain ⟨x4a, x4b, x4z⟩ := box2 HXn10c11c12c13.out
    have hz4 := blk_lt HXn10c11c12c13.out
    go_wp2_with fail
    go_ret
    exact ⟨_, rfl, HBc13.out, rfl⟩
end Go.Proofs.Ytlpmfkpefoegeaa
