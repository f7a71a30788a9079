/-
  The machine: back.
-/
import Derived.Test.YtlpmfkpefoegeabQMach7
import Derived.Test.YtlpmfkpefoegeabQBack
import Derived.Test.YtlpmfkpefoegeabPMBack
import Derived.StillTailTactics
namespace Go.Proofs.Ytlpmfkpefoegeab
set_option linter.unusedVariables false
set_option linter.unusedSimpArgs false
open Go.RowKit
def BkPre (P : List Cl) : List Cm → Mv → Prop
  | [], _ => True
  | c :: cs, m => c.goal < m.goals.length ∧ c.from_ ≤ P.length ∧ Hp.Good (cutF (undoF m.h c.trail).1 c.top).1 ∧ Inb (cutF (undoF m.h c.trail).1 c.top).1.cells (goalM m c.goal).at_ ∧ BkPre P cs { m with choices := cs, h := (cutF (undoF m.h c.trail).1 c.top).1 }
def resB : RM → Bool
  | .next => true
  | _ => false
def MBackPost (base : Nat) (P : List Cl) (q g : Nat) (pv : Value) (o : Mo) (r : RM × Mv) (w : World) (e : Ending) (w' : World) : Prop := e = .returned (.bool (resB r.1)) ∧ MaStep base P q g pv o r.2 w w'
def chLenW (g : Nat) (w : World) : Nat := match w.cell? ⟨g, 4, none⟩ with
  | some (.slice _ n _) => n
  | _ => 0
theorem chLenW_eq {g n c : Nat} {a : Option Addr} {w : World} (h : w.cell? ⟨g, 4, none⟩ = some (.slice a n c)) : chLenW g w = n := by unfold chLenW; rw [h]
section
variable {base : Nat} {P : List Cl} {q g : Nat} {pv hc ht : Value} {o : Mo} {m : Mv} {w : World}
set_option maxRecDepth 100000 in
set_option maxHeartbeats 8000000 in
theorem mback_ok (h : MvI base P q g pv hc ht o m w) (hP : GoodP P) (hpre : BkPre P m.choices m) (hfew : m.choices.length < 900) (hfit : m.goals.length ≤ 5900) (hout : m.out.length + 1 ≤ 20) :
    Calls Try.prog 67 #[.pointer (some ⟨g, 0, none⟩)] w (MBackPost base P q g pv o (backM P m.choices m) w) := by
  have HU := hid h
  have HP := hid hP
  have HPRE := hid hpre
  have HFEW := hid hfew
  have HFIT := hid hfit
  have HOUT := hid hout
  clear h hP hpre hfew hfit hout
  go_enter Try.func67, Try.ntmps67
  go_wp2_with fail
  go_loopw [3] (fun _ wr => ∃ (m1 : Mv) (o1 : Mo) (hc1 ht1 : Value), MvI base P q g pv hc1 ht1 o1 m1 wr ∧ Ch (MM g o) w wr ∧ MGrow w o o1 ∧ BkPre P m1.choices m1 ∧ m1.choices.length < 900 ∧ m1.goals.length ≤ 5900 ∧ m1.out.length + 1 ≤ 20 ∧ backM P m.choices m = backM P m1.choices m1) (fun _ wr => chLenW g wr)
  case atStart => exact ⟨m, o, hc, ht, HU.out, Ch.refl _ _, MGrow.refl _ _, HPRE.out, HFEW.out, HFIT.out, HOUT.out, rfl⟩
  case round =>
    obtain ⟨m1, o1, hc1, ht1, hmv, hch, hgr, hpre, hfew, hfit, hout, hbk⟩ := hrel
    have HV := hid hmv
    have HCH := hid hch
    have HGR := hid hgr
    have HPR := hid hpre
    have HFW := hid hfew
    have HFT := hid hfit
    have HOT := hid hout
    have HBK := hid hbk
    obtain ⟨gv1, cv1, ov1⟩ := o1
    obtain ⟨pa, pc, ga, gc, ca, cc, oa, oc, ha, hac, hb, hbc, rfl, rfl, rfl, rfl, rfl, rfl, p1, p2, g1, g2, c1, c2, -⟩ := hmv.vals
    obtain ⟨hl1, hl2⟩ := hmv.lt
    obtain ⟨b0, b1, b2, b3, b4, b5, b6, b7, b8, b9, bf⟩ := box10 hmv.box
    simp only at b3 b4 b9
    have hz := hch.size
    unfold maxLen at c2
    clear hmv hch hgr hpre hfew hfit hout hbk
    obtain ⟨h1, gs1, chs, nw1, qr1, fl1, ou1⟩ := m1
    simp only at b1 b2 b3 b4 b5 b7 b8 b9 c1
    cases chs with
    | nil =>
      have hres := hid (show backM P m.choices m = (.off, (⟨h1, gs1, [], nw1, qr1, fl1, ou1⟩ : Mv).put 2) by rw [HBK.out]; rfl)
      rw [List.length_nil] at b4
      have HEN := hid (mend_ok 2 (by unfold I64; omega) HV.out HOT.out)
      go_wp2_with fail
      refine (HEN.out).mono ?_
      rintro e W9 ⟨rfl, hst⟩
      have HST := hid (MaStep.trans HCH.out HGR.out hst)
      clear hst HEN
      go_wp2_with fail
      go_ret
      rw [hres.out]
      exact ⟨rfl, HST.out⟩
    | cons c cs =>
      have hOM := HV.out.chc
      simp only [List.reverse_cons] at hOM
      have hOM' : OwnM wr base (cs.reverse ++ [c]) (.slice ca (cs.reverse ++ [c]).length cc) := by simpa using hOM
      obtain ⟨cb, rfl, hobc, hcbl, hcbb, -, d0, d1, d2, d3, cok⟩ := OwnM.cells hOM' (i := cs.length) (by simp)
      have hge : (cs.reverse ++ [c])[cs.length]'(by simp) = c := by simp
      replace d0 : wr.cell? ⟨cb, cs.length * 4, none⟩ = some (.int .i64 (c.goal : Int)) := by rw [← hge]; exact d0
      replace d1 : wr.cell? ⟨cb, cs.length * 4 + 1, none⟩ = some (.int .i64 (c.from_ : Int)) := by rw [← hge]; exact d1
      replace d2 : wr.cell? ⟨cb, cs.length * 4 + 2, none⟩ = some (.int .i64 (c.top : Int)) := by rw [← hge]; exact d2
      replace d3 : wr.cell? ⟨cb, cs.length * 4 + 3, none⟩ = some (.int .i64 (c.trail : Int)) := by rw [← hge]; exact d3
      replace cok : cmOk c := by rw [← hge]; exact cok
      have HCK := hid cok
      rw [List.length_cons] at b4 c1
      have HM0 := hid b4
      have hcs0 : (0 : Int) ≤ (cs.length : Int) := Int.natCast_nonneg _
      have HA0 := hid (fun (W : World) (hbw : Below wr.heap.size wr W) => (show W.cell? ⟨g, 4, none⟩ = some (.slice (some ⟨cb, 0, none⟩) (cs.length + 1) cc) ∧ W.cell? ⟨cb, cs.length * 4, none⟩ = some (.int .i64 (c.goal : Int)) ∧ W.cell? ⟨cb, cs.length * 4 + 1, none⟩ = some (.int .i64 (c.from_ : Int)) ∧ W.cell? ⟨cb, cs.length * 4 + 2, none⟩ = some (.int .i64 (c.top : Int)) ∧ W.cell? ⟨cb, cs.length * 4 + 3, none⟩ = some (.int .i64 (c.trail : Int)) ∧ cb < W.heap.size from by
        exact ⟨bc hbw b4, bc hbw d0, bc hbw d1, bc hbw d2, bc hbw d3, by have := hbw.size; omega⟩))
      have hcs2 : (cs.length : Int) < (cs.length : Int) + 1 := by omega
      have hcs1 : (cs.length : Int) ≤ 900 := by have := HFW.out; simp only [List.length_cons] at this; omega
      have hwr : IntKind.i64.wrap (cs.length : Int) = (cs.length : Int) := IntWalk.i64_in _ (by omega)
      have HWR := hid hwr
      clear hOM hOM' hge cok d0 d1 d2 d3
      go_wp2_with fail
      clear b0 b1 b2 b3 b4 b5 b6 b7 b8 b9 bf
      refine wp_region_front 13 (Inv := fun w' => Below wr.heap.size wr w') (Po := posts [IsV (.pointer (some ⟨g, 0, none⟩)), IsV (.pointer (some ⟨g, 0, none⟩)), IsV (.pointer (some ⟨g, 4, none⟩)), IsV (.slice (some ⟨cb, 0, none⟩) (cs.length + 1) cc), IsV (.pointer (some ⟨g, 0, none⟩)), IsV (.pointer (some ⟨g, 0, none⟩)), IsV (.pointer (some ⟨g, 4, none⟩)), IsV (.slice (some ⟨cb, 0, none⟩) (cs.length + 1) cc), IsV (.int .i64 ((cs.length + 1 : Nat) : Int)), IsV (.int .i64 (cs.length : Int)), IsV (.pointer (some ⟨cb, cs.length * 4, none⟩)), IsV (.agg #[.int .i64 (c.goal : Int), .int .i64 (c.from_ : Int), .int .i64 (c.top : Int), .int .i64 (c.trail : Int)]), IsBox wr.heap.size 133 #[.int .i64 0, .int .i64 0, .int .i64 0, .int .i64 0]]) (Rl := fun w w' => Below w.heap.size w w') (by kernel_rfl) (by kernel_rfl) (by kernel_rfl) (by kernel_rfl) ((Below.refl _ _).drew) ?_ ?_ ?_ ?_
      · refine posts_stay fun R hR => ?_
        simp only [List.mem_cons, List.not_mem_nil, or_false] at hR
        rcases hR with rfl | rfl | rfl | rfl | rfl | rfl | rfl | rfl | rfl | rfl | rfl | rfl | rfl <;> first | exact stays_V _ | exact stays_any | exact stays_B _ | exact stays_Tm _ | exact stays_Tms _ | exact stays_Cs _ | exact stays_Ns _ | exact stays_Bs _ | exact stays_Hp _ | exact stays_OC _ _ | exact stays_ON _ _ | exact stays_Box _ _ _
      · exact fun w1 w2 h h' => h.trans (h'.mono h.size)
      · intro i o ho f ac ww hinv hpo hdst hold
        match i, ho with
          | 0, ho =>
            obtain rfl : _ = o := Option.some.inj ho
            have t0 := hold 0 (by kernel_rfl)
            refine Or.inl ⟨want0 rfl, ?_⟩
            clear hdst hpo hold ho
            clear hinv
            unfold Ans
            go_simp
            exact ⟨rfl, Below.refl _ _⟩
          | 1, ho =>
            obtain rfl : _ = o := Option.some.inj ho
            have t12 : ac.tmps[12]? = some (f 0) := hdst 0 12 (by kernel_rfl) (by kernel_rfl)
            have p0 : (IsV (.pointer (some ⟨g, 0, none⟩))) (f 0) ww := hpo 0 (by kernel_rfl)
            refine Or.inl ⟨want0 rfl, ?_⟩
            clear hdst hpo hold ho
            rw [show f 0 = _ from p0] at t12
            clear hinv
            unfold Ans
            go_simp
            exact ⟨rfl, Below.refl _ _⟩
          | 2, ho =>
            obtain rfl : _ = o := Option.some.inj ho
            have t13 : ac.tmps[13]? = some (f 1) := hdst 1 13 (by kernel_rfl) (by kernel_rfl)
            have p1 : (IsV (.pointer (some ⟨g, 0, none⟩))) (f 1) ww := hpo 1 (by kernel_rfl)
            refine Or.inl ⟨want0 rfl, ?_⟩
            clear hdst hpo hold ho
            rw [show f 1 = _ from p1] at t13
            clear hinv
            unfold Ans
            go_simp
            exact ⟨rfl, Below.refl _ _⟩
          | 3, ho =>
            obtain rfl : _ = o := Option.some.inj ho
            have t14 : ac.tmps[14]? = some (f 2) := hdst 2 14 (by kernel_rfl) (by kernel_rfl)
            have p2 : (IsV (.pointer (some ⟨g, 4, none⟩))) (f 2) ww := hpo 2 (by kernel_rfl)
            refine Or.inl ⟨want0 rfl, ?_⟩
            clear hdst hpo hold ho
            rw [show f 2 = _ from p2] at t14
            obtain ⟨b4, d0, d1, d2, d3, hcbl⟩ := HA0.out ww hinv
            unfold Ans
            go_simp
            exact ⟨rfl, Below.refl _ _⟩
          | 4, ho =>
            obtain rfl : _ = o := Option.some.inj ho
            have t0 := hold 0 (by kernel_rfl)
            refine Or.inl ⟨want0 rfl, ?_⟩
            clear hdst hpo hold ho
            clear hinv
            unfold Ans
            go_simp
            exact ⟨rfl, Below.refl _ _⟩
          | 5, ho =>
            obtain rfl : _ = o := Option.some.inj ho
            have t16 : ac.tmps[16]? = some (f 4) := hdst 4 16 (by kernel_rfl) (by kernel_rfl)
            have p4 : (IsV (.pointer (some ⟨g, 0, none⟩))) (f 4) ww := hpo 4 (by kernel_rfl)
            refine Or.inl ⟨want0 rfl, ?_⟩
            clear hdst hpo hold ho
            rw [show f 4 = _ from p4] at t16
            clear hinv
            unfold Ans
            go_simp
            exact ⟨rfl, Below.refl _ _⟩
          | 6, ho =>
            obtain rfl : _ = o := Option.some.inj ho
            have t17 : ac.tmps[17]? = some (f 5) := hdst 5 17 (by kernel_rfl) (by kernel_rfl)
            have p5 : (IsV (.pointer (some ⟨g, 0, none⟩))) (f 5) ww := hpo 5 (by kernel_rfl)
            refine Or.inl ⟨want0 rfl, ?_⟩
            clear hdst hpo hold ho
            rw [show f 5 = _ from p5] at t17
            clear hinv
            unfold Ans
            go_simp
            exact ⟨rfl, Below.refl _ _⟩
          | 7, ho =>
            obtain rfl : _ = o := Option.some.inj ho
            have t18 : ac.tmps[18]? = some (f 6) := hdst 6 18 (by kernel_rfl) (by kernel_rfl)
            have p6 : (IsV (.pointer (some ⟨g, 4, none⟩))) (f 6) ww := hpo 6 (by kernel_rfl)
            refine Or.inl ⟨want0 rfl, ?_⟩
            clear hdst hpo hold ho
            rw [show f 6 = _ from p6] at t18
            obtain ⟨b4, d0, d1, d2, d3, hcbl⟩ := HA0.out ww hinv
            unfold Ans
            go_simp
            exact ⟨rfl, Below.refl _ _⟩
          | 8, ho =>
            obtain rfl : _ = o := Option.some.inj ho
            have t19 : ac.tmps[19]? = some (f 7) := hdst 7 19 (by kernel_rfl) (by kernel_rfl)
            have p7 : (IsV (.slice (some ⟨cb, 0, none⟩) (cs.length + 1) cc)) (f 7) ww := hpo 7 (by kernel_rfl)
            refine Or.inl ⟨want0 rfl, ?_⟩
            clear hdst hpo hold ho
            rw [show f 7 = _ from p7] at t19
            clear hinv
            unfold Ans
            go_simp
            exact ⟨rfl, Below.refl _ _⟩
          | 9, ho =>
            obtain rfl : _ = o := Option.some.inj ho
            have t20 : ac.tmps[20]? = some (f 8) := hdst 8 20 (by kernel_rfl) (by kernel_rfl)
            have p8 : (IsV (.int .i64 ((cs.length + 1 : Nat) : Int))) (f 8) ww := hpo 8 (by kernel_rfl)
            refine Or.inl ⟨want0 rfl, ?_⟩
            clear hdst hpo hold ho
            rw [show f 8 = _ from p8] at t20
            clear hinv
            unfold Ans
            go_simp
            exact ⟨rfl, Below.refl _ _⟩
          | 10, ho =>
            obtain rfl : _ = o := Option.some.inj ho
            have t15 : ac.tmps[15]? = some (f 3) := hdst 3 15 (by kernel_rfl) (by kernel_rfl)
            have p3 : (IsV (.slice (some ⟨cb, 0, none⟩) (cs.length + 1) cc)) (f 3) ww := hpo 3 (by kernel_rfl)
            have t21 : ac.tmps[21]? = some (f 9) := hdst 9 21 (by kernel_rfl) (by kernel_rfl)
            have p9 : (IsV (.int .i64 (cs.length : Int))) (f 9) ww := hpo 9 (by kernel_rfl)
            refine Or.inl ⟨want0 rfl, ?_⟩
            clear hdst hpo hold ho
            rw [show f 3 = _ from p3] at t15
            rw [show f 9 = _ from p9] at t21
            clear hinv
            unfold Ans
            go_simp
            exact ⟨rfl, Below.refl _ _⟩
          | 11, ho =>
            obtain rfl : _ = o := Option.some.inj ho
            have t22 : ac.tmps[22]? = some (f 10) := hdst 10 22 (by kernel_rfl) (by kernel_rfl)
            have p10 : (IsV (.pointer (some ⟨cb, cs.length * 4, none⟩))) (f 10) ww := hpo 10 (by kernel_rfl)
            refine Or.inl ⟨want0 rfl, ?_⟩
            clear hdst hpo hold ho
            rw [show f 10 = _ from p10] at t22
            obtain ⟨b4, d0, d1, d2, d3, hcbl⟩ := HA0.out ww hinv
            unfold Ans
            go_simp
            exact ⟨rfl, Below.refl _ _⟩
          | 12, ho =>
            obtain rfl : _ = o := Option.some.inj ho
            refine Or.inl ⟨want0 rfl, ?_⟩
            clear hdst hpo hold ho
            unfold Ans
            go_simp
            exact ⟨⟨_, rfl, hinv.size, blk_new _ _⟩, (Below.refl _ _).alloc (Nat.le_refl _) _⟩
          | i + 13, ho => simp at ho
      · intro f ww hinv hpo
        have p11 : (IsV (.agg #[.int .i64 (c.goal : Int), .int .i64 (c.from_ : Int), .int .i64 (c.top : Int), .int .i64 (c.trail : Int)])) (f 11) ww := hpo 11 (by decide)
        have p12 : (IsBox wr.heap.size 133 #[.int .i64 0, .int .i64 0, .int .i64 0, .int .i64 0]) (f 12) ww := hpo 12 (by decide)
        obtain ⟨xb, e12, hxb, hxx⟩ := p12
        simp only [fillT, List.take_succ_cons, List.take_zero, List.setIfInBounds_toArray, List.set_cons_succ, List.set_cons_zero]
        rw [show f 11 = _ from p11, e12]
        have HBW := hid hinv
        have HXX := hid hxx
        have hxl := blk_lt hxx
        obtain ⟨y0, y1, y2, y3, yf⟩ := blk4 hxx
        clear hinv hpo p11 e12 hxx HA0 hwr
        refine wpAny_only (i := 13) (by kernel_rfl) (wpOp_run rfl (by rfl) ?_)
        go_simp
        refine wpAny_all (by kernel_rfl) ?_ _
        obtain ⟨W2, hW2⟩ : ∃ W2, W2 = (((ww.setCell ⟨xb, 0, none⟩ (.int .i64 (c.goal : Int))).setCell ⟨xb, 1, none⟩ (.int .i64 (c.from_ : Int))).setCell ⟨xb, 2, none⟩ (.int .i64 (c.top : Int))).setCell ⟨xb, 3, none⟩ (.int .i64 (c.trail : Int)) := ⟨_, rfl⟩
        have HB2 := hid (show Below wr.heap.size wr W2 by rw [hW2]; exact (((HBW.out.setCell hxb _).setCell hxb _).setCell hxb _).setCell hxb _)
        have HX2 := hid (show W2.heap[xb]? = some (.cells #[.int .i64 (c.goal : Int), .int .i64 (c.from_ : Int), .int .i64 (c.top : Int), .int .i64 (c.trail : Int)] 133 (0, 0)) by rw [hW2]; exact (blk_set (blk_set (blk_set (blk_set HXX.out 0 _) 1 _) 2 _) 3 _).trans rfl)
        rw [← hW2]
        clear hW2 y0 y1 y2 y3 yf HXX HBW
        have HV2 := hid (HV.out.below HB2.out)
        have hz2 := HB2.out.size
        obtain ⟨b0, b1, b2, b3, b4, b5, b6, b7, b8, b9, bf⟩ := box10 HV2.out.box
        simp only at b3 b4 b9
        rw [List.length_cons] at b4
        have hgl2 : g < W2.heap.size := by omega
        have hccs : cs.length ≤ cc := by omega
        have hwr := HWR.out
        go_wp2_with fail
        go_still_tail 14, (by kernel_rfl)
        clear hwr
        change wpList _ _ _ _ _ W2.drew
        have HVd := hid (HV2.out.below ((Below.refl _ _).drew))
        have HXd := hid (show W2.drew.heap[xb]? = _ from HX2.out)
        have hgld : g < W2.drew.heap.size := hgl2
        have hzd : wr.heap.size ≤ W2.drew.heap.size := hz2
        have HBd := hid (HB2.out.drew)
        generalize W2.drew = Wd at *
        clear b0 b1 b2 b3 b4 b5 b6 b7 b8 b9 bf
        obtain ⟨b0, b1, b2, b3, b4, b5, b6, b7, b8, b9, bf⟩ := box10 HVd.out.box
        simp only at b3 b4 b9
        rw [List.length_cons] at b4
        go_wp2_with fail
        -- the choice is gone
        have hcut := HVd.out.cutC (k := cs.length) (by simp) (cc := cc) (ca := some ⟨cb, 0, none⟩) rfl
        have hdr : (⟨h1, gs1, (c :: cs).drop ((c :: cs).length - cs.length), nw1, qr1, fl1, ou1⟩ : Mv) = ⟨h1, gs1, cs, nw1, qr1, fl1, ou1⟩ := by
          rw [show (c :: cs).length - cs.length = 1 by simp]; rfl
        have HCUT := hid (show MaStep base P q g (.slice pa P.length pc) ⟨.slice ga gs1.length gc, .slice (some ⟨cb, 0, none⟩) (c :: cs).length cc, .slice oa ou1.length oc⟩ ⟨h1, gs1, cs, nw1, qr1, fl1, ou1⟩ Wd (Wd.setCell ⟨g, 4, none⟩ (.slice (some ⟨cb, 0, none⟩) cs.length cc)) from hdr ▸ hcut)
        have HX4 := hid (show (Wd.setCell ⟨g, 4, none⟩ (.slice (some ⟨cb, 0, none⟩) cs.length cc)).heap[xb]? = _ from (Below.heap_setCell _ _ _ _ (by show xb ≠ g; omega)).trans HXd.out)
        clear hcut hdr b0 b1 b2 b3 b4 b5 b6 b7 b8 b9 bf
        have hxb0 := blk_lt HXd.out
        generalize Wd.setCell ⟨g, 4, none⟩ (.slice (some ⟨cb, 0, none⟩) cs.length cc) = W4 at *
        obtain ⟨hc4, ht4, o4, hmv4, hch4, hgr4⟩ := HCUT.out
        have HV4 := hid hmv4
        have HCH4 := hid (HCH.out.trans ((Ch.of_below HBd.out).trans hch4 (fun b h => .inl h)) HGR.out.up)
        have HGR4 := hid (HGR.out.trans ((MGrow.refl wr _).trans hgr4 HBd.out.size) hz)
        have hz4 : w.heap.size ≤ W4.heap.size := HCH4.out.size
        have hzr4 : wr.heap.size ≤ W4.heap.size := Nat.le_trans hzd hch4.size
        have HNX4 := hid (show ¬ MM g o4 xb from fun hm => by
          rcases hgr4.up xb hm with e | e
          · have := (HV.out.mm_lt xb e).2; omega
          · omega)
        obtain ⟨-, -, -, -, -, -, -, -, ha4, hac4, hb4, hbc4, -, -, -, -, rfl, rfl, -⟩ := hmv4.vals
        obtain ⟨b0, b1, b2, b3, b4, b5, b6, b7, b8, b9, bf⟩ := box10 hmv4.box
        obtain ⟨y0, y1, y2, y3, yf⟩ := blk4 HX4.out
        simp only at b1 b2
        have hgl4 : g < W4.heap.size := hmv4.lt.1
        have hxl4 := blk_lt HX4.out
        clear hmv4 hch4 hgr4 HCUT
        have HUN := hid (fun (W : World) (hbw : Below W4.heap.size W4 W) => undo_ok h1 (c.trail : Int) (by have := HCK.out.2.2.2; unfold I64; omega) (MA g o4) W _ (HV4.out.below hbw).heap)
        go_wp2_with fail
        have HF : ∀ {k : Nat}, ((k = 4 → W4.drew.cell? ⟨g, 1, none⟩ = some (.slice ha4 h1.cells.length hac4) ∧ W4.drew.cell? ⟨g, 2, none⟩ = some (.slice hb4 h1.trail.length hbc4)) ∧ (k = 6 → W4.drew.cell? ⟨xb, 3, none⟩ = some (.int .i64 (c.trail : Int)))) := fun {k} => ⟨fun _ => ⟨b1, b2⟩, fun _ => y3⟩
        refine wp_region_F (F := fun k w' => (k = 4 → w'.cell? ⟨g, 1, none⟩ = some (.slice ha4 h1.cells.length hac4) ∧ w'.cell? ⟨g, 2, none⟩ = some (.slice hb4 h1.trail.length hbc4)) ∧ (k = 6 → w'.cell? ⟨xb, 3, none⟩ = some (.int .i64 (c.trail : Int)))) (by kernel_rfl) ?_
        refine wpTk (i := 0) (v := ?_) rfl (Or.inl ⟨by rfl, ?_⟩) HF ?_
        rotate_left
        · (intro w' hw; clear hw; go_simp <;> with_reducible rfl)
        try simp only [Act.put, List.setIfInBounds_toArray, List.set_cons_zero, List.set_cons_succ]
        refine wpTk (i := 1) (v := ?_) rfl (Or.inl ⟨by rfl, ?_⟩) HF ?_
        rotate_left
        · (intro w' hw; clear hw; go_simp <;> with_reducible rfl)
        try simp only [Act.put, List.setIfInBounds_toArray, List.set_cons_zero, List.set_cons_succ]
        refine wpTk (i := 2) (v := ?_) rfl (Or.inl ⟨by rfl, ?_⟩) HF ?_
        rotate_left
        · (intro w' hw; clear hw; go_simp <;> with_reducible rfl)
        try simp only [Act.put, List.setIfInBounds_toArray, List.set_cons_zero, List.set_cons_succ]
        refine wpTk (i := 3) (v := ?_) rfl (Or.inl ⟨by rfl, ?_⟩) HF ?_
        rotate_left
        · (intro w' hw; clear hw; go_simp <;> with_reducible rfl)
        try simp only [Act.put, List.setIfInBounds_toArray, List.set_cons_zero, List.set_cons_succ]
        refine wpTk (i := 4) (v := .agg #[.slice ha4 h1.cells.length hac4, .slice hb4 h1.trail.length hbc4]) rfl (Or.inl ⟨by rfl, ?_⟩) HF ?_
        · (intro w' hw; obtain ⟨f1, f2⟩ := hw.1 rfl; clear hw; go_simp)
        try simp only [Act.put, List.setIfInBounds_toArray, List.set_cons_zero, List.set_cons_succ]
        refine wpTk (i := 5) (v := ?_) rfl (Or.inl ⟨by rfl, ?_⟩) HF ?_
        rotate_left
        · (intro w' hw; clear hw; go_simp <;> with_reducible rfl)
        try simp only [Act.put, List.setIfInBounds_toArray, List.set_cons_zero, List.set_cons_succ]
        refine wpTk (i := 6) (v := ?_) rfl (Or.inl ⟨by rfl, ?_⟩) HF ?_
        rotate_left
        · (intro w' hw; have f3 := hw.2 rfl; clear hw; go_simp <;> with_reducible rfl)
        try simp only [Act.put, List.setIfInBounds_toArray, List.set_cons_zero, List.set_cons_succ]
        clear HF
        refine wpAnyF_one (i := 7) (by kernel_rfl) (wpOp_run rfl (by rfl) ?_)
        go_simp
        refine (HUN.out W4.drew (Below.refl _ _).drew).mono ?_
        rintro e w5 ⟨v5, rfl, hb5, us5, rfl, hr5⟩
        refine ⟨fun k _ hF => ⟨fun e => ⟨bc hb5 (hF.1 e).1, bc hb5 (hF.1 e).2⟩, fun e => bc hb5 (hF.2 e)⟩, ?_⟩
        have HBk := hid (show Below W4.heap.size W4 w5 from ((Below.refl _ _).drew).trans hb5)
        have HVk := hid (HV4.out.below HBk.out)
        have HRk := hid ((HV4.out.below (Below.refl _ _).drew).new hr5)
        have HXk := hid (blk_below HX4.out HBk.out)
        obtain ⟨xa5, xac5, xb5, xbc5, rfl, -⟩ := Hp.rep2 hr5
        have HF : ∀ {k : Nat}, ((k = 4 → w5.cell? ⟨g, 1, none⟩ = some (.slice ha4 h1.cells.length hac4) ∧ w5.cell? ⟨g, 2, none⟩ = some (.slice hb4 h1.trail.length hbc4)) ∧ (k = 6 → w5.cell? ⟨xb, 3, none⟩ = some (.int .i64 (c.trail : Int)))) := fun {k} => ⟨fun _ => ⟨bc HBk.out b1, bc HBk.out b2⟩, fun _ => bc HBk.out y3⟩
        clear hb5 hr5 HUN
        try simp only [Act.put, List.setIfInBounds_toArray, List.set_cons_zero, List.set_cons_succ]
        refine wpTk (i := 8) (v := ?_) rfl (Or.inl ⟨by rfl, ?_⟩) HF ?_
        rotate_left
        · (intro w' hw; clear hw; go_simp <;> with_reducible rfl)
        try simp only [Act.put, List.setIfInBounds_toArray, List.set_cons_zero, List.set_cons_succ]
        refine wpTk (i := 10) (v := ?_) rfl (Or.inl ⟨by rfl, ?_⟩) HF ?_
        rotate_left
        · (intro w' hw; clear hw; go_simp <;> with_reducible rfl)
        try simp only [Act.put, List.setIfInBounds_toArray, List.set_cons_zero, List.set_cons_succ]
        refine wpTk (i := 9) (v := ?_) rfl (Or.inl ⟨by rfl, ?_⟩) HF ?_
        rotate_left
        · (intro w' hw; clear hw; go_simp <;> with_reducible rfl)
        try simp only [Act.put, List.setIfInBounds_toArray, List.set_cons_zero, List.set_cons_succ]
        refine wpTk (i := 11) (v := ?_) rfl (Or.inl ⟨by rfl, ?_⟩) HF ?_
        rotate_left
        · (intro w' hw; clear hw; go_simp <;> with_reducible rfl)
        try simp only [Act.put, List.setIfInBounds_toArray, List.set_cons_zero, List.set_cons_succ]
        refine wpTk (i := 12) (v := ?_) rfl (Or.inl ⟨by rfl, ?_⟩) HF ?_
        rotate_left
        · (intro w' hw; clear hw; go_simp <;> with_reducible rfl)
        try simp only [Act.put, List.setIfInBounds_toArray, List.set_cons_zero, List.set_cons_succ]
        clear HF b0 b1 b2 b3 b4 b5 b6 b7 b8 b9 bf y0 y1 y2 y3 yf
        obtain ⟨b0, b1, b2, b3, b4, b5, b6, b7, b8, b9, bf⟩ := box10 HVk.out.box
        have hgk := HVk.out.lt.1
        have hcs := cell_set
        refine wpAnyF_one (i := 13) (by kernel_rfl) (wpOp_run rfl (by rfl) ?_)
        go_simp
        refine ⟨fun k hk hF => ⟨fun e => by subst e; exact absurd (hk.symm.trans (by kernel_rfl) : false = true) Bool.false_ne_true, fun e => by subst e; exact absurd (hk.symm.trans (by kernel_rfl) : false = true) Bool.false_ne_true⟩, wpAnyF_done (by kernel_rfl) ?_ _⟩
        have HSH := hid (HVk.out.setH HRk.out)
        have HXS := hid (show ((w5.setCell ⟨g, 1, none⟩ (.slice xa5 (undoF h1 (c.trail : Int)).1.cells.length xac5)).setCell ⟨g, 2, none⟩ (.slice xb5 (undoF h1 (c.trail : Int)).1.trail.length xbc5)).heap[xb]? = _ from (Below.heap_setCell _ _ _ _ (by show xb ≠ g; omega)).trans ((Below.heap_setCell _ _ _ _ (by show xb ≠ g; omega)).trans HXk.out))
        obtain ⟨h5, hh5⟩ : ∃ h5, h5 = (undoF h1 (c.trail : Int)).1 := ⟨_, rfl⟩
        have HH5 := hid hh5
        rw [← hh5] at HSH HXS
        simp only [← hh5]
        generalize (w5.setCell ⟨g, 1, none⟩ (.slice xa5 h5.cells.length xac5)).setCell ⟨g, 2, none⟩ (.slice xb5 h5.trail.length xbc5) = W5 at *
        obtain ⟨hc5, ht5, o5, hmv5, hch5, hgr5⟩ := HSH.out
        have HV5 := hid hmv5
        have HX5 := hid HXS.out
        have HCH5 := hid (HCH4.out.trans ((Ch.of_below HBk.out).trans hch5 (fun b h => .inl h)) HGR4.out.up)
        have HGR5 := hid (HGR4.out.trans ((MGrow.refl W4 _).trans hgr5 HBk.out.size) hz4)
        have hz5 : w.heap.size ≤ W5.heap.size := HCH5.out.size
        have hzr5 : wr.heap.size ≤ W5.heap.size := Nat.le_trans hzr4 (Nat.le_trans HBk.out.size hch5.size)
        obtain ⟨-, -, -, -, -, -, -, -, ha5, hac5, hb5, hbc5, -, -, -, -, rfl, rfl, -⟩ := hmv5.vals
        clear hh5 b0 b1 b2 b3 b4 b5 b6 b7 b8 b9 bf hcs
        obtain ⟨b0, b1, b2, b3, b4, b5, b6, b7, b8, b9, bf⟩ := box10 hmv5.box
        obtain ⟨y0, y1, y2, y3, yf⟩ := blk4 HX5.out
        simp only at b1 b2
        have hgl5 : g < W5.heap.size := hmv5.lt.1
        have hxl5 := blk_lt HX5.out
        clear hmv5 hch5 hgr5 HSH HXS HBk HVk HRk HXk hgk
        have HUN := hid (fun (W : World) (hbw : Below W5.heap.size W5 W) => cut_ok h5 (c.top : Int) (by have := HCK.out.2.2.1; unfold I64; omega) (MA g o5) W _ (HV5.out.below hbw).heap)
        go_wp2_with fail
        have HF : ∀ {k : Nat}, ((k = 4 → W5.drew.cell? ⟨g, 1, none⟩ = some (.slice ha5 h5.cells.length hac5) ∧ W5.drew.cell? ⟨g, 2, none⟩ = some (.slice hb5 h5.trail.length hbc5)) ∧ (k = 6 → W5.drew.cell? ⟨xb, 2, none⟩ = some (.int .i64 (c.top : Int)))) := fun {k} => ⟨fun _ => ⟨b1, b2⟩, fun _ => y2⟩
        refine wp_region_F (F := fun k w' => (k = 4 → w'.cell? ⟨g, 1, none⟩ = some (.slice ha5 h5.cells.length hac5) ∧ w'.cell? ⟨g, 2, none⟩ = some (.slice hb5 h5.trail.length hbc5)) ∧ (k = 6 → w'.cell? ⟨xb, 2, none⟩ = some (.int .i64 (c.top : Int)))) (by kernel_rfl) ?_
        refine wpTk (i := 0) (v := ?_) rfl (Or.inl ⟨by rfl, ?_⟩) HF ?_
        rotate_left
        · (intro w' hw; clear hw; go_simp <;> with_reducible rfl)
        try simp only [Act.put, List.setIfInBounds_toArray, List.set_cons_zero, List.set_cons_succ]
        refine wpTk (i := 1) (v := ?_) rfl (Or.inl ⟨by rfl, ?_⟩) HF ?_
        rotate_left
        · (intro w' hw; clear hw; go_simp <;> with_reducible rfl)
        try simp only [Act.put, List.setIfInBounds_toArray, List.set_cons_zero, List.set_cons_succ]
        refine wpTk (i := 2) (v := ?_) rfl (Or.inl ⟨by rfl, ?_⟩) HF ?_
        rotate_left
        · (intro w' hw; clear hw; go_simp <;> with_reducible rfl)
        try simp only [Act.put, List.setIfInBounds_toArray, List.set_cons_zero, List.set_cons_succ]
        refine wpTk (i := 3) (v := ?_) rfl (Or.inl ⟨by rfl, ?_⟩) HF ?_
        rotate_left
        · (intro w' hw; clear hw; go_simp <;> with_reducible rfl)
        try simp only [Act.put, List.setIfInBounds_toArray, List.set_cons_zero, List.set_cons_succ]
        refine wpTk (i := 4) (v := .agg #[.slice ha5 h5.cells.length hac5, .slice hb5 h5.trail.length hbc5]) rfl (Or.inl ⟨by rfl, ?_⟩) HF ?_
        · (intro w' hw; obtain ⟨f1, f2⟩ := hw.1 rfl; clear hw; go_simp)
        try simp only [Act.put, List.setIfInBounds_toArray, List.set_cons_zero, List.set_cons_succ]
        refine wpTk (i := 5) (v := ?_) rfl (Or.inl ⟨by rfl, ?_⟩) HF ?_
        rotate_left
        · (intro w' hw; clear hw; go_simp <;> with_reducible rfl)
        try simp only [Act.put, List.setIfInBounds_toArray, List.set_cons_zero, List.set_cons_succ]
        refine wpTk (i := 6) (v := ?_) rfl (Or.inl ⟨by rfl, ?_⟩) HF ?_
        rotate_left
        · (intro w' hw; have f3 := hw.2 rfl; clear hw; go_simp <;> with_reducible rfl)
        try simp only [Act.put, List.setIfInBounds_toArray, List.set_cons_zero, List.set_cons_succ]
        clear HF
        refine wpAnyF_one (i := 7) (by kernel_rfl) (wpOp_run rfl (by rfl) ?_)
        go_simp
        refine (HUN.out W5.drew (Below.refl _ _).drew).mono ?_
        rintro e w6 ⟨v6, rfl, hb6, us6, rfl, hr6⟩
        refine ⟨fun k _ hF => ⟨fun e => ⟨bc hb6 (hF.1 e).1, bc hb6 (hF.1 e).2⟩, fun e => bc hb6 (hF.2 e)⟩, ?_⟩
        have HBk := hid (show Below W5.heap.size W5 w6 from ((Below.refl _ _).drew).trans hb6)
        have HVk := hid (HV5.out.below HBk.out)
        have HRk := hid ((HV5.out.below (Below.refl _ _).drew).new hr6)
        have HXk := hid (blk_below HX5.out HBk.out)
        obtain ⟨xa6, xac6, xb6, xbc6, rfl, -⟩ := Hp.rep2 hr6
        have HF : ∀ {k : Nat}, ((k = 4 → w6.cell? ⟨g, 1, none⟩ = some (.slice ha5 h5.cells.length hac5) ∧ w6.cell? ⟨g, 2, none⟩ = some (.slice hb5 h5.trail.length hbc5)) ∧ (k = 6 → w6.cell? ⟨xb, 2, none⟩ = some (.int .i64 (c.top : Int)))) := fun {k} => ⟨fun _ => ⟨bc HBk.out b1, bc HBk.out b2⟩, fun _ => bc HBk.out y2⟩
        clear hb6 hr6 HUN
        try simp only [Act.put, List.setIfInBounds_toArray, List.set_cons_zero, List.set_cons_succ]
        refine wpTk (i := 8) (v := ?_) rfl (Or.inl ⟨by rfl, ?_⟩) HF ?_
        rotate_left
        · (intro w' hw; clear hw; go_simp <;> with_reducible rfl)
        try simp only [Act.put, List.setIfInBounds_toArray, List.set_cons_zero, List.set_cons_succ]
        refine wpTk (i := 10) (v := ?_) rfl (Or.inl ⟨by rfl, ?_⟩) HF ?_
        rotate_left
        · (intro w' hw; clear hw; go_simp <;> with_reducible rfl)
        try simp only [Act.put, List.setIfInBounds_toArray, List.set_cons_zero, List.set_cons_succ]
        refine wpTk (i := 9) (v := ?_) rfl (Or.inl ⟨by rfl, ?_⟩) HF ?_
        rotate_left
        · (intro w' hw; clear hw; go_simp <;> with_reducible rfl)
        try simp only [Act.put, List.setIfInBounds_toArray, List.set_cons_zero, List.set_cons_succ]
        refine wpTk (i := 11) (v := ?_) rfl (Or.inl ⟨by rfl, ?_⟩) HF ?_
        rotate_left
        · (intro w' hw; clear hw; go_simp <;> with_reducible rfl)
        try simp only [Act.put, List.setIfInBounds_toArray, List.set_cons_zero, List.set_cons_succ]
        refine wpTk (i := 12) (v := ?_) rfl (Or.inl ⟨by rfl, ?_⟩) HF ?_
        rotate_left
        · (intro w' hw; clear hw; go_simp <;> with_reducible rfl)
        try simp only [Act.put, List.setIfInBounds_toArray, List.set_cons_zero, List.set_cons_succ]
        clear HF b0 b1 b2 b3 b4 b5 b6 b7 b8 b9 bf y0 y1 y2 y3 yf
        obtain ⟨b0, b1, b2, b3, b4, b5, b6, b7, b8, b9, bf⟩ := box10 HVk.out.box
        have hgk := HVk.out.lt.1
        have hcs := cell_set
        refine wpAnyF_one (i := 13) (by kernel_rfl) (wpOp_run rfl (by rfl) ?_)
        go_simp
        refine ⟨fun k hk hF => ⟨fun e => by subst e; exact absurd (hk.symm.trans (by kernel_rfl) : false = true) Bool.false_ne_true, fun e => by subst e; exact absurd (hk.symm.trans (by kernel_rfl) : false = true) Bool.false_ne_true⟩, wpAnyF_done (by kernel_rfl) ?_ _⟩
        have HSH := hid (HVk.out.setH HRk.out)
        have HXS := hid (show ((w6.setCell ⟨g, 1, none⟩ (.slice xa6 (cutF h5 (c.top : Int)).1.cells.length xac6)).setCell ⟨g, 2, none⟩ (.slice xb6 (cutF h5 (c.top : Int)).1.trail.length xbc6)).heap[xb]? = _ from (Below.heap_setCell _ _ _ _ (by show xb ≠ g; omega)).trans ((Below.heap_setCell _ _ _ _ (by show xb ≠ g; omega)).trans HXk.out))
        obtain ⟨h6, hh6⟩ : ∃ h6, h6 = (cutF h5 (c.top : Int)).1 := ⟨_, rfl⟩
        have HH6 := hid hh6
        rw [← hh6] at HSH HXS
        simp only [← hh6]
        generalize (w6.setCell ⟨g, 1, none⟩ (.slice xa6 h6.cells.length xac6)).setCell ⟨g, 2, none⟩ (.slice xb6 h6.trail.length xbc6) = W6 at *
        obtain ⟨hc6, ht6, o6, hmv6, hch6, hgr6⟩ := HSH.out
        have HV6 := hid hmv6
        have HX6 := hid HXS.out
        have HCH6 := hid (HCH5.out.trans ((Ch.of_below HBk.out).trans hch6 (fun b h => .inl h)) HGR5.out.up)
        have HGR6 := hid (HGR5.out.trans ((MGrow.refl W5 _).trans hgr6 HBk.out.size) hz5)
        have hz6 : w.heap.size ≤ W6.heap.size := HCH6.out.size
        have hzr6 : wr.heap.size ≤ W6.heap.size := Nat.le_trans hzr5 (Nat.le_trans HBk.out.size hch6.size)
        obtain ⟨-, -, -, -, -, -, -, -, ha6, hac6, hb6, hbc6, -, -, -, -, rfl, rfl, -⟩ := hmv6.vals
        clear hh6 b0 b1 b2 b3 b4 b5 b6 b7 b8 b9 bf hcs
        obtain ⟨b0, b1, b2, b3, b4, b5, b6, b7, b8, b9, bf⟩ := box10 hmv6.box
        obtain ⟨y0, y1, y2, y3, yf⟩ := blk4 HX6.out
        simp only at b1 b2
        have hgl6 : g < W6.heap.size := hmv6.lt.1
        have hxl6 := blk_lt HX6.out
        clear hmv6 hch6 hgr6 HSH HXS HBk HVk HRk HXk hgk
        obtain ⟨q1, q2, q3, q4, q5⟩ := HPR.out
        simp only at q1 q2 q3 q4 q5
        have hhh : h6 = (cutF (undoF h1 (c.trail : Int)).1 (c.top : Int)).1 := by rw [HH6.out, HH5.out]
        rw [← hhh] at q3 q4 q5
        have HQ5 := hid q5
        have hfw := HFW.out
        simp only [List.length_cons] at hfw
        have hft := HFT.out
        try simp only at hft
        have hgb6 : c.goal ≤ 1000000 := HCK.out.1
        have HCALL := hid (mcall_ok c.goal c.from_ HV6.out HP.out q3 q1 q4 q2 (by simp only; omega) hft HOT.out)
        have HGB := hid (show goalM ⟨h6, gs1, cs, nw1, qr1, fl1, ou1⟩ c.goal = goalM ⟨h1, gs1, c :: cs, nw1, qr1, fl1, ou1⟩ c.goal from rfl)
        have hbk2 : backM P m.choices m = (match callM P c.goal (goalM ⟨h6, gs1, cs, nw1, qr1, fl1, ou1⟩ c.goal) (P.length - c.from_) c.from_ ⟨h6, gs1, cs, nw1, qr1, fl1, ou1⟩ with
            | (.no, m') => backM P cs m'
            | r => r) := by
          rw [HBK.out, hhh]
          rfl
        have HBK2 := hid hbk2
        have HNO := hid (callM_no (P := P) (n := c.goal) (g := goalM ⟨h6, gs1, cs, nw1, qr1, fl1, ou1⟩ c.goal) (P.length - c.from_) c.from_ ⟨h6, gs1, cs, nw1, qr1, fl1, ou1⟩)
        clear q1 q2 q3 q4 q5 hbk2 hhh
        go_wp2_with fail
        refine HCALL.out.mono ?_
        rintro e w7 ⟨rfl, hst⟩
        generalize callM P c.goal (goalM ⟨h6, gs1, cs, nw1, qr1, fl1, ou1⟩ c.goal) (P.length - c.from_) c.from_ ⟨h6, gs1, cs, nw1, qr1, fl1, ou1⟩ = r at *
        obtain ⟨r1, m7⟩ := r
        have HST := hid (MaStep.trans HCH6.out HGR6.out hst)
        clear hst HCALL b0 b1 b2 b3 b4 b5 b6 b7 b8 b9 bf y0 y1 y2 y3 yf
        cases r1 with
        | next =>
          try simp only [resV]
          go_wp2_with fail
          go_ret
          rw [HBK2.out]
          exact ⟨rfl, HST.out⟩
        | off =>
          try simp only [resV]
          go_wp2_with fail
          go_ret
          rw [HBK2.out]
          exact ⟨rfl, HST.out⟩
        | no =>
          have hm7 := HNO.out m7 rfl
          subst hm7
          obtain ⟨hc7, ht7, o7, hmv7, hch7, hgr7⟩ := HST.out
          have HV7 := hid hmv7
          have HCH7 := hid hch7
          have HGR7 := hid hgr7
          have HBK3 := hid (show backM P m.choices m = backM P cs ⟨h6, gs1, cs, nw1, qr1, fl1, ou1⟩ from HBK2.out)
          have hb4 := (box10 hmv7.box).2.2.2.2.1
          obtain ⟨_, _, _, _, ca7, cc7, _, _, _, _, _, _, -, -, ev7, -⟩ := hmv7.vals
          rw [ev7] at hb4
          have HM4 := hid hb4
          clear hmv7 hch7 hgr7 HBK2 HNO hb4
          try simp only [resV]
          go_wp2_with fail
          go_roundw
          case rel => exact ⟨⟨h6, gs1, cs, nw1, qr1, fl1, ou1⟩, o7, hc7, ht7, HV7.out, HCH7.out, HGR7.out, HQ5.out, by simp only; omega, hft, HOT.out, HBK3.out⟩
          case measure => rw [chLenW_eq HM4.out, chLenW_eq HM0.out]; simp only; omega
end
end Go.Proofs.Ytlpmfkpefoegeab
