/-
  heap.Unify.
-/
import Derived.Test.YtlpmfkpefoegeabQUnify
import Derived.Test.YtlpmfkpefoegeabQFits
namespace Go.Proofs.Ytlpmfkpefoegeab
set_option linter.unusedVariables false
set_option linter.unusedSimpArgs false
open Go.RowKit
open Classical in
/-- what Unify answers -/
noncomputable def unifyF (h : Hp) (a b : Int) : Hp × Bool × Int :=
  if ¬ h.Good then (h, false, 1)
  else if ¬ (Inb h.cells a ∧ Inb h.cells b) then (h, false, 4)
  else
    let u := uniL 400 [(a, b)] h.cells h.trail
    if u.work < 0 then (h, false, 3) else if u.ok = false then (h, false, 0) else if 65536 < u.trail.length then (h, false, 3) else (⟨u.cells, u.trail⟩, true, 0)
def HpBE (A : Nat → Prop) (x : Hp × Bool × Int) (r : Value) (w' : World) : Prop := ∃ us, r = .tuple #[.agg us.toArray, .bool x.2.1, .int .i64 x.2.2] ∧ Hp.rep A w' x.1 us
def IsUv (base : Nat) (h : Hp) : Value → World → Prop := fun v w => ∃ c t, v = .agg #[c, t, .int .i64 400] ∧ OwnC w base h.cells c ∧ OwnN w base h.trail t
def IsUni (base : Nat) (h : Hp) : Value → World → Prop := fun v w => ∃ g cv tv, v = .pointer (some ⟨g, 0, none⟩) ∧ UInv g base cv tv h.cells h.trail 400 w
theorem stays_Uv (base : Nat) (h : Hp) : Stays (IsUv base h) := fun v w w' ⟨c, t, e, h1, h2⟩ hb => ⟨c, t, e, OwnF.below h1 hb, OwnF.below h2 hb⟩
theorem stays_Uni (base : Nat) (h : Hp) : Stays (IsUni base h) := fun v w w' ⟨g, c, t, e, h1⟩ hb => ⟨g, c, t, e, h1.below hb⟩
set_option maxRecDepth 100000 in
set_option maxHeartbeats 4000000 in
theorem hunify_ok (h : Hp) (a b : Int) (ha : I64 a) (hb : I64 b) (A : Nat → Prop) (w : World) (vs : List Value) (hh : Hp.rep A w h vs) :
    Calls Try.prog 38 #[.agg vs.toArray, .int .i64 a, .int .i64 b] w (Pure w (HpBE (fun b => A b ∨ New w b) (unifyF h a b))) := by
  obtain ⟨va, cap, vb, tap, rfl, hc1, hc2, hc3, ht1, ht2, ht3, hc, ht⟩ := Hp.rep2 hh
  have HH := hid hh
  have HC := hid hc
  have HT := hid ht
  have HIA := hid ha
  have HIB := hid hb
  have HG1 := hid (fun w' (hk : Keeps A w w') => good_ok h A w' _ (Hp.rep.keeps hh hk))
  clear hh hc ht ha hb
  go_enter Try.func38, Try.ntmps38
  go_wp2_with fail
  refine (HG1.out _ ((Keeps.alloc _ _ _).trans (Keeps.alloc _ _ _))).mono ?_
  rintro e w1 ⟨v, rfl, hb1, t, rfl, ht⟩
  have h2 := heap2 w (.cells #[.slice va h.cells.length cap, .slice vb h.trail.length tap] 30) (.cells #[.slice none 0 0, .slice none 0 0] 30)
  have HX1 := hid (blk_below h2.1 hb1)
  have HX2 := hid (blk_below h2.2 hb1)
  have HB := hid (show Below w.heap.size w w1 from below_pure (below_pure (hb1.mono (by simp))))
  have hz : w.heap.size + 1 < w1.heap.size := by have := hb1.size; simp at this; omega
  have hz' : w.heap.size < w1.heap.size := by omega
  have HTT := hid ht
  have hcs := cell_set
  clear h2 hb1 ht
  obtain ⟨x0, x1, xf⟩ := box2 HX1.out
  obtain ⟨y0, y1, yf⟩ := box2 HX2.out
  cases t with
  | false =>
    have hg : ¬ h.Good := fun hg => by have := HTT.out.2 hg; cases this
    go_wp2_with fail
    refine bodyPost_ret (v := .tuple #[.agg #[.slice va h.cells.length cap, .slice vb h.trail.length tap], .bool false, .int .i64 1]) (by simp [results, Try.results38, go_sem, hcs, x0, x1, y0, y1]) rfl ?_
    have hb : Below w.heap.size w ((w1.setCell ⟨w.heap.size + 1, 0, none⟩ (.slice va h.cells.length cap)).setCell ⟨w.heap.size + 1, 1, none⟩ (.slice vb h.trail.length tap)) := Below.setCell (Below.setCell HB.out (by simp) _) (by simp) _
    rw [unifyF, if_pos hg]
    exact Pure.mk hb ⟨_, rfl, Hp.rep.mono (Hp.rep.keeps HH.out (Keeps.of_below hb)) (fun _ _ h => .inl h)⟩
  | true =>
    have HG := hid (HTT.out.1 rfl)
    have HL1 := hid HG.out.2.2.1
    have HL2 := hid HG.out.2.2.2
    clear HTT
    by_cases hin : Inb h.cells a ∧ Inb h.cells b
    case neg =>
      have HIN := hid hin
      have hin' : ¬ (0 ≤ a ∧ a < (h.cells.length : Int) ∧ 0 ≤ b ∧ b < (h.cells.length : Int)) := fun k => hin ⟨⟨k.1, k.2.1⟩, k.2.2.1, k.2.2.2⟩
      clear hin
      go_wp2_with fail
      all_goals first
        | (exfalso; omega)
        | (refine bodyPost_ret (v := .tuple #[.agg #[.slice va h.cells.length cap, .slice vb h.trail.length tap], .bool false, .int .i64 4]) (by simp [results, Try.results38, go_sem, hcs, x0, x1, y0, y1]) rfl ?_
           have hb : Below w.heap.size w ((w1.setCell ⟨w.heap.size + 1, 0, none⟩ (.slice va h.cells.length cap)).setCell ⟨w.heap.size + 1, 1, none⟩ (.slice vb h.trail.length tap)) := Below.setCell (Below.setCell HB.out (by simp) _) (by simp) _
           rw [unifyF, if_neg (not_not_intro HG.out), if_pos HIN.out]
           exact Pure.mk hb ⟨_, rfl, Hp.rep.mono (Hp.rep.keeps HH.out (Keeps.of_below hb)) (fun _ _ h => .inl h)⟩)
        | go_ways
    case pos =>
      have HIN := hid hin
      obtain ⟨⟨i1, i2⟩, i3, i4⟩ := hin
      go_wp2_with fail
      obtain ⟨W0, rfl⟩ : ∃ z, z = w1 := ⟨_, rfl⟩
      have HA0 : Hid (∀ w', Below W0.heap.size W0 w' → Below w.heap.size w w' ∧ w'.cell? ⟨w.heap.size, 0, none⟩ = some (.slice va h.cells.length cap) ∧ w'.cell? ⟨w.heap.size, 1, none⟩ = some (.slice vb h.trail.length tap) ∧
          w'.heap[w.heap.size]? = some (.cells #[.slice va h.cells.length cap, .slice vb h.trail.length tap] 30 (0, 0)) ∧ w'.heap[w.heap.size + 1]? = some (.cells #[.slice none 0 0, .slice none 0 0] 30 (0, 0))) := hid fun w' hb => by
        have h1 := blk_below HX1.out hb
        have h2 := blk_below HX2.out hb
        obtain ⟨z0, z1, -⟩ := box2 h1
        exact ⟨HB.out.trans (hb.mono (by omega)), z0, z1, h1, h2⟩
      have hsz' : w.heap.size + 2 ≤ W0.heap.size := by omega
      refine wp_region_each (Inv := fun w' => Below W0.heap.size W0 w') (Po := posts [IsV (.pointer (some ⟨w.heap.size, 0, none⟩)), IsV (.slice va h.cells.length cap), IsOC W0.heap.size h.cells, IsV (.pointer (some ⟨w.heap.size, 1, none⟩)), IsV (.slice vb h.trail.length tap), IsON W0.heap.size h.trail, IsHpO W0.heap.size h, IsUv W0.heap.size h, IsUni W0.heap.size h, IsUni W0.heap.size h]) (Rl := fun w w' => Below w.heap.size w w') (by kernel_rfl) (by kernel_rfl) (by kernel_rfl) ((Below.refl _ _).drew) ?_ ?_ ?_ ?_
      · refine posts_stay fun R hR => ?_
        simp only [List.mem_cons, List.not_mem_nil, or_false] at hR
        rcases hR with rfl | rfl | rfl | rfl | rfl | rfl | rfl | rfl | rfl | rfl <;> first | exact stays_V _ | exact stays_any | exact stays_B _ | exact stays_Tm _ | exact stays_Tms _ | exact stays_Cs _ | exact stays_Ns _ | exact stays_Bs _ | exact stays_Hp _ | exact stays_OC _ _ | exact stays_ON _ _ | exact stays_HpO _ _ | exact stays_Uv _ _ | exact stays_Uni _ _
      · exact fun w1 w2 h h' => h.trans (h'.mono h.size)
      · intro i o ho f ac ww hinv hpo hdst hold
        match i, ho with
          | 0, ho =>
            obtain rfl : _ = o := Option.some.inj ho
            have t3 := hold 3 (by kernel_rfl)
            refine Or.inl ⟨want0 rfl, ?_⟩
            clear hdst hpo hold ho
            clear hinv
            unfold Ans
            go_simp
            exact ⟨rfl, Below.refl _ _⟩
          | 1, ho =>
            obtain rfl : _ = o := Option.some.inj ho
            have t36 : ac.tmps[36]? = some (f 0) := hdst 0 36 (by kernel_rfl) (by kernel_rfl)
            have p0 : (IsV (.pointer (some ⟨w.heap.size, 0, none⟩))) (f 0) ww := hpo 0 (by kernel_rfl)
            refine Or.inl ⟨want0 rfl, ?_⟩
            clear hdst hpo hold ho
            rw [show f 0 = _ from p0] at t36
            obtain ⟨-, x0, x1, -⟩ := HA0.out ww hinv
            unfold Ans
            go_simp
            exact ⟨rfl, Below.refl _ _⟩
          | 2, ho =>
            obtain rfl : _ = o := Option.some.inj ho
            have t37 : ac.tmps[37]? = some (f 1) := hdst 1 37 (by kernel_rfl) (by kernel_rfl)
            have p1 : (IsV (.slice va h.cells.length cap)) (f 1) ww := hpo 1 (by kernel_rfl)
            refine Or.inl ⟨want0 rfl, ?_⟩
            clear hdst hpo hold ho
            rw [show f 1 = _ from p1] at t37
            unfold Ans
            go_simp
            refine (cloneC_ok h.cells A _ _ (SlR.keeps Ce.rep_lasts HC.out (Keeps.of_below (HA0.out ww hinv).1))).mono ?_
            rintro e w1 ⟨r, rfl, hb, hr⟩
            exact ⟨_, rfl, OwnF.rebase hr (fun k hk => Nat.le_trans hinv.size (OwnF.lt hr k hk).1), hb⟩
          | 3, ho =>
            obtain rfl : _ = o := Option.some.inj ho
            have t3 := hold 3 (by kernel_rfl)
            refine Or.inl ⟨want0 rfl, ?_⟩
            clear hdst hpo hold ho
            clear hinv
            unfold Ans
            go_simp
            exact ⟨rfl, Below.refl _ _⟩
          | 4, ho =>
            obtain rfl : _ = o := Option.some.inj ho
            have t39 : ac.tmps[39]? = some (f 3) := hdst 3 39 (by kernel_rfl) (by kernel_rfl)
            have p3 : (IsV (.pointer (some ⟨w.heap.size, 1, none⟩))) (f 3) ww := hpo 3 (by kernel_rfl)
            refine Or.inl ⟨want0 rfl, ?_⟩
            clear hdst hpo hold ho
            rw [show f 3 = _ from p3] at t39
            obtain ⟨-, x0, x1, -⟩ := HA0.out ww hinv
            unfold Ans
            go_simp
            exact ⟨rfl, Below.refl _ _⟩
          | 5, ho =>
            obtain rfl : _ = o := Option.some.inj ho
            have t40 : ac.tmps[40]? = some (f 4) := hdst 4 40 (by kernel_rfl) (by kernel_rfl)
            have p4 : (IsV (.slice vb h.trail.length tap)) (f 4) ww := hpo 4 (by kernel_rfl)
            refine Or.inl ⟨want0 rfl, ?_⟩
            clear hdst hpo hold ho
            rw [show f 4 = _ from p4] at t40
            unfold Ans
            go_simp
            refine (cloneN_ok h.trail A _ _ (SlR.keeps numR_lasts HT.out (Keeps.of_below (HA0.out ww hinv).1))).mono ?_
            rintro e w1 ⟨r, rfl, hb, hr⟩
            exact ⟨_, rfl, OwnF.rebase hr (fun k hk => Nat.le_trans hinv.size (OwnF.lt hr k hk).1), hb⟩
          | 6, ho =>
            obtain rfl : _ = o := Option.some.inj ho
            have t38 : ac.tmps[38]? = some (f 2) := hdst 2 38 (by kernel_rfl) (by kernel_rfl)
            have p2 : (IsOC W0.heap.size h.cells) (f 2) ww := hpo 2 (by kernel_rfl)
            have t41 : ac.tmps[41]? = some (f 5) := hdst 5 41 (by kernel_rfl) (by kernel_rfl)
            have p5 : (IsON W0.heap.size h.trail) (f 5) ww := hpo 5 (by kernel_rfl)
            refine Or.inl ⟨want0 rfl, ?_⟩
            clear hdst hpo hold ho
            have P2 := hid p2
            have P5 := hid p5
            obtain ⟨a1, c1, e2, -⟩ := OwnF.val p2
            obtain ⟨a2, c2, e5, -⟩ := OwnF.val p5
            rw [e2] at t38
            rw [e5] at t41
            clear hinv p2 p5
            unfold Ans
            go_simp
            refine ⟨⟨_, rfl, _, _, rfl, ?_, ?_⟩, Below.refl _ _⟩
            · rw [← e2]; exact P2.out
            · rw [← e5]; exact P5.out
          | 7, ho =>
            obtain rfl : _ = o := Option.some.inj ho
            have t42 : ac.tmps[42]? = some (f 6) := hdst 6 42 (by kernel_rfl) (by kernel_rfl)
            have p6 : (IsHpO W0.heap.size h) (f 6) ww := hpo 6 (by kernel_rfl)
            refine Or.inl ⟨want0 rfl, ?_⟩
            clear hdst hpo hold ho
            obtain ⟨us, e6, c, t, rfl, hc, ht⟩ := p6
            have P2 := hid hc
            have P5 := hid ht
            obtain ⟨a1, c1, rfl, -⟩ := OwnF.val hc
            obtain ⟨a2, c2, rfl, -⟩ := OwnF.val ht
            rw [e6] at t42
            clear hinv hc ht
            unfold Ans
            go_simp
            exact ⟨⟨_, _, rfl, P2.out, P5.out⟩, Below.refl _ _⟩
          | 8, ho =>
            obtain rfl : _ = o := Option.some.inj ho
            have t43 : ac.tmps[43]? = some (f 7) := hdst 7 43 (by kernel_rfl) (by kernel_rfl)
            have p7 : (IsUv W0.heap.size h) (f 7) ww := hpo 7 (by kernel_rfl)
            refine Or.inl ⟨want0 rfl, ?_⟩
            clear hdst hpo hold ho
            obtain ⟨c, t, e7, hc, ht⟩ := p7
            have P2 := hid hc
            have P5 := hid ht
            have hB := hid hinv
            rw [e7] at t43
            clear hinv hc ht
            unfold Ans
            go_simp
            refine ⟨⟨ww.heap.size, c, t, rfl, blk_new _ _, OwnF.below P2.out ((Below.refl _ _).alloc (Nat.le_refl _) _), OwnF.below P5.out ((Below.refl _ _).alloc (Nat.le_refl _) _), hB.out.size, HL1.out, by have := HL2.out; omega, by omega, by omega⟩, (Below.refl _ _).alloc (Nat.le_refl _) _⟩
          | 9, ho =>
            obtain rfl : _ = o := Option.some.inj ho
            have t44 : ac.tmps[44]? = some (f 8) := hdst 8 44 (by kernel_rfl) (by kernel_rfl)
            have p8 : (IsUni W0.heap.size h) (f 8) ww := hpo 8 (by kernel_rfl)
            refine Or.inl ⟨want0 rfl, ?_⟩
            clear hdst hpo hold ho
            clear hinv
            unfold Ans
            go_simp
            exact ⟨p8, Below.refl _ _⟩
          | i + 10, ho => simp at ho
      · intro f ww hinv hpo
        have p9 : (IsUni W0.heap.size h) (f 9) ww := hpo 9 (by decide)
        obtain ⟨g, cv, tv, e9, hu⟩ := p9
        simp only [fillT, List.setIfInBounds_toArray, List.set_cons_succ, List.set_cons_zero]
        rw [e9]
        have HU := hid hu
        have HBW := hid hinv
        have hzz : W0.heap.size ≤ ww.heap.size := hinv.size
        clear hinv hpo hu x0 x1 xf y0 y1 yf
        go_wp2_with fail
        refine (unify_ok g W0.heap.size 400 cv tv h.cells h.trail a b ww HG.out.1 HIA.out HIB.out HU.out).mono ?_
        rintro e w5 ⟨rfl, tv', hu5, hch5, -⟩
        have hb5 : Below W0.heap.size W0 w5 := ((Ch.of_below (M := fun _ => False) HBW.out).trans hch5 (fun x hx => .inr (by
          rcases hx with hx | hx | hx
          · rw [hx]; exact HU.out.lt.2.1
          · exact (HU.out.2.1.lt x hx).1
          · exact (HU.out.2.2.1.lt x hx).1))).below (fun _ _ h => h)
        obtain ⟨hbw, -, -, hX1, hX2⟩ := HA0.out w5 hb5
        have HX1 := hid hX1
        have HX2 := hid hX2
        have HBW5 := hid hbw
        obtain ⟨x0, x1, xf⟩ := box2 hX1
        obtain ⟨y0, y1, yf⟩ := box2 hX2
        have hz5 : w.heap.size + 1 < w5.heap.size := blk_lt hX2
        have hz5' : w.heap.size < w5.heap.size := by omega
        have hun : unifyF h a b = (let u := uniL 400 [(a, b)] h.cells h.trail; if u.work < 0 then (h, false, 3) else if u.ok = false then (h, false, 0) else if 65536 < u.trail.length then (h, false, 3) else (⟨u.cells, u.trail⟩, true, 0)) := by
          rw [unifyF, if_neg (not_not_intro HG.out), if_neg (not_not_intro HIN.out)]
        have hwork := uniL_work 400 [(a, b)] h.cells h.trail
        have hbnd := uniL_bound 400 [(a, b)] h.cells h.trail
        generalize uniL 400 [(a, b)] h.cells h.trail = u at *
        obtain ⟨ok, lu, tu, wu⟩ := u
        simp only at hwork hbnd hu5 hun
        have HUN := hid hun
        have HWK := hid hwork
        have HBND := hid hbnd
        have HU5 := hid hu5
        obtain ⟨ca, cc, ta, tc, rfl, rfl, e1, e2, e3, e4⟩ := hu5.vals
        obtain ⟨q0, q1, q2, qf⟩ := box3 hu5.1
        have hg5 := hu5.lt
        have hgb : w.heap.size + 2 ≤ g := Nat.le_trans hsz' hg5.2.1
        clear hu5 hch5 hb5 hX1 hX2 hbw hun hwork hbnd
        have HOLD : Hid (∀ (w' : World) (n e : Int) (o : Bool), Below w.heap.size w w' → HpBE (fun b => A b ∨ New w b) (h, o, e) (.tuple #[.agg #[.slice va h.cells.length cap, .slice vb h.trail.length tap], .bool o, .int .i64 e]) w') :=
          hid fun w' n e o hb => ⟨_, rfl, Hp.rep.mono (Hp.rep.keeps HH.out (Keeps.of_below hb)) (fun _ _ h => .inl h)⟩
        by_cases hw : wu < 0
        · have hres := hid (show unifyF h a b = (h, false, 3) by rw [HUN.out, if_pos hw])
          go_wp2_with fail
          refine bodyPost_ret (v := .tuple #[.agg #[.slice va h.cells.length cap, .slice vb h.trail.length tap], .bool false, .int .i64 3]) (by simp [results, Try.results38, go_sem, hcs, x0, x1, y0, y1]) rfl ?_
          have hb : Below w.heap.size w ((w5.setCell ⟨w.heap.size + 1, 0, none⟩ (.slice va h.cells.length cap)).setCell ⟨w.heap.size + 1, 1, none⟩ (.slice vb h.trail.length tap)) := Below.setCell (Below.setCell HBW5.out (by simp) _) (by simp) _
          rw [hres.out]
          exact Pure.mk hb (HOLD.out _ 0 _ _ hb)
        · cases ok with
          | false =>
            have hres := hid (show unifyF h a b = (h, false, 0) by rw [HUN.out, if_neg hw, if_pos rfl])
            go_wp2_with fail
            refine bodyPost_ret (v := .tuple #[.agg #[.slice va h.cells.length cap, .slice vb h.trail.length tap], .bool false, .int .i64 0]) (by simp [results, Try.results38, go_sem, hcs, x0, x1, y0, y1]) rfl ?_
            have hb : Below w.heap.size w ((w5.setCell ⟨w.heap.size + 1, 0, none⟩ (.slice va h.cells.length cap)).setCell ⟨w.heap.size + 1, 1, none⟩ (.slice vb h.trail.length tap)) := Below.setCell (Below.setCell HBW5.out (by simp) _) (by simp) _
            rw [hres.out]
            exact Pure.mk hb (HOLD.out _ 0 _ _ hb)
          | true =>
            by_cases htl : 65536 < tu.length
            · have htl' : (65536 : Int) < (tu.length : Int) := by omega
              have hres := hid (show unifyF h a b = (h, false, 3) by rw [HUN.out, if_neg hw, if_neg (by simp), if_pos htl])
              go_wp2_with fail
              refine bodyPost_ret (v := .tuple #[.agg #[.slice va h.cells.length cap, .slice vb h.trail.length tap], .bool false, .int .i64 3]) (by simp [results, Try.results38, go_sem, hcs, x0, x1, y0, y1]) rfl ?_
              have hb : Below w.heap.size w ((w5.setCell ⟨w.heap.size + 1, 0, none⟩ (.slice va h.cells.length cap)).setCell ⟨w.heap.size + 1, 1, none⟩ (.slice vb h.trail.length tap)) := Below.setCell (Below.setCell HBW5.out (by simp) _) (by simp) _
              rw [hres.out]
              exact Pure.mk hb (HOLD.out _ 0 _ _ hb)
            · have htl' : (tu.length : Int) ≤ 65536 := by omega
              have hres := hid (show unifyF h a b = (⟨lu, tu⟩, true, 0) by rw [HUN.out, if_neg hw, if_neg (by simp), if_neg htl])
              have hgne : ¬ w.heap.size + 1 = g := by omega
              go_wp2_with fail
              refine bodyPost_ret (v := .tuple #[.agg #[.slice ca lu.length cc, .slice ta tu.length tc], .bool true, .int .i64 0]) (by simp [results, Try.results38, go_sem, hcs, x0, x1, y0, y1]) rfl ?_
              have hb : Below w.heap.size w ((w5.setCell ⟨w.heap.size + 1, 0, none⟩ (.slice ca lu.length cc)).setCell ⟨w.heap.size + 1, 1, none⟩ (.slice ta tu.length tc)) := Below.setCell (Below.setCell HBW5.out (by simp) _) (by simp) _
              have hk : ∀ b, W0.heap.size ≤ b → ((w5.setCell ⟨w.heap.size + 1, 0, none⟩ (.slice ca lu.length cc)).setCell ⟨w.heap.size + 1, 1, none⟩ (.slice ta tu.length tc)).heap[b]? = w5.heap[b]? := fun b hb => by
                rw [Below.heap_setCell _ _ _ _ (by simp only; omega), Below.heap_setCell _ _ _ _ (by simp only; omega)]
              rw [hres.out]
              refine Pure.mk hb ⟨_, rfl, _, _, rfl, ?_, ?_⟩
              · exact OwnF.sl Ce.vals_len Ce.vals_one (OwnF.kept HU5.out.2.1 (fun k hk' => hk k (OwnF.lt HU5.out.2.1 k hk').1)) (by have := HU5.out.2.2.2.2.1; omega) (fun k hk' => .inr (by have := (OwnF.lt HU5.out.2.1 k hk').1; unfold New; omega))
              · exact OwnF.sl numV_len numV_one (OwnF.kept HU5.out.2.2.1 (fun k hk' => hk k (OwnF.lt HU5.out.2.2.1 k hk').1)) (by omega) (fun k hk' => .inr (by have := (OwnF.lt HU5.out.2.2.1 k hk').1; unfold New; omega))
end Go.Proofs.Ytlpmfkpefoegeab
