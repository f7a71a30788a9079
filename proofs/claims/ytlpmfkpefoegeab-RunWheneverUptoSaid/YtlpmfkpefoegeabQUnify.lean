/-
  The unifier: unify.
-/
import Derived.Test.YtlpmfkpefoegeabHBack
import Derived.Test.YtlpmfkpefoegeabHBis
import Derived.Deep.DeepCutAuto
import Derived.BigRegion
namespace Go.Proofs.Ytlpmfkpefoegeab
set_option linter.unusedVariables false
set_option linter.unusedSimpArgs false
open Go.RowKit
noncomputable def uniM (k : Nat) (l : List Ce) (t : List Int) (x y : Int) : Un :=
  if (cellAt l x).kind = 0 ∧ (cellAt l y).kind = 0 then
    (if x = y then ⟨true, l, t, k⟩ else ⟨true, bindC l (max x y) (min x y), t ++ [max x y], k⟩)
  else if (cellAt l x).kind = 0 ∨ (cellAt l y).kind = 0 then
    (if (inL l (if (cellAt l y).kind = 0 then y else x) k [if (cellAt l y).kind = 0 then x else y]).1 = true ∨ (inL l (if (cellAt l y).kind = 0 then y else x) k [if (cellAt l y).kind = 0 then x else y]).2 < 0 then ⟨false, l, t, (inL l (if (cellAt l y).kind = 0 then y else x) k [if (cellAt l y).kind = 0 then x else y]).2⟩
     else ⟨true, bindC l (if (cellAt l y).kind = 0 then y else x) (if (cellAt l y).kind = 0 then x else y), t ++ [if (cellAt l y).kind = 0 then y else x], ((min k (inL l (if (cellAt l y).kind = 0 then y else x) k [if (cellAt l y).kind = 0 then x else y]).2.toNat : Nat) : Int)⟩)
  else if cellAt l x ≠ cellAt l y then ⟨false, l, t, k⟩
  else if (cellAt l x).kind = 3 then uniL k ((argsAt x (cellAt l x).n).zip (argsAt y (cellAt l x).n)) l t
  else ⟨true, l, t, k⟩
theorem uniL_one (k : Nat) (a b : Int) (l : List Ce) (t : List Int) : uniL (k + 1) [(a, b)] l t = if look l a < 0 ∨ look l b < 0 then ⟨false, l, t, -1⟩ else uniM k l t (look l a) (look l b) := by
  rw [uniL]
  simp only [uniL_nil, List.append_nil]
  rfl
def UniPost (g base : Nat) (cv tv : Value) (w : World) (u : Un) (e : Ending) (w' : World) : Prop := e = .returned (.bool u.ok) ∧ UStep g base cv tv w u.cells u.trail u.work w'
def UniOK (g base : Nat) (k : Nat) : Prop := ∀ (cv tv : Value) (l : List Ce) (t : List Int) (a b : Int) (w : World), GoodC l → I64 a → I64 b → UInv g base cv tv l t k w →
  Calls Try.prog 58 #[.pointer (some ⟨g, 0, none⟩), .int .i64 a, .int .i64 b] w (UniPost g base cv tv w (uniL k [(a, b)] l t))
set_option maxHeartbeats 1000000 in
set_option maxRecDepth 100000 in
theorem unify_zero (g base : Nat) : UniOK g base 0 := by
  intro cv tv l t a b w hgood ha hb h
  have HU := hid h
  obtain ⟨ca, cc, ta, tc, rfl, rfl, e1, e2, e3, e4⟩ := h.vals
  have hlt := h.lt
  obtain ⟨h1, h2, h3, h4, h5, h6, h7, h8⟩ := h
  obtain ⟨x0, x1, x2, xf⟩ := box3 h1
  have hcs := cell_set
  have HG := hid hgood
  clear h1 h2 h3 hgood
  rw [uniL_zero]
  go_enter Try.func58, Try.ntmps58
  go_wp2_with fail
  go_ret
  exact ⟨rfl, UStep.of_box (HU.out.turn (k' := -1) (by decide) (by decide)) (ch_box _ _ _ _)⟩
set_option maxRecDepth 100000 in
set_option maxHeartbeats 4000000 in
theorem unify_succ (g base : Nat) (k : Nat) (ih : ∀ m, m ≤ k → UniOK g base m) : UniOK g base (k + 1) := by
  intro cv tv l t a b w hgood ha hb h
  have HU := hid h
  obtain ⟨ca, cc, ta, tc, rfl, rfl, e1, e2, e3, e4⟩ := h.vals
  have hlt := h.lt
  have HU1 := hid (HU.out.turn (k' := k) (by omega) (by omega))
  obtain ⟨h1, h2, h3, h4, h5, h6, h7, h8⟩ := h
  obtain ⟨x0, x1, x2, xf⟩ := box3 h1
  have hcs := cell_set
  have hk400 : (k : Int) ≤ 400 := by omega
  have hk0 : (0 : Int) ≤ (k : Int) := Int.natCast_nonneg _
  have hkt : (t.length : Int) + 1 + k ≤ 70000 := by omega
  have HIA := hid ha
  have HIB := hid hb
  have HG := hid hgood
  have IH := hid ih
  rw [show ((k + 1 : Nat) : Int) = (k : Int) + 1 by omega] at x2
  clear h1 h2 h3 h6 h7 h8 ha hb hgood ih
  go_enter Try.func58, Try.ntmps58
  go_wp2_with fail
  generalize HW1 : w.setCell ⟨g, 2, none⟩ (.int .i64 (k : Int)) = W1 at HU1 ⊢
  have HA0 : Hid (∀ w', Below W1.heap.size W1 w' → w'.cell? ⟨g, 0, none⟩ = some (.slice ca l.length cc) ∧ w'.cell? ⟨g, 1, none⟩ = some (.slice ta t.length tc)) := hid fun w' hb => by
    obtain ⟨z0, z1, -⟩ := box3 (HU1.out.below hb).1
    exact ⟨z0, z1⟩
  clear x0 x1 x2 xf
  refine wp_region_each (Inv := fun w' => Below W1.heap.size W1 w') (Po := posts [IsV (.pointer (some ⟨g, 0, none⟩)), IsV (.pointer (some ⟨g, 0, none⟩)), IsV (.pointer (some ⟨g, 0, none⟩)), IsV (.agg #[.slice ca l.length cc, .slice ta t.length tc]), IsV (.int .i64 a), IsV (.int .i64 (look l a)), IsV (.pointer (some ⟨g, 0, none⟩)), IsV (.pointer (some ⟨g, 0, none⟩)), IsV (.pointer (some ⟨g, 0, none⟩)), IsV (.agg #[.slice ca l.length cc, .slice ta t.length tc]), IsV (.int .i64 b), IsV (.int .i64 (look l b)), IsV (.int .i64 (look l a)), IsV (.int .i64 (look l b))]) (Rl := fun w w' => Below w.heap.size w w') (by kernel_rfl) (by kernel_rfl) (by kernel_rfl) ((Below.refl _ _).drew) ?_ ?_ ?_ ?_
  · refine posts_stay fun R hR => ?_
    simp only [List.mem_cons, List.not_mem_nil, or_false] at hR
    rcases hR with rfl | rfl | rfl | rfl | rfl | rfl | rfl | rfl | rfl | rfl | rfl | rfl | rfl | rfl <;> first | exact stays_V _ | exact stays_any | exact stays_B _ | exact stays_Tm _ | exact stays_Tms _ | exact stays_Cs _ | exact stays_Ns _ | exact stays_Bs _ | exact stays_Hp _ | exact stays_OC _ _ | exact stays_ON _ _
  · exact fun w1 w2 h h' => h.trans (h'.mono h.size)
  · intro i o ho f ac ww hinv hpo hdst hold
    match i, ho with
      | 0, ho =>
        obtain rfl : _ = o := Option.some.inj ho
        have t0 := hold 0 (by kernel_rfl)
        refine Or.inl ⟨want0 rfl, ?_⟩
        clear hdst hpo hold ho
        clear hinv
        unfold Ans
        go_simp
        exact ⟨rfl, Below.refl _ _⟩
      | 1, ho =>
        obtain rfl : _ = o := Option.some.inj ho
        have t22 : ac.tmps[22]? = some (f 0) := hdst 0 22 (by kernel_rfl) (by kernel_rfl)
        have p0 : (IsV (.pointer (some ⟨g, 0, none⟩))) (f 0) ww := hpo 0 (by kernel_rfl)
        refine Or.inl ⟨want0 rfl, ?_⟩
        clear hdst hpo hold ho
        rw [show f 0 = _ from p0] at t22
        clear hinv
        unfold Ans
        go_simp
        exact ⟨rfl, Below.refl _ _⟩
      | 2, ho =>
        obtain rfl : _ = o := Option.some.inj ho
        have t23 : ac.tmps[23]? = some (f 1) := hdst 1 23 (by kernel_rfl) (by kernel_rfl)
        have p1 : (IsV (.pointer (some ⟨g, 0, none⟩))) (f 1) ww := hpo 1 (by kernel_rfl)
        refine Or.inl ⟨want0 rfl, ?_⟩
        clear hdst hpo hold ho
        rw [show f 1 = _ from p1] at t23
        clear hinv
        unfold Ans
        go_simp
        exact ⟨rfl, Below.refl _ _⟩
      | 3, ho =>
        obtain rfl : _ = o := Option.some.inj ho
        have t24 : ac.tmps[24]? = some (f 2) := hdst 2 24 (by kernel_rfl) (by kernel_rfl)
        have p2 : (IsV (.pointer (some ⟨g, 0, none⟩))) (f 2) ww := hpo 2 (by kernel_rfl)
        refine Or.inl ⟨want0 rfl, ?_⟩
        clear hdst hpo hold ho
        rw [show f 2 = _ from p2] at t24
        obtain ⟨x0, x1⟩ := HA0.out ww hinv
        unfold Ans
        go_simp
        exact ⟨rfl, Below.refl _ _⟩
      | 4, ho =>
        obtain rfl : _ = o := Option.some.inj ho
        have t1 := hold 1 (by kernel_rfl)
        refine Or.inl ⟨want0 rfl, ?_⟩
        clear hdst hpo hold ho
        clear hinv
        unfold Ans
        go_simp
        exact ⟨rfl, Below.refl _ _⟩
      | 5, ho =>
        obtain rfl : _ = o := Option.some.inj ho
        have t25 : ac.tmps[25]? = some (f 3) := hdst 3 25 (by kernel_rfl) (by kernel_rfl)
        have p3 : (IsV (.agg #[.slice ca l.length cc, .slice ta t.length tc])) (f 3) ww := hpo 3 (by kernel_rfl)
        have t26 : ac.tmps[26]? = some (f 4) := hdst 4 26 (by kernel_rfl) (by kernel_rfl)
        have p4 : (IsV (.int .i64 a)) (f 4) ww := hpo 4 (by kernel_rfl)
        refine Or.inl ⟨want0 rfl, ?_⟩
        clear hdst hpo hold ho
        rw [show f 3 = _ from p3] at t25
        rw [show f 4 = _ from p4] at t26
        unfold Ans
        go_simp
        have hU := HU1.out.below hinv
        refine (look_ok ⟨l, t⟩ a HIA.out (fun _ => True) _ _ hU.rep).mono ?_
        rintro e w1 ⟨r, rfl, hb, rfl⟩
        exact ⟨_, rfl, rfl, hb⟩
      | 6, ho =>
        obtain rfl : _ = o := Option.some.inj ho
        have t0 := hold 0 (by kernel_rfl)
        refine Or.inl ⟨want0 rfl, ?_⟩
        clear hdst hpo hold ho
        clear hinv
        unfold Ans
        go_simp
        exact ⟨rfl, Below.refl _ _⟩
      | 7, ho =>
        obtain rfl : _ = o := Option.some.inj ho
        have t28 : ac.tmps[28]? = some (f 6) := hdst 6 28 (by kernel_rfl) (by kernel_rfl)
        have p6 : (IsV (.pointer (some ⟨g, 0, none⟩))) (f 6) ww := hpo 6 (by kernel_rfl)
        refine Or.inl ⟨want0 rfl, ?_⟩
        clear hdst hpo hold ho
        rw [show f 6 = _ from p6] at t28
        clear hinv
        unfold Ans
        go_simp
        exact ⟨rfl, Below.refl _ _⟩
      | 8, ho =>
        obtain rfl : _ = o := Option.some.inj ho
        have t29 : ac.tmps[29]? = some (f 7) := hdst 7 29 (by kernel_rfl) (by kernel_rfl)
        have p7 : (IsV (.pointer (some ⟨g, 0, none⟩))) (f 7) ww := hpo 7 (by kernel_rfl)
        refine Or.inl ⟨want0 rfl, ?_⟩
        clear hdst hpo hold ho
        rw [show f 7 = _ from p7] at t29
        clear hinv
        unfold Ans
        go_simp
        exact ⟨rfl, Below.refl _ _⟩
      | 9, ho =>
        obtain rfl : _ = o := Option.some.inj ho
        have t30 : ac.tmps[30]? = some (f 8) := hdst 8 30 (by kernel_rfl) (by kernel_rfl)
        have p8 : (IsV (.pointer (some ⟨g, 0, none⟩))) (f 8) ww := hpo 8 (by kernel_rfl)
        refine Or.inl ⟨want0 rfl, ?_⟩
        clear hdst hpo hold ho
        rw [show f 8 = _ from p8] at t30
        obtain ⟨x0, x1⟩ := HA0.out ww hinv
        unfold Ans
        go_simp
        exact ⟨rfl, Below.refl _ _⟩
      | 10, ho =>
        obtain rfl : _ = o := Option.some.inj ho
        have t2 := hold 2 (by kernel_rfl)
        refine Or.inl ⟨want0 rfl, ?_⟩
        clear hdst hpo hold ho
        clear hinv
        unfold Ans
        go_simp
        exact ⟨rfl, Below.refl _ _⟩
      | 11, ho =>
        obtain rfl : _ = o := Option.some.inj ho
        have t31 : ac.tmps[31]? = some (f 9) := hdst 9 31 (by kernel_rfl) (by kernel_rfl)
        have p9 : (IsV (.agg #[.slice ca l.length cc, .slice ta t.length tc])) (f 9) ww := hpo 9 (by kernel_rfl)
        have t32 : ac.tmps[32]? = some (f 10) := hdst 10 32 (by kernel_rfl) (by kernel_rfl)
        have p10 : (IsV (.int .i64 b)) (f 10) ww := hpo 10 (by kernel_rfl)
        refine Or.inl ⟨want0 rfl, ?_⟩
        clear hdst hpo hold ho
        rw [show f 9 = _ from p9] at t31
        rw [show f 10 = _ from p10] at t32
        unfold Ans
        go_simp
        have hU := HU1.out.below hinv
        refine (look_ok ⟨l, t⟩ b HIB.out (fun _ => True) _ _ hU.rep).mono ?_
        rintro e w1 ⟨r, rfl, hb, rfl⟩
        exact ⟨_, rfl, rfl, hb⟩
      | 12, ho =>
        obtain rfl : _ = o := Option.some.inj ho
        have t27 : ac.tmps[27]? = some (f 5) := hdst 5 27 (by kernel_rfl) (by kernel_rfl)
        have p5 : (IsV (.int .i64 (look l a))) (f 5) ww := hpo 5 (by kernel_rfl)
        refine Or.inl ⟨want0 rfl, ?_⟩
        clear hdst hpo hold ho
        rw [show f 5 = _ from p5] at t27
        clear hinv
        unfold Ans
        go_simp
        exact ⟨rfl, Below.refl _ _⟩
      | 13, ho =>
        obtain rfl : _ = o := Option.some.inj ho
        have t33 : ac.tmps[33]? = some (f 11) := hdst 11 33 (by kernel_rfl) (by kernel_rfl)
        have p11 : (IsV (.int .i64 (look l b))) (f 11) ww := hpo 11 (by kernel_rfl)
        refine Or.inl ⟨want0 rfl, ?_⟩
        clear hdst hpo hold ho
        rw [show f 11 = _ from p11] at t33
        clear hinv
        unfold Ans
        go_simp
        exact ⟨rfl, Below.refl _ _⟩
      | i + 14, ho => simp at ho
  · intro f ww hinv hpo
    have p12 : (IsV (.int .i64 (look l a))) (f 12) ww := hpo 12 (by decide)
    have p13 : (IsV (.int .i64 (look l b))) (f 13) ww := hpo 13 (by decide)
    simp only [fillT, List.setIfInBounds_toArray, List.set_cons_succ, List.set_cons_zero]
    rw [show f 12 = _ from p12, show f 13 = _ from p13]
    have HU2 := hid (HU1.out.below hinv)
    have HC2 := hid (show Ch (fun b => b = g) w ww from by subst HW1; exact (ch_box _ _ _ _).then_below hinv)
    have hWz : w.heap.size ≤ ww.heap.size := HC2.out.size
    have hga := look_ge l a
    have hgb := look_ge l b
    obtain ⟨y0, y1, y2, yf⟩ := box3 HU2.out.1
    clear hinv hpo p12 p13 HW1
    by_cases hneg : look l a < 0 ∨ look l b < 0
    · have HR := hid (show uniL (k + 1) [(a, b)] l t = ⟨false, l, t, -1⟩ by rw [uniL_one, if_pos hneg])
      go_wp2_with fail
      all_goals
        go_ret
        rw [HR.out]
        exact ⟨rfl, UStep.of_box (HU2.out.turn (k' := -1) (by decide) (by omega)) (HC2.out.set_box _ _)⟩
    obtain ⟨x, hx, hxl, hcx⟩ := cellAt_eq (look_end (l := l) (a := a) (by omega)).1
    obtain ⟨y, hy, hyl, hcy⟩ := cellAt_eq (look_end (l := l) (a := b) (by omega)).1
    have HONE := hid (uniL_one k a b l t)
    have HNEG := hid hneg
    have HX := hid hx
    have HY := hid hy
    have HCX := hid (show cellAt l (x : Int) = l[x] by rw [← hx]; exact hcx)
    have HCY := hid (show cellAt l (y : Int) = l[y] by rw [← hy]; exact hcy)
    have hokx := HG.out x hxl
    have hoky := HG.out y hyl
    rw [hx, hy]
    have hx0 : (0 : Int) ≤ (x : Int) := Int.natCast_nonneg _
    have hx1 : (x : Int) < (l.length : Int) := by omega
    have hy0 : (0 : Int) ≤ (y : Int) := Int.natCast_nonneg _
    have hy1 : (y : Int) < (l.length : Int) := by omega
    obtain ⟨cb, rfl, hob, c0, c1, c2, hok, -, hcb, -⟩ := OwnC.cell HU2.out.2.1 hxl
    obtain ⟨cb', e, -, d0, d1, d2, hok', -, -, -⟩ := OwnC.cell HU2.out.2.1 hyl
    simp only [Option.some.injEq, Addr.mk.injEq, and_true] at e
    subst e
    have HOB := hid hob
    have hgw : g < ww.heap.size := HU2.out.lt.1
    clear hx hy hcx hcy hneg hga hgb hob
    -- what comes of it, by kinds
    have HALL := hid (show uniL (k + 1) [(a, b)] l t = uniM k l t x y by
      rw [HONE.out, if_neg HNEG.out, HX.out, HY.out])
    go_wp2_with fail
    refine (free_ok _ _ _ _ _ _ _ _ HU2.out x hxl).mono ?_
    rintro e w3 ⟨rfl, rfl⟩
    by_cases hk : l[x].kind = 0
    · rw [hk]
      by_cases hk2 : l[y].kind = 0
      · -- both are free
        have HR := hid (show uniL (k + 1) [(a, b)] l t = if (x : Int) = y then ⟨true, l, t, k⟩ else ⟨true, bindC l (max (x : Int) y) (min (x : Int) y), t ++ [max (x : Int) y], k⟩ by
          rw [HALL.out, uniM, HCX.out, HCY.out, if_pos ⟨hk, hk2⟩])
        go_wp2_with fail
        refine (free_ok _ _ _ _ _ _ _ _ HU2.out y hyl).mono ?_
        rintro e w3 ⟨rfl, rfl⟩
        rw [hk2]
        clear hokx hoky hk hk2 c0 c1 c2 d0 d1 d2
        rcases Nat.lt_trichotomy x y with hxy | hxy | hxy
        · have hxy' : ((x : Int) != (y : Int)) = true := by simp; omega
          have hm1 : max (x : Int) (y : Int) = (y : Int) := by omega
          have hm2 : min (x : Int) (y : Int) = (x : Int) := by omega
          have hres := hid (show uniL (k + 1) [(a, b)] l t = ⟨true, bindC l (y : Int) (x : Int), t ++ [(y : Int)], k⟩ by rw [HR.out, if_neg (by omega), hm1, hm2])
          have HM1 := hid hm1
          have HM2 := hid hm2
          clear hm1 hm2
          go_wp2_with fail
          try rw [HM1.out, HM2.out]
          refine (bind_ok g base _ _ l t (k : Int) ww HU2.out (by omega) y hyl (x : Int) (by unfold I64; omega)).mono ?_
          rintro e w6 ⟨r, rfl, hst⟩
          have HST := hid hst
          clear hst
          go_wp2_with fail
          go_ret
          rw [hres.out]
          exact ⟨rfl, UStep.trans (HC2.out.mono fun x _ e => .inl e) (fun b h => .inl h) HST.out⟩
        · subst hxy
          have hres := hid (show uniL (k + 1) [(a, b)] l t = ⟨true, l, t, k⟩ by rw [HR.out, if_pos rfl])
          go_wp2_with fail
          go_ret
          rw [hres.out]
          exact ⟨rfl, UStep.of_box HU2.out HC2.out⟩
        · have hxy' : ((x : Int) != (y : Int)) = true := by simp; omega
          have hm1 : max (x : Int) (y : Int) = (x : Int) := by omega
          have hm2 : min (x : Int) (y : Int) = (y : Int) := by omega
          have hres := hid (show uniL (k + 1) [(a, b)] l t = ⟨true, bindC l (x : Int) (y : Int), t ++ [(x : Int)], k⟩ by rw [HR.out, if_neg (by omega), hm1, hm2])
          have HM1 := hid hm1
          have HM2 := hid hm2
          clear hm1 hm2
          go_wp2_with fail
          try rw [HM1.out, HM2.out]
          refine (bind_ok g base _ _ l t (k : Int) ww HU2.out (by omega) x hxl (y : Int) (by unfold I64; omega)).mono ?_
          rintro e w6 ⟨r, rfl, hst⟩
          have HST := hid hst
          clear hst
          go_wp2_with fail
          go_ret
          rw [hres.out]
          exact ⟨rfl, UStep.trans (HC2.out.mono fun x _ e => .inl e) (fun b h => .inl h) HST.out⟩
      · have hk2' : (l[y].kind == 0) = false := by simpa using hk2
        have HR := hid (show uniL (k + 1) [(a, b)] l t = (if (inL l (x : Int) k [(y : Int)]).1 = true ∨ (inL l (x : Int) k [(y : Int)]).2 < 0 then ⟨false, l, t, (inL l (x : Int) k [(y : Int)]).2⟩ else ⟨true, bindC l (x : Int) (y : Int), t ++ [(x : Int)], ((min k (inL l (x : Int) k [(y : Int)]).2.toNat : Nat) : Int)⟩) by
          rw [HALL.out, uniM, HCX.out, HCY.out, if_neg (fun h => hk2 h.2), if_pos (.inl hk)]
          simp only [if_neg hk2])
        go_wp2_with fail
        refine (free_ok _ _ _ _ _ _ _ _ HU2.out y hyl).mono ?_
        rintro e w3 ⟨rfl, rfl⟩
        rw [hk2']
        go_wp2_with fail
        refine (free_ok _ _ _ _ _ _ _ _ HU2.out y hyl).mono ?_
        rintro e w3 ⟨rfl, rfl⟩
        rw [hk2']
        go_wp2_with fail
        refine (free_ok _ _ _ _ _ _ _ _ HU2.out x hxl).mono ?_
        rintro e w3 ⟨rfl, rfl⟩
        rw [hk]
        clear hokx hoky hk hk2 hk2' c0 c1 c2 d0 d1 d2
        go_wp2_with fail
        refine (in_ok g base (.slice (some ⟨cb, 0, none⟩) l.length cc) (.slice ta t.length tc) l t (x : Int) (by unfold I64; omega) HG.out k (y : Int) ww (by unfold I64; omega) HU2.out).mono ?_
        rintro e w5 ⟨rfl, hch5, hu5⟩
        have HU5 := hid hu5
        have HC5 := hid (HC2.out.trans hch5 (fun _ h => .inl h))
        obtain ⟨q0, q1, q2, qf⟩ := box3 hu5.1
        have hple := inL_le l (x : Int) k [(y : Int)]
        have htru := inL_true l (x : Int) k [(y : Int)]
        generalize inL l (x : Int) k [(y : Int)] = p at *
        obtain ⟨pf, pw⟩ := p
        simp only at hple htru q0 q1 q2
        obtain ⟨hp1, hp2⟩ := hple
        have HTRU := hid htru
        clear hu5 hch5 htru y0 y1 y2 yf
        cases pf with
        | true =>
          have hpw : 0 ≤ pw := HTRU.out rfl
          have hres := hid (show uniL (k + 1) [(a, b)] l t = ⟨false, l, t, pw⟩ by rw [HR.out, if_pos (.inl rfl)])
          go_wp2_with fail
          go_ret
          rw [hres.out]
          exact ⟨rfl, UStep.of_box HU5.out HC5.out⟩
        | false =>
          by_cases hpw : pw < 0
          · have hres := hid (show uniL (k + 1) [(a, b)] l t = ⟨false, l, t, pw⟩ by rw [HR.out, if_pos (.inr hpw)])
            go_wp2_with fail
            go_ret
            rw [hres.out]
            exact ⟨rfl, UStep.of_box HU5.out HC5.out⟩
          · obtain ⟨pm, rfl⟩ := Int.eq_ofNat_of_zero_le (show 0 ≤ pw by omega)
            have hres := hid (show uniL (k + 1) [(a, b)] l t = ⟨true, bindC l (x : Int) (y : Int), t ++ [(x : Int)], (pm : Int)⟩ by
              rw [HR.out, if_neg (by simp), show min k (pm : Int).toNat = pm by simp; omega])
            go_wp2_with fail
            refine (bind_ok g base _ _ l t (pm : Int) w5 HU5.out (by omega) x hxl (y : Int) (by unfold I64; omega)).mono ?_
            rintro e w6 ⟨r, rfl, hst⟩
            have HST := hid hst
            clear hst q0 q1 q2 qf
            go_wp2_with fail
            go_ret
            rw [hres.out]
            exact ⟨rfl, UStep.trans (HC5.out.mono fun x _ e => .inl e) (fun b h => .inl h) HST.out⟩
    · have hk' : (l[x].kind == 0) = false := by simpa using hk
      rw [hk']
      by_cases hk2 : l[y].kind = 0
      · have HR := hid (show uniL (k + 1) [(a, b)] l t = (if (inL l (y : Int) k [(x : Int)]).1 = true ∨ (inL l (y : Int) k [(x : Int)]).2 < 0 then ⟨false, l, t, (inL l (y : Int) k [(x : Int)]).2⟩ else ⟨true, bindC l (y : Int) (x : Int), t ++ [(y : Int)], ((min k (inL l (y : Int) k [(x : Int)]).2.toNat : Nat) : Int)⟩) by
          rw [HALL.out, uniM, HCX.out, HCY.out, if_neg (fun h => hk h.1), if_pos (.inr hk2)]
          simp only [if_pos hk2])
        go_wp2_with fail
        refine (free_ok _ _ _ _ _ _ _ _ HU2.out y hyl).mono ?_
        rintro e w3 ⟨rfl, rfl⟩
        rw [hk2]
        go_wp2_with fail
        refine (free_ok _ _ _ _ _ _ _ _ HU2.out y hyl).mono ?_
        rintro e w3 ⟨rfl, rfl⟩
        rw [hk2]
        clear hokx hoky hk hk2 hk' c0 c1 c2 d0 d1 d2
        go_wp2_with fail
        refine (in_ok g base (.slice (some ⟨cb, 0, none⟩) l.length cc) (.slice ta t.length tc) l t (y : Int) (by unfold I64; omega) HG.out k (x : Int) ww (by unfold I64; omega) HU2.out).mono ?_
        rintro e w5 ⟨rfl, hch5, hu5⟩
        have HU5 := hid hu5
        have HC5 := hid (HC2.out.trans hch5 (fun _ h => .inl h))
        obtain ⟨q0, q1, q2, qf⟩ := box3 hu5.1
        have hple := inL_le l (y : Int) k [(x : Int)]
        have htru := inL_true l (y : Int) k [(x : Int)]
        generalize inL l (y : Int) k [(x : Int)] = p at *
        obtain ⟨pf, pw⟩ := p
        simp only at hple htru q0 q1 q2
        obtain ⟨hp1, hp2⟩ := hple
        have HTRU := hid htru
        clear hu5 hch5 htru y0 y1 y2 yf
        cases pf with
        | true =>
          have hpw : 0 ≤ pw := HTRU.out rfl
          have hres := hid (show uniL (k + 1) [(a, b)] l t = ⟨false, l, t, pw⟩ by rw [HR.out, if_pos (.inl rfl)])
          go_wp2_with fail
          go_ret
          rw [hres.out]
          exact ⟨rfl, UStep.of_box HU5.out HC5.out⟩
        | false =>
          by_cases hpw : pw < 0
          · have hres := hid (show uniL (k + 1) [(a, b)] l t = ⟨false, l, t, pw⟩ by rw [HR.out, if_pos (.inr hpw)])
            go_wp2_with fail
            go_ret
            rw [hres.out]
            exact ⟨rfl, UStep.of_box HU5.out HC5.out⟩
          · obtain ⟨pm, rfl⟩ := Int.eq_ofNat_of_zero_le (show 0 ≤ pw by omega)
            have hres := hid (show uniL (k + 1) [(a, b)] l t = ⟨true, bindC l (y : Int) (x : Int), t ++ [(y : Int)], (pm : Int)⟩ by
              rw [HR.out, if_neg (by simp), show min k (pm : Int).toNat = pm by simp; omega])
            go_wp2_with fail
            refine (bind_ok g base _ _ l t (pm : Int) w5 HU5.out (by omega) y hyl (x : Int) (by unfold I64; omega)).mono ?_
            rintro e w6 ⟨r, rfl, hst⟩
            have HST := hid hst
            clear hst q0 q1 q2 qf
            go_wp2_with fail
            go_ret
            rw [hres.out]
            exact ⟨rfl, UStep.trans (HC5.out.mono fun x _ e => .inl e) (fun b h => .inl h) HST.out⟩
      · have hk2' : (l[y].kind == 0) = false := by simpa using hk2
        have HR := hid (show uniL (k + 1) [(a, b)] l t = (if l[x] ≠ l[y] then ⟨false, l, t, k⟩ else if l[x].kind = 3 then uniL k ((argsAt (x : Int) l[x].n).zip (argsAt (y : Int) l[x].n)) l t else ⟨true, l, t, k⟩) by
          rw [HALL.out, uniM, HCX.out, HCY.out, if_neg (fun h => hk h.1), if_neg (fun h => h.elim hk hk2)])
        go_wp2_with fail
        refine (free_ok _ _ _ _ _ _ _ _ HU2.out y hyl).mono ?_
        rintro e w3 ⟨rfl, rfl⟩
        rw [hk2']
        go_wp2_with fail
        refine (free_ok _ _ _ _ _ _ _ _ HU2.out x hxl).mono ?_
        rintro e w3 ⟨rfl, rfl⟩
        rw [hk']
        clear hk2 hk2' hk hk'
        go_upto_region 19 with fail
        go_cut [7, 8] (fun u7 u8 wr => ∃ b7 b8, u7 = .pointer (some ⟨b7, 0, none⟩) ∧ u8 = .pointer (some ⟨b8, 0, none⟩) ∧ wr.heap[b7]? = some (.cells #[.int .i64 l[x].kind, .int .i64 l[x].n, .string l[x].s] 71 (0, 0)) ∧ wr.heap[b8]? = some (.cells #[.int .i64 l[y].kind, .int .i64 l[y].n, .string l[y].s] 71 (0, 0)) ∧ Below ww.heap.size ww wr ∧ ww.heap.size ≤ b7 ∧ ww.heap.size ≤ b8)
        case first =>
          go_region
          all_goals
            go_wp2_with fail
            go_meet
            first
              | exact ⟨_, _, rfl, rfl, (heap2 _ _ _).1, (heap2 _ _ _).2, (((Below.refl _ _).alloc (Nat.le_refl _) _).alloc (by simp) _).drew, by omega, by omega⟩
              | exact ⟨_, _, rfl, rfl, (heap2 _ _ _).2, (heap2 _ _ _).1, (((Below.refl _ _).alloc (Nat.le_refl _) _).alloc (by simp) _).drew, by omega, by omega⟩
        case rest =>
          obtain ⟨b7, b8, rfl, rfl, hb7, hb8, hbel, hz7, hz8⟩ := hcut
          have HU3 := hid (HU2.out.below hbel)
          have HC3 := hid (HC2.out.then_below hbel)
          have HB7 := hid hb7
          obtain ⟨p0, p1, p2, pf⟩ := box3 hb7
          obtain ⟨r0, r1, r2, rf⟩ := box3 hb8
          clear hb7 hb8 hbel c0 c1 c2 d0 d1 d2 y0 y1 y2 yf
          by_cases hq : l[x] = l[y]
          case neg =>
            have hres := hid (show uniL (k + 1) [(a, b)] l t = ⟨false, l, t, k⟩ by rw [HR.out, if_pos hq])
            by_cases q1 : l[x].kind = l[y].kind
            · by_cases q2 : l[x].n = l[y].n
              · by_cases q3 : l[x].s.toList = l[y].s.toList
                · exfalso
                  exact hq (Ce.ext' q1 q2 q3)
                · go_wp2_with fail
                  go_ret
                  rw [hres.out]
                  exact ⟨rfl, UStep.of_box HU3.out HC3.out⟩
              · go_wp2_with fail
                go_ret
                rw [hres.out]
                exact ⟨rfl, UStep.of_box HU3.out HC3.out⟩
            · go_wp2_with fail
              go_ret
              rw [hres.out]
              exact ⟨rfl, UStep.of_box HU3.out HC3.out⟩
          case pos =>
            have HQ := hid hq
            rw [← hq] at r0 r1 r2
            clear hq
            by_cases hk3 : l[x].kind = 3
            case neg =>
              have hk3' : (l[x].kind == 3) = false := by simpa using hk3
              have hres := hid (show uniL (k + 1) [(a, b)] l t = ⟨true, l, t, k⟩ by rw [HR.out, if_neg (not_not_intro HQ.out), if_neg hk3])
              clear hk3
              go_wp2_with fail
              go_ret
              rw [hres.out]
              exact ⟨rfl, UStep.of_box HU3.out HC3.out⟩
            case pos =>
              have hn : 1 ≤ l[x].n ∧ l[x].n ≤ 4 ∧ (x : Int) + l[x].n < l.length := by
                unfold Ce.OkAt at hokx
                omega
              have hn2 : (y : Int) + l[x].n < l.length := by
                rw [← HQ.out] at hoky
                unfold Ce.OkAt at hoky
                omega
              obtain ⟨hn1, hn4, hnl⟩ := hn
              obtain ⟨nn, hnn⟩ := Int.eq_ofNat_of_zero_le (show 0 ≤ l[x].n by omega)
              have hres := hid (show uniL (k + 1) [(a, b)] l t = uniL k ((argsAt (x : Int) (nn : Int)).zip (argsAt (y : Int) (nn : Int))) l t by rw [HR.out, if_neg (not_not_intro HQ.out), if_pos hk3, hnn])
              have hb7 := HB7.out
              rw [hk3, hnn] at hb7
              have HB7' := hid hb7
              rw [hnn] at p1 r1 hn1 hn4 hnl hn2
              rw [hk3] at p0 r0
              have hpl : ((argsAt (x : Int) (nn : Int)).zip (argsAt (y : Int) (nn : Int))).length = nn := by simp [argsAt]
              have hpg : ∀ j (hj : j < ((argsAt (x : Int) (nn : Int)).zip (argsAt (y : Int) (nn : Int))).length), ((argsAt (x : Int) (nn : Int)).zip (argsAt (y : Int) (nn : Int)))[j] = ((x : Int) + 1 + (j : Int), (y : Int) + 1 + (j : Int)) := fun j hj => by
                rw [List.getElem_zip, argsAt_get, argsAt_get]
              generalize (argsAt (x : Int) (nn : Int)).zip (argsAt (y : Int) (nn : Int)) = ps at hres hpl hpg
              have HPL := hid hpl
              have HPG := hid hpg
              have hn4' : nn ≤ 4 := by omega
              clear hk3 hnn hpl hpg hb7 HB7 hokx hoky
              go_wp2_with fail
              clear p0 p1 p2 pf r0 r1 r2 rf
              go_loopw [9] (fun i wr => ∃ (j m : Nat) (lj : List Ce) (tj : List Int) (tvj : Value), j ≤ nn ∧ i = .int .i64 ((j : Int) + 1) ∧ m ≤ k ∧ uniL k (ps.take j) l t = ⟨true, lj, tj, (m : Int)⟩ ∧ GoodC lj ∧
                  UInv g base (.slice (some ⟨cb, 0, none⟩) l.length cc) tvj lj tj m wr ∧ Ch (UM g (.slice (some ⟨cb, 0, none⟩) l.length cc) (.slice ta t.length tc)) w wr ∧ (∀ b, ownB tvj = some b → ownB (.slice ta t.length tc) = some b ∨ w.heap.size ≤ b) ∧
                  wr.heap[b7]? = some (.cells #[.int .i64 3, .int .i64 (nn : Int), .string l[x].s] 71 (0, 0))) (fun i _ => nn + 1 - (intOf i).toNat)
              case atStart => exact ⟨0, k, l, t, _, Nat.zero_le _, rfl, Nat.le_refl _, by rw [List.take_zero, uniL_nil], HG.out, HU3.out, HC3.out.mono (fun x _ e => .inl e), fun b h => .inl h, HB7'.out⟩
              case round =>
                obtain ⟨j, m, lj, tj, tvj, hj, rfl, hm, htk, hgj, hu, hch, htv, hbx⟩ := hrel
                have HTK := hid htk
                have HGJ := hid hgj
                have HU4 := hid hu
                have HC4 := hid hch
                have HTV := hid htv
                have HB4 := hid hbx
                obtain ⟨z0, z1, z2, zf⟩ := box3 hbx
                clear htk hgj hu hch htv hbx
                by_cases hlt : j < nn
                · have hja : j < ps.length := by rw [HPL.out]; exact hlt
                  have hnext : ps.take (j + 1) = ps.take j ++ [((x : Int) + 1 + (j : Int), (y : Int) + 1 + (j : Int))] := by
                    rw [List.take_succ_eq_append_getElem hja, HPG.out]
                  have hsplit : ps = ps.take (j + 1) ++ ps.drop (j + 1) := (List.take_append_drop _ _).symm
                  have HNX := hid (show uniL k (ps.take (j + 1)) l t = uniL m [((x : Int) + 1 + (j : Int), (y : Int) + 1 + (j : Int))] lj tj by
                    rw [hnext, uniL_app, HTK.out, if_pos rfl]
                    simp)
                  have HSP := hid (show (uniL m [((x : Int) + 1 + (j : Int), (y : Int) + 1 + (j : Int))] lj tj).ok = false → uniL k ps l t = uniL m [((x : Int) + 1 + (j : Int), (y : Int) + 1 + (j : Int))] lj tj by
                    intro hf
                    conv => lhs; rw [hsplit]
                    rw [uniL_app, HNX.out, if_neg (by rw [hf]; simp)])
                  clear hsplit hnext hja
                  go_wp2_with fail
                  rw [show (x : Int) + ((j : Int) + 1) = (x : Int) + 1 + (j : Int) by omega, show (y : Int) + ((j : Int) + 1) = (y : Int) + 1 + (j : Int) by omega]
                  refine (IH.out m hm _ tvj lj tj ((x : Int) + 1 + (j : Int)) ((y : Int) + 1 + (j : Int)) wr HGJ.out (by unfold I64; omega) (by unfold I64; omega) HU4.out).mono ?_
                  rintro e w5 ⟨rfl, tv5, hu5, hch5, htv5⟩
                  have hb5 := (hch5.block b7 (blk_lt HB4.out) (fun h => by
                    rcases h with h | h | h
                    · omega
                    · have := Option.some.inj (HOB.out.symm.trans h); omega
                    · exact OwnF.ne_box HU4.out.2.2.1 HB4.out (by decide) h)).trans HB4.out
                  have hch6 : Ch (UM g (.slice (some ⟨cb, 0, none⟩) l.length cc) (.slice ta t.length tc)) w w5 := HC4.out.trans hch5 (fun b h => by
                    rcases h with h | h | h
                    · exact .inl (.inl h)
                    · exact .inl (.inr (.inl h))
                    · rcases HTV.out b h with h' | h'
                      · exact .inl (.inr (.inr h'))
                      · exact .inr h')
                  have hwr : w.heap.size ≤ wr.heap.size := HC4.out.size
                  have htv6 : ∀ b, ownB tv5 = some b → ownB (.slice ta t.length tc) = some b ∨ w.heap.size ≤ b := fun b h => by
                    rcases htv5 b h with h' | h'
                    · exact HTV.out b h'
                    · exact .inr (by omega)
                  have hwork := uniL_work m [((x : Int) + 1 + (j : Int), (y : Int) + 1 + (j : Int))] lj tj
                  have hbnd := uniL_bound m [((x : Int) + 1 + (j : Int), (y : Int) + 1 + (j : Int))] lj tj
                  generalize uniL m [((x : Int) + 1 + (j : Int), (y : Int) + 1 + (j : Int))] lj tj = u at *
                  obtain ⟨ok, lu, tu, wu⟩ := u
                  simp only at hwork hbnd hu5
                  have HB5 := hid hb5
                  have HC6 := hid hch6
                  have HTV6 := hid htv6
                  have HU5 := hid hu5
                  have HWK := hid hwork
                  have HBND := hid hbnd
                  clear hu5 hch5 htv5 hb5 hch6 htv6 hwork hbnd z0 z1 z2 zf
                  cases ok with
                  | false =>
                    have hres2 := hid (hres.out.trans (HSP.out rfl))
                    go_wp2_with fail
                    go_ret
                    rw [hres2.out]
                    exact ⟨rfl, tv5, HU5.out, HC6.out, HTV6.out⟩
                  | true =>
                    obtain ⟨k1, k2, k3⟩ := HWK.out
                    have k4 := k3 rfl
                    obtain ⟨mm, rfl⟩ := Int.eq_ofNat_of_zero_le k4
                    obtain ⟨vs, -, hvb, -⟩ := HBND.out rfl
                    have HGU := hid (hvb.good HGJ.out)
                    have hmm : mm ≤ k := by omega
                    clear k1 k2 k3 k4 hvb
                    go_wp2_with fail
                    go_roundw
                    case rel => exact ⟨j + 1, mm, lu, tu, tv5, by omega, by go_num, hmm, HNX.out, HGU.out, HU5.out, HC6.out, HTV6.out, HB5.out⟩
                    case measure => simp [intOf]; omega
                · have hje : j = nn := by omega
                  have hres2 := hid (show uniL (k + 1) [(a, b)] l t = ⟨true, lj, tj, (m : Int)⟩ by
                    have := HTK.out
                    rw [List.take_of_length_le (by rw [HPL.out]; omega)] at this
                    rw [hres.out, this])
                  clear hje
                  go_wp2_with fail
                  go_ret
                  rw [hres2.out]
                  exact ⟨rfl, tvj, HU4.out, HC4.out, HTV.out⟩
theorem unify_ok (g base : Nat) : ∀ k, UniOK g base k := by
  intro k
  induction k using Nat.strongRecOn with
  | _ k ih =>
    cases k with
    | zero => exact unify_zero g base
    | succ k => exact unify_succ g base k fun m hm => ih m (by omega)
end Go.Proofs.Ytlpmfkpefoegeab
