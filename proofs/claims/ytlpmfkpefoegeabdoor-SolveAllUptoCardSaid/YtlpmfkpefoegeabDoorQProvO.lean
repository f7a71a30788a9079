/-
  The document's prover: one.
-/
import Derived.Test.YtlpmfkpefoegeabDoorQProvM
import Derived.Test.YtlpmfkpefoegeabDoorQProvN
import Derived.Test.YtlpmfkpefoegeabDoorQProvK
import Derived.Deep.CutRange
namespace Go.Proofs.YtlpmfkpefoegeabDoor
set_option linter.unusedVariables false
set_option linter.unusedSimpArgs false
open Go.RowKit
set_option maxRecDepth 100000 in
set_option maxHeartbeats 80000000 in
theorem one_ok {E : Env} {N : Int} (hE : EnvOk N E) (a b : Tm) (ha : a.In N) (hb : b.In N) (A : Nat → Prop) (w : World) (ev : Value) (us vs : List Value) (he : EnvQ A w E.reverse ev) (hu : Tm.rep A w a us) (hv : Tm.rep A w b vs) :
    Calls Tryd.prog 96 #[ev, .agg us.toArray, .agg vs.toArray] w (OnePost A w (uniS 400 [(a, b)] E)) := by
  have HE := hid hE
  have HAI := hid ha
  have HBI := hid hb
  obtain ⟨aa, aca, rfl, -⟩ := Tm.rep4 hu
  obtain ⟨ba, bca, rfl, -⟩ := Tm.rep4 hv
  have HQ := hid he
  have HU := hid hu
  have HV := hid hv
  obtain ⟨ep, rfl⟩ := he.ptr
  have hcs := cell_set
  clear hE ha hb he hu hv
  go_enter Tryd.func96, Tryd.ntmps96
  go_wp2_with fail
  obtain ⟨W2, hW2⟩ : ∃ W2, W2 = (w.alloc (.cells #[.int .i64 a.kind, .int .i64 a.n, .string a.s, .slice aa a.args.length aca] 31)).alloc (.cells #[.int .i64 b.kind, .int .i64 b.n, .string b.s, .slice ba b.args.length bca] 31) := ⟨_, rfl⟩
  have HB2 := hid (show Below w.heap.size w W2 by rw [hW2]; exact ((Below.refl _ _).alloc (Nat.le_refl _) _).alloc (by simp) _)
  have hs2 : W2.heap.size = w.heap.size + 2 := by rw [hW2]; simp
  have HOW := hid (own_oneP (E := 180) (size := 8) (A := fun b => A b ∨ w.heap.size ≤ b) (w := W2) (x := (a, b)) (us := [.int .i64 a.kind, .int .i64 a.n, .string a.s, .slice aa a.args.length aca, .int .i64 b.kind, .int .i64 b.n, .string b.s, .slice ba b.args.length bca]) pairT_lasts ⟨[.int .i64 a.kind, .int .i64 a.n, .string a.s, .slice aa a.args.length aca], [.int .i64 b.kind, .int .i64 b.n, .string b.s, .slice ba b.args.length bca], rfl, Tm.rep_lasts.1 _ _ _ _ _ (Tm.rep_lasts.2.1 _ (fun b => (A b ∨ w.heap.size ≤ b) ∧ b ≠ W2.heap.size) _ _ _ HU.out (fun b hb h => ⟨.inl h, by omega⟩)) (Keeps.of_below HB2.out), Tm.rep_lasts.1 _ _ _ _ _ (Tm.rep_lasts.2.1 _ (fun b => (A b ∨ w.heap.size ≤ b) ∧ b ≠ W2.heap.size) _ _ _ HV.out (fun b hb h => ⟨.inl h, by omega⟩)) (Keeps.of_below HB2.out)⟩ rfl (w.heap.size) (by omega))
  have HBw0 := hid (HB2.out.alloc (by omega) (.cells #[.int .i64 a.kind, .int .i64 a.n, .string a.s, .slice aa a.args.length aca, .int .i64 b.kind, .int .i64 b.n, .string b.s, .slice ba b.args.length bca] 180))
  have HQ0 := hid (show EnvQ (fun b => (A b ∨ w.heap.size ≤ b) ∧ ownB (.slice (some ⟨W2.heap.size, 0, none⟩) 1 1) ≠ some b) (W2.alloc (.cells #[.int .i64 a.kind, .int .i64 a.n, .string a.s, .slice aa a.args.length aca, .int .i64 b.kind, .int .i64 b.n, .string b.s, .slice ba b.args.length bca] 180)) E.reverse (.pointer ep) from (EnvQ.mono HQ.out (A' := fun b => (A b ∨ w.heap.size ≤ b) ∧ ownB (.slice (some ⟨W2.heap.size, 0, none⟩) 1 1) ≠ some b) (fun b hb h => ⟨.inl h, by simp [ownB]; omega⟩)).keeps (Keeps.of_below HBw0.out))
  rw [show W2.heap.size = w.heap.size + 1 + 1 by omega] at HOW HQ0
  rw [← hW2]
  clear hW2
  go_loopw [10, 9, 0] (fun lv kv ee wr => ∃ (k : Nat) (s : List (Tm × Tm)) (E1 : Env), kv = .int .i64 (k : Int) ∧ k ≤ 400 ∧ Below w.heap.size w wr ∧ OwnR wr w.heap.size 180 8 pairT (fun b => A b ∨ w.heap.size ≤ b) s.reverse lv ∧ EnvQ (fun b => (A b ∨ w.heap.size ≤ b) ∧ ownB lv ≠ some b) wr E1.reverse ee ∧ EnvOk N E1 ∧ (∀ p ∈ s, p.1.In N ∧ p.2.In N) ∧ s.length + 4 * k ≤ 1601 ∧ uniS 400 [(a, b)] E = uniS k s E1) (fun lv kv ee _ => (intOf kv).toNat)
  case atStart => exact ⟨400, [(a, b)], E, rfl, Nat.le_refl _, HBw0.out, HOW.out, HQ0.out, HE.out, by intro p hp; simp only [List.mem_singleton] at hp; subst hp; exact ⟨HAI.out, HBI.out⟩, by simp, rfl⟩
  case round =>
    obtain ⟨wo, rfl⟩ : ∃ wo : World, wo = wr := ⟨_, rfl⟩
    obtain ⟨k, s, E1, rfl, hk400, hbw, hown, henv, heok, hsin, hsl, huni⟩ := hrel
    have HBW := hid hbw
    have HOWN := hid hown
    have HENV := hid henv
    have HEOK := hid heok
    have HSIN := hid hsin
    have HUNI := hid huni
    have hzo := hbw.size
    obtain ⟨la, lc, rfl, hlc, hlm⟩ := OwnR.val' hown
    obtain ⟨eq, rfl⟩ := henv.ptr
    have hk0 : (0 : Int) ≤ (k : Int) := Int.natCast_nonneg _
    have hk4 : (k : Int) ≤ 400 := by omega
    unfold maxLen at hlm
    simp only [List.length_reverse] at hlc
    clear hbw hown henv heok hsin huni
    cases s with
    | nil =>
      have hres := hid (show uniS 400 [(a, b)] E = ⟨true, E1, (k : Int)⟩ by rw [HUNI.out, uniS_nil])
      rw [List.reverse_nil, List.length_nil]
      go_wp2_with fail
      go_ret3
      rw [hres.out]
      exact ⟨_, rfl, HBW.out, HENV.out.mono (fun b _ h => h.1)⟩
    | cons p s1 =>
      obtain ⟨x0, y0⟩ := p
      have hOR' : OwnR wo w.heap.size 180 8 pairT (fun b => A b ∨ w.heap.size ≤ b) (s1.reverse ++ [(x0, y0)]) (.slice la (s1.reverse ++ [(x0, y0)]).length lc) := by simpa using HOWN.out
      obtain ⟨lb, ws, rfl, hwl, hpr, hrow, hlbl, hlcap, hlob⟩ := hOR'.row (by omega) (i := s1.length) (by simp)
      have hidx : (s1.reverse ++ [(x0, y0)])[s1.length]'(by simp) = (x0, y0) := by
        rw [List.getElem_append_right (by simp)]; simp
      rw [hidx] at hpr
      obtain ⟨u1, u2, rfl, hp1, hp2⟩ := hpr
      obtain ⟨pa1, pc1, rfl, -⟩ := Tm.rep4 hp1
      obtain ⟨pa2, pc2, rfl, -⟩ := Tm.rep4 hp2
      have c0 := hrow 0 _ rfl
      have c1 := hrow 1 _ rfl
      have c2 := hrow 2 _ rfl
      have c3 := hrow 3 _ rfl
      have c4 := hrow 4 _ rfl
      have c5 := hrow 5 _ rfl
      have c6 := hrow 6 _ rfl
      have c7 := hrow 7 _ rfl
      simp only [Nat.add_zero] at hp1 hp2 c0 c1 c2 c3 c4 c5 c6 c7
      have hlbl2 := World.block_lt_of_cell? wo _ c0
      simp only at hlbl2
      have HP1 := hid hp1
      have HP2 := hid hp2
      have HTK := hid (show OwnR wo w.heap.size 180 8 pairT (fun b => A b ∨ w.heap.size ≤ b) s1.reverse (.slice (some ⟨lb, 0, none⟩) s1.length lc) by
        have := hOR'.take (k := s1.length) (by simp)
        rwa [List.take_left' (by simp)] at this)
      have HLB := hid (show w.heap.size ≤ lb ∧ lb < wo.heap.size by
        have := hOR'.lt lb hlob
        exact this)
      have hlen1 : (s1.reverse ++ [(x0, y0)]).length = s1.length + 1 := by simp
      have hlen2 : ((x0, y0) :: s1).reverse.length = s1.length + 1 := by simp
      rw [hlen2]
      have hs0 : (0 : Int) ≤ (s1.length : Int) := Int.natCast_nonneg _
      have hs1 : (s1.length : Int) < ((s1.length + 1 : Nat) : Int) := by omega
      have hs2 : ((s1.length + 1 : Nat) : Int) - 1 = (s1.length : Int) := by omega
      have hs3 : (s1.length : Int) ≤ (lc : Int) := by rw [hlen1] at hlcap; omega
      have hslb : s1.length ≤ 1700 := by simp only [List.length_cons] at hsl; omega
      have hsgt : (0 : Int) < ((s1.length + 1 : Nat) : Int) := by omega
      clear hOR' hrow hp1 hp2 hwl hlob hidx
      cases k with
      | zero =>
        have hres := hid (show uniS 400 [(a, b)] E = ⟨false, E1, -1⟩ by rw [HUNI.out, uniS_zero])
        rw [show ((0 : Nat) : Int) = 0 from rfl]
        go_wp2_with fail
        go_ret3
        rw [hres.out]
        exact ⟨_, rfl, HBW.out.alloc hzo _, (HENV.out.mono (fun b _ h => h.1)).keeps (Keeps.alloc _ _ _)⟩
      | succ k =>
        rw [show ((k + 1 : Nat) : Int) = (k : Int) + 1 by omega]
        have hkk0 : (0 : Int) ≤ (k : Int) := Int.natCast_nonneg _
        have hkk4 : (k : Int) ≤ 399 := by omega
        have hlc0 : lc ≠ 0 := by rw [hlen1] at hlcap; omega
        have HEB := hid (HENV.out.mono (A' := fun b => (A b ∨ w.heap.size ≤ b) ∧ b ≠ lb ∧ b < wo.heap.size) (fun b hb h => ⟨h.1, fun e => h.2 (by subst e; simp [ownB]; omega), hb⟩))
        have HPB1 := hid (Tm.rep_lasts.2.1 _ (fun b => (A b ∨ w.heap.size ≤ b) ∧ b ≠ lb ∧ b < wo.heap.size) _ _ _ HP1.out (fun b hb h => ⟨h.1, fun e => h.2 (by subst e; simp [ownB]; omega), hb⟩))
        have HPB2 := hid (Tm.rep_lasts.2.1 _ (fun b => (A b ∨ w.heap.size ≤ b) ∧ b ≠ lb ∧ b < wo.heap.size) _ _ _ HP2.out (fun b hb h => ⟨h.1, fun e => h.2 (by subst e; simp [ownB]; omega), hb⟩))
        have HXI := hid (HSIN.out (x0, y0) (by simp)).1
        have HYI := hid (HSIN.out (x0, y0) (by simp)).2
        have HS1 := hid (fun p hp => HSIN.out p (List.mem_cons_of_mem _ hp))
        have hsl1 : s1.length + 4 * k ≤ 1596 := by simp only [List.length_cons] at hsl; omega
        have HUN1 := hid HUNI.out
        go_wp2_with fail
        obtain ⟨W3, hW3⟩ : ∃ W3, W3 = wo.alloc (.cells #[.int .i64 x0.kind, .int .i64 x0.n, .string x0.s, .slice pa1 x0.args.length pc1, .int .i64 y0.kind, .int .i64 y0.n, .string y0.s, .slice pa2 y0.args.length pc2] 180) := ⟨_, rfl⟩
        have HB3 := hid (show Below wo.heap.size wo W3 by rw [hW3]; exact (Below.refl _ _).alloc (Nat.le_refl _) _)
        have hx3 : W3.heap[wo.heap.size]? = some (.cells #[.int .i64 x0.kind, .int .i64 x0.n, .string x0.s, .slice pa1 x0.args.length pc1, .int .i64 y0.kind, .int .i64 y0.n, .string y0.s, .slice pa2 y0.args.length pc2] 180 (0, 0)) := by rw [hW3]; exact blk_new _ _
        obtain ⟨pb, hpb⟩ : ∃ pb, pb = wo.heap.size := ⟨_, rfl⟩
        rw [← hpb] at hx3
        rw [← hW3]
        try rw [← hpb]
        have HX3 := hid hx3
        have HBw3 := hid (HBW.out.trans (HB3.out.mono hzo))
        have HA0 := hid (fun (w' : World) (hb : Below W3.heap.size W3 w') => blk8 (blk_below hx3 hb))
        have HEL := hid (fun (w' : World) (hb : Below W3.heap.size W3 w') (z : Tm) (vs : List Value) (hz : z.In N) (hr : Tm.rep (fun b => (A b ∨ w.heap.size ≤ b) ∧ b ≠ lb ∧ b < wo.heap.size) wo z vs) => elook_ok HEOK.out z hz _ w' _ vs (HEB.out.keeps (Keeps.of_below (HB3.out.trans (hb.mono HB3.out.size)))) (Tm.rep_lasts.1 _ _ _ _ _ hr (Keeps.of_below (HB3.out.trans (hb.mono HB3.out.size)))))
        have hz3 := HB3.out.size
        clear hW3 hpb hx3 c0 c1 c2 c3 c4 c5 c6 c7
        go_wp2_with fail
        refine wp_region_front4 10 (fun _ => false) 8 (D := fun k v u _ => k = 9 → v ≠ u) (Inv := fun w' => Below W3.heap.size W3 w') (Po := posts [IsV (.pointer eq), IsV (.pointer (some ⟨pb, 0, none⟩)), IsV (.agg #[.int .i64 x0.kind, .int .i64 x0.n, .string x0.s, .slice pa1 x0.args.length pc1]), IsTA1 (fun b => (A b ∨ w.heap.size ≤ b) ∧ b ≠ lb ∧ b < wo.heap.size) (slook E1 x0), IsV (.pointer eq), IsV (.pointer (some ⟨pb, 4, none⟩)), IsV (.agg #[.int .i64 y0.kind, .int .i64 y0.n, .string y0.s, .slice pa2 y0.args.length pc2]), IsTA1 (fun b => (A b ∨ w.heap.size ≤ b) ∧ b ≠ lb ∧ b < wo.heap.size) (slook E1 y0), IsTB1 W3.heap.size, IsTB1 W3.heap.size]) (Rl := fun w w' => Below w.heap.size w w') (by kernel_rfl) ⟨by decide, rfl⟩ (fun p v u w hp => by cases hp) (fun _ _ _ _ _ h _ => h) (by kernel_rfl) (by kernel_rfl) (fun _ _ _ _ h => h) (by kernel_rfl) (by kernel_rfl) ((Below.refl _ _).drew) ?_ ?_ ?_ ?_ ?_
        · refine posts_stay fun R hR => ?_
          simp only [List.mem_cons, List.not_mem_nil, or_false] at hR
          rcases hR with rfl | rfl | rfl | rfl | rfl | rfl | rfl | rfl | rfl | rfl <;> first | exact stays_V _ | exact stays_TA1 _ _ | exact stays_TB1 _
        · exact fun w1 w2 h h' => h.trans (h'.mono h.size)
        · intro i o ho hps; cases hps
        · intro i o ho hps f ac ww hinv hpo hdst hold
          clear hps
          match i, ho with
          | 0, ho =>
            obtain rfl : _ = o := Option.some.inj ho
            have t0 := hold 0 (by kernel_rfl)
            refine Or.inl ⟨want0 rfl, ?_⟩
            clear hdst hpo hold ho
            clear hinv
            unfold Ans
            go_simp
            exact ⟨rfl, Below.refl _ _⟩
          | 1, ho =>
            obtain rfl : _ = o := Option.some.inj ho
            have t11 := hold 11 (by kernel_rfl)
            refine Or.inl ⟨want0 rfl, ?_⟩
            clear hdst hpo hold ho
            clear hinv
            unfold Ans
            go_simp
            exact ⟨rfl, Below.refl _ _⟩
          | 2, ho =>
            obtain rfl : _ = o := Option.some.inj ho
            have t43 : ac.tmps[43]? = some (f 1) := hdst 1 43 (by kernel_rfl) (by kernel_rfl)
            have p1 : (IsV (.pointer (some ⟨pb, 0, none⟩))) (f 1) ww := hpo 1 (by kernel_rfl)
            refine Or.inl ⟨want0 rfl, ?_⟩
            clear hdst hpo hold ho
            rw [show f 1 = _ from p1] at t43
            obtain ⟨m0, m1, m2, m3, m4, m5, m6, m7, -⟩ := HA0.out ww hinv
            unfold Ans
            go_simp
            exact ⟨rfl, Below.refl _ _⟩
          | 3, ho =>
            obtain rfl : _ = o := Option.some.inj ho
            have t42 : ac.tmps[42]? = some (f 0) := hdst 0 42 (by kernel_rfl) (by kernel_rfl)
            have p0 : (IsV (.pointer eq)) (f 0) ww := hpo 0 (by kernel_rfl)
            have t44 : ac.tmps[44]? = some (f 2) := hdst 2 44 (by kernel_rfl) (by kernel_rfl)
            have p2 : (IsV (.agg #[.int .i64 x0.kind, .int .i64 x0.n, .string x0.s, .slice pa1 x0.args.length pc1])) (f 2) ww := hpo 2 (by kernel_rfl)
            refine Or.inl ⟨want0 rfl, ?_⟩
            clear hdst hpo hold ho
            rw [show f 0 = _ from p0] at t42
            rw [show f 2 = _ from p2] at t44
            unfold Ans
            go_simp
            refine (HEL.out ww hinv x0 [_, _, _, _] HXI.out HPB1.out).mono ?_
            rintro e w1 ⟨v, rfl, hb1, hv⟩
            exact ⟨_, rfl, hv, hb1⟩
          | 4, ho =>
            obtain rfl : _ = o := Option.some.inj ho
            have t0 := hold 0 (by kernel_rfl)
            refine Or.inl ⟨want0 rfl, ?_⟩
            clear hdst hpo hold ho
            clear hinv
            unfold Ans
            go_simp
            exact ⟨rfl, Below.refl _ _⟩
          | 5, ho =>
            obtain rfl : _ = o := Option.some.inj ho
            have t11 := hold 11 (by kernel_rfl)
            refine Or.inl ⟨want0 rfl, ?_⟩
            clear hdst hpo hold ho
            clear hinv
            unfold Ans
            go_simp
            exact ⟨rfl, Below.refl _ _⟩
          | 6, ho =>
            obtain rfl : _ = o := Option.some.inj ho
            have t47 : ac.tmps[47]? = some (f 5) := hdst 5 47 (by kernel_rfl) (by kernel_rfl)
            have p5 : (IsV (.pointer (some ⟨pb, 4, none⟩))) (f 5) ww := hpo 5 (by kernel_rfl)
            refine Or.inl ⟨want0 rfl, ?_⟩
            clear hdst hpo hold ho
            rw [show f 5 = _ from p5] at t47
            obtain ⟨m0, m1, m2, m3, m4, m5, m6, m7, -⟩ := HA0.out ww hinv
            unfold Ans
            go_simp
            exact ⟨rfl, Below.refl _ _⟩
          | 7, ho =>
            obtain rfl : _ = o := Option.some.inj ho
            have t46 : ac.tmps[46]? = some (f 4) := hdst 4 46 (by kernel_rfl) (by kernel_rfl)
            have p4 : (IsV (.pointer eq)) (f 4) ww := hpo 4 (by kernel_rfl)
            have t48 : ac.tmps[48]? = some (f 6) := hdst 6 48 (by kernel_rfl) (by kernel_rfl)
            have p6 : (IsV (.agg #[.int .i64 y0.kind, .int .i64 y0.n, .string y0.s, .slice pa2 y0.args.length pc2])) (f 6) ww := hpo 6 (by kernel_rfl)
            refine Or.inl ⟨want0 rfl, ?_⟩
            clear hdst hpo hold ho
            rw [show f 4 = _ from p4] at t46
            rw [show f 6 = _ from p6] at t48
            unfold Ans
            go_simp
            refine (HEL.out ww hinv y0 [_, _, _, _] HYI.out HPB2.out).mono ?_
            rintro e w1 ⟨v, rfl, hb1, hv⟩
            exact ⟨_, rfl, hv, hb1⟩
          | 8, ho =>
            obtain rfl : _ = o := Option.some.inj ho
            refine Or.inl ⟨want0 rfl, ?_⟩
            clear hdst hpo hold ho
            unfold Ans
            go_simp
            refine ⟨⟨_, rfl, hinv.size, blk_new _ _⟩, (Below.refl _ _).alloc (Nat.le_refl _) _, fun k u hu hk => ?_⟩
            subst hk
            obtain ⟨gg, rfl, -, hgg⟩ := (show IsTB1 W3.heap.size u ww from hu)
            have := blk_lt hgg
            intro e
            simp only [Value.pointer.injEq, Option.some.injEq, Addr.mk.injEq] at e
            omega
          | 9, ho =>
            obtain rfl : _ = o := Option.some.inj ho
            refine Or.inl ⟨want0 rfl, ?_⟩
            clear hdst hpo hold ho
            unfold Ans
            go_simp
            refine ⟨⟨_, rfl, hinv.size, blk_new _ _⟩, (Below.refl _ _).alloc (Nat.le_refl _) _, fun u hu _ => ?_⟩
            obtain ⟨gg, rfl, -, hgg⟩ := (show IsTB1 W3.heap.size u ww from hu)
            have := blk_lt hgg
            intro e
            simp only [Value.pointer.injEq, Option.some.injEq, Addr.mk.injEq] at e
            omega
          | i + 10, ho => simp at ho
        · intro f ww hinv hpo hD
          have p3 : (IsTA1 (fun b => (A b ∨ w.heap.size ≤ b) ∧ b ≠ lb ∧ b < wo.heap.size) (slook E1 x0)) (f 3) ww := hpo 3 (by decide)
          have p7 : (IsTA1 (fun b => (A b ∨ w.heap.size ≤ b) ∧ b ≠ lb ∧ b < wo.heap.size) (slook E1 y0)) (f 7) ww := hpo 7 (by decide)
          have p8 : (IsTB1 W3.heap.size) (f 8) ww := hpo 8 (by decide)
          have p9 : (IsTB1 W3.heap.size) (f 9) ww := hpo 9 (by decide)
          have hD9 : f 9 ≠ f 8 := hD 9 (by decide) (by decide) rfl
          obtain ⟨us3, e3, hr3⟩ := p3
          obtain ⟨us7, e7, hr7⟩ := p7
          obtain ⟨b7, e8, hg7, hx7⟩ := p8
          obtain ⟨b8, e9, hg8, hx8⟩ := p9
          rw [e8, e9] at hD9
          have hne : b8 ≠ b7 := fun e => hD9 (by rw [e])
          have hne' : b7 ≠ b8 := fun e => hne e.symm
          have e0 := (show f 0 = _ from hpo 0 (by decide))
          have e1 := (show f 1 = _ from hpo 1 (by decide))
          have e2 := (show f 2 = _ from hpo 2 (by decide))
          have e4 := (show f 4 = _ from hpo 4 (by decide))
          have e5 := (show f 5 = _ from hpo 5 (by decide))
          have e6 := (show f 6 = _ from hpo 6 (by decide))
          simp only [fillT, List.take_succ_cons, List.take_zero, List.setIfInBounds_toArray, List.set_cons_succ, List.set_cons_zero]
          rw [e0, e1, e2, e3, e4, e5, e6, e7, e8, e9]
          have HXL := hid (slook_in HEOK.out HXI.out)
          have HYL := hid (slook_in HEOK.out HYI.out)
          have HXF := hid (slook_free HEOK.out HXI.out)
          have HYF := hid (slook_free HEOK.out HYI.out)
          have HU9 := hid (HUN1.out.trans (uniS_succ k x0 y0 s1 E1))
          clear e0 e1 e2 e3 e4 e5 e6 e7 e8 e9 hD9 hpo hD
          generalize slook E1 x0 = x at *
          generalize slook E1 y0 = y at *
          obtain ⟨xa, xc, rfl, -⟩ := Tm.rep4 hr3
          obtain ⟨ya, yc, rfl, -⟩ := Tm.rep4 hr7
          have HINV := hid hinv
          obtain ⟨m0, m1, m2, m3, mf⟩ := blk4 hx7
          obtain ⟨n0, n1, n2, n3, nf⟩ := blk4 hx8
          have hb7l := blk_lt hx7
          have hb8l := blk_lt hx8
          have HX7 := hid hx7
          have HX8 := hid hx8
          have HR3 := hid hr3
          have HR7 := hid hr7
          clear hinv hr3 hr7 hx7 hx8
          refine wpAny_only (i := 10) (by kernel_rfl) (wpOp_run rfl (by rfl) ?_)
          go_simp
          refine wpAny_only (i := 11) (by kernel_rfl) (wpOp_run rfl (by rfl) ?_)
          go_simp
          refine wpAny_all (by kernel_rfl) ?_ _
          have HX7' := hid (show ((((((((ww.setCell ⟨b7, 0, none⟩ (.int .i64 x.kind)).setCell ⟨b7, 1, none⟩ (.int .i64 x.n)).setCell ⟨b7, 2, none⟩ (.string x.s)).setCell ⟨b7, 3, none⟩ (.slice xa x.args.length xc)).setCell ⟨b8, 0, none⟩ (.int .i64 y.kind)).setCell ⟨b8, 1, none⟩ (.int .i64 y.n)).setCell ⟨b8, 2, none⟩ (.string y.s)).setCell ⟨b8, 3, none⟩ (.slice ya y.args.length yc)).heap[b7]? = some (.cells #[.int .i64 x.kind, .int .i64 x.n, .string x.s, .slice xa x.args.length xc] 31 (0, 0)) from (set4_other _ _ _ _ _ _ _ hne').trans (set4 HX7.out))
          have HX8' := hid (show ((((((((ww.setCell ⟨b7, 0, none⟩ (.int .i64 x.kind)).setCell ⟨b7, 1, none⟩ (.int .i64 x.n)).setCell ⟨b7, 2, none⟩ (.string x.s)).setCell ⟨b7, 3, none⟩ (.slice xa x.args.length xc)).setCell ⟨b8, 0, none⟩ (.int .i64 y.kind)).setCell ⟨b8, 1, none⟩ (.int .i64 y.n)).setCell ⟨b8, 2, none⟩ (.string y.s)).setCell ⟨b8, 3, none⟩ (.slice ya y.args.length yc)).heap[b8]? = some (.cells #[.int .i64 y.kind, .int .i64 y.n, .string y.s, .slice ya y.args.length yc] 31 (0, 0)) from set4 ((set4_other _ _ _ _ _ _ _ hne).trans HX8.out))
          have HBWS := hid (show Below W3.heap.size W3 ((((((((ww.setCell ⟨b7, 0, none⟩ (.int .i64 x.kind)).setCell ⟨b7, 1, none⟩ (.int .i64 x.n)).setCell ⟨b7, 2, none⟩ (.string x.s)).setCell ⟨b7, 3, none⟩ (.slice xa x.args.length xc)).setCell ⟨b8, 0, none⟩ (.int .i64 y.kind)).setCell ⟨b8, 1, none⟩ (.int .i64 y.n)).setCell ⟨b8, 2, none⟩ (.string y.s)).setCell ⟨b8, 3, none⟩ (.slice ya y.args.length yc)) from below_set4 (below_set4 HINV.out hg7 _ _ _ _) hg8 _ _ _ _)
          have hKQ : Keeps (fun b => (A b ∨ w.heap.size ≤ b) ∧ b ≠ lb ∧ b < wo.heap.size) ww ((((((((ww.setCell ⟨b7, 0, none⟩ (.int .i64 x.kind)).setCell ⟨b7, 1, none⟩ (.int .i64 x.n)).setCell ⟨b7, 2, none⟩ (.string x.s)).setCell ⟨b7, 3, none⟩ (.slice xa x.args.length xc)).setCell ⟨b8, 0, none⟩ (.int .i64 y.kind)).setCell ⟨b8, 1, none⟩ (.int .i64 y.n)).setCell ⟨b8, 2, none⟩ (.string y.s)).setCell ⟨b8, 3, none⟩ (.slice ya y.args.length yc)) := (keeps_set4 _ _ (fun h => by have := h.2.2; omega) _ _ _ _).trans (keeps_set4 _ _ (fun h => by have := h.2.2; omega) _ _ _ _)
          have HR3' := hid (Tm.rep_lasts.1 _ _ _ _ _ HR3.out hKQ)
          have HR7' := hid (Tm.rep_lasts.1 _ _ _ _ _ HR7.out hKQ)
          clear m0 m1 m2 m3 mf n0 n1 n2 n3 nf hKQ
          generalize ((((((((ww.setCell ⟨b7, 0, none⟩ (.int .i64 x.kind)).setCell ⟨b7, 1, none⟩ (.int .i64 x.n)).setCell ⟨b7, 2, none⟩ (.string x.s)).setCell ⟨b7, 3, none⟩ (.slice xa x.args.length xc)).setCell ⟨b8, 0, none⟩ (.int .i64 y.kind)).setCell ⟨b8, 1, none⟩ (.int .i64 y.n)).setCell ⟨b8, 2, none⟩ (.string y.s)).setCell ⟨b8, 3, none⟩ (.slice ya y.args.length yc)) = W5 at *
          have HBo5 := hid (HB3.out.trans (HBWS.out.mono hz3))
          have HBw5 := hid (HBW.out.trans (HBo5.out.mono hzo))
          have HEB5 := hid (HEB.out.keeps (Keeps.of_below HBo5.out))
          have HTK5 := hid (HTK.out.below pairT_lasts HBo5.out)
          have hz5 := HBo5.out.size
          have hb7s := blk_lt HX7'.out
          have hb8s := blk_lt HX8'.out
          obtain ⟨m0, m1, m2, m3, mf⟩ := blk4 HX7'.out
          obtain ⟨n0, n1, n2, n3, nf⟩ := blk4 HX8'.out
          have HOWB := hid (show ∀ b, b ≠ lb → ownB (.slice (some ⟨lb, 0, none⟩) s1.length lc) ≠ some b from fun b hb e => by
            simp only [ownB] at e
            split at e
            · cases e
            · simp only [Option.some.injEq] at e; exact hb e.symm)
          by_cases hbv : x.kind = 0 ∧ y.kind = 0
          · obtain ⟨hx0, hy0⟩ := hbv
            have hU := HU9.out
            rw [if_pos ⟨hx0, hy0⟩] at hU
            rw [hx0] at m0
            rw [hy0] at n0
            have hxN := HXL.out.n hx0
            have hyN := HYL.out.n hy0
            have HXF0 := hid (HXF.out hx0)
            have HYF0 := hid (HYF.out hy0)
            by_cases hn : x.n = y.n
            · have HUU := hid (hU.trans (if_pos hn))
              rw [hn] at m1
              clear hU hn hx0 hy0
              go_wp2_with fail
              go_roundw
              case rel => exact ⟨k, s1, E1, by go_num, by omega, HBw5.out, HTK5.out, HEB5.out.mono (fun b _ h => ⟨h.1, HOWB.out b h.2.1⟩), HEOK.out, HS1.out, by omega, HUU.out⟩
              case measure => simp [intOf]
            · have HUU := hid (hU.trans (if_neg hn))
              have hnd : (x.n != y.n) = true := by simpa using hn
              obtain ⟨mx, hmx⟩ : ∃ mx, mx = max x.n y.n := ⟨_, rfl⟩
              obtain ⟨mn, hmn⟩ : ∃ mn, mn = min x.n y.n := ⟨_, rfl⟩
              rw [← hmx, ← hmn] at HUU
              have HEN := hid (show EnvOk N (E1 ++ [(mx, tvar mn)]) by
                by_cases h : x.n ≤ y.n
                · have e1 : mx = y.n := by omega
                  have e2 : mn = x.n := by omega
                  rw [e1, e2]
                  exact HEOK.out.snoc (by omega) (by omega) HYF0.out (.var _ (by omega) (by omega)) (fun _ => show x.n < y.n by omega)
                · have e1 : mx = x.n := by omega
                  have e2 : mn = y.n := by omega
                  rw [e1, e2]
                  exact HEOK.out.snoc (by omega) (by omega) HXF0.out (.var _ (by omega) (by omega)) (fun _ => show y.n < x.n by omega))
              obtain ⟨_, _, _, -, hxI, -⟩ := Tm.rep4 HR3'.out
              obtain ⟨_, _, _, -, hyI, -⟩ := Tm.rep4 HR7'.out
              have HXI6 := hid hxI
              have HYI6 := hid hyI
              clear hxI hyI
              clear hU hx0 hy0
              have hbx : (x.n < y.n ∧ mx = y.n ∧ mn = x.n) ∨ (y.n < x.n ∧ mx = x.n ∧ mn = y.n) := by omega
              clear hn hmx hmn
              rcases hbx with ⟨h1, rfl, rfl⟩ | ⟨h1, rfl, rfl⟩
              all_goals
                have h2 : ¬ (y.n < x.n ∧ x.n < y.n) := by omega
                go_wp2_with fail
                go_roundw
                case rel =>
                  refine ⟨k, s1, _, by go_num, by omega, HBw5.out.alloc (by omega) _, HTK5.out.below pairT_lasts ((Below.refl _ _).alloc (Nat.le_refl _) _), ?_, HEN.out, HS1.out, by omega, HUU.out⟩
                  rw [List.reverse_append, List.reverse_singleton, List.singleton_append]
                  refine ⟨W5.heap.size, none, 0, _, rfl, ⟨.inr (by omega), HOWB.out _ (by have := HLB.out.2; omega)⟩, blk_new _ _, Tm.rep_lasts.1 _ _ _ _ _ (tvar_rep1 _ _ _ (by first | exact HXI6.out | exact HYI6.out)) (Keeps.alloc _ _ _), (HEB5.out.mono (fun b _ h => ⟨h.1, HOWB.out b h.2.1⟩)).keeps (Keeps.alloc _ _ _)⟩
                case measure => simp [intOf]
          -- one is a variable at most: if the second is, they change places
          have HNB := hid hbv
          obtain ⟨X, Xa, Xc, Z, Za, Zc, hXZ⟩ : ∃ (X : Tm) (Xa : Option Addr) (Xc : Nat) (Z : Tm) (Za : Option Addr) (Zc : Nat), (y.kind = 0 ∧ X = y ∧ Xa = ya ∧ Xc = yc ∧ Z = x ∧ Za = xa ∧ Zc = xc) ∨ (y.kind ≠ 0 ∧ X = x ∧ Xa = xa ∧ Xc = xc ∧ Z = y ∧ Za = ya ∧ Zc = yc) := by
            by_cases hy0 : y.kind = 0
            · exact ⟨_, _, _, _, _, _, .inl ⟨hy0, rfl, rfl, rfl, rfl, rfl, rfl⟩⟩
            · exact ⟨_, _, _, _, _, _, .inr ⟨hy0, rfl, rfl, rfl, rfl, rfl, rfl⟩⟩
          have HXZ0 := hid hXZ
          clear hXZ
          go_upto_region 10 with fail
          go_cut [57] from 22 to 195 (fun s57 wx => s57 = .bool false ∧ wx = W5)
          case first =>
            by_cases hx0 : x.kind = 0
            · have hy0 : (y.kind == 0) = false := by simpa using fun h => hbv ⟨hx0, h⟩
              rw [hx0] at m0
              clear hbv hx0
              go_wp2_with fail
              go_meet
              case rel => exact ⟨rfl, rfl⟩
            · have hxd : (x.kind == 0) = false := by simpa using hx0
              clear hbv hx0
              go_wp2_with fail
              go_meet
              case rel => exact ⟨rfl, rfl⟩
          case rest =>
            obtain ⟨rfl, hw5c⟩ := hcut
            rw [hw5c]
            clear hbv hw5c wc
            go_upto_if 79 with fail
            go_cut [] from 22 to 195 (fun wx => Below wo.heap.size wo wx ∧ wx.heap[b7]? = some (.cells #[.int .i64 X.kind, .int .i64 X.n, .string X.s, .slice Xa X.args.length Xc] 31 (0, 0)) ∧ wx.heap[b8]? = some (.cells #[.int .i64 Z.kind, .int .i64 Z.n, .string Z.s, .slice Za Z.args.length Zc] 31 (0, 0)) ∧ Tm.rep (fun b => (A b ∨ w.heap.size ≤ b) ∧ b ≠ lb ∧ b < wo.heap.size) wx X [.int .i64 X.kind, .int .i64 X.n, .string X.s, .slice Xa X.args.length Xc] ∧ Tm.rep (fun b => (A b ∨ w.heap.size ≤ b) ∧ b ≠ lb ∧ b < wo.heap.size) wx Z [.int .i64 Z.kind, .int .i64 Z.n, .string Z.s, .slice Za Z.args.length Zc])
            case first =>
              rcases HXZ0.out with ⟨hy0, rfl, rfl, rfl, rfl, rfl, rfl⟩ | ⟨hy0, rfl, rfl, rfl, rfl, rfl, rfl⟩
              · have hyd : (X.kind == 0) = true := by simpa using hy0
                clear hy0
                go_wp2_with fail
                go_meet
                case rel =>
                  have hBz := below_set4 (below_set4 (Below.refl wo.heap.size W5) (g := b7) (by omega) (.int .i64 X.kind) (.int .i64 X.n) (.string X.s) (.slice Xa X.args.length Xc)) (g := b8) (by omega) (.int .i64 Z.kind) (.int .i64 Z.n) (.string Z.s) (.slice Za Z.args.length Zc)
                  refine ⟨HBo5.out.trans hBz, (set4_other _ _ _ _ _ _ _ hne').trans (set4 HX7'.out), set4 ((set4_other _ _ _ _ _ _ _ hne).trans HX8'.out), ?_, ?_⟩
                  · exact Tm.rep_lasts.1 _ _ _ _ _ HR7'.out ((keeps_set4 _ _ (fun h => by have := h.2.2; omega) _ _ _ _).trans (keeps_set4 _ _ (fun h => by have := h.2.2; omega) _ _ _ _))
                  · exact Tm.rep_lasts.1 _ _ _ _ _ HR3'.out ((keeps_set4 _ _ (fun h => by have := h.2.2; omega) _ _ _ _).trans (keeps_set4 _ _ (fun h => by have := h.2.2; omega) _ _ _ _))
              · have hyd : (Z.kind == 0) = false := by simpa using hy0
                clear hy0
                go_wp2_with fail
                go_meet
                case rel => exact ⟨HBo5.out, HX7'.out, HX8'.out, HR3'.out, HR7'.out⟩
            case rest =>
              obtain ⟨cu1, cu2, cu3, cu4, cu5⟩ := hcut
              generalize wc = W6 at *
              have HBo6 := hid cu1
              have HBw6 := hid (HBW.out.trans (HBo6.out.mono hzo))
              have HX76 := hid cu2
              have HX86 := hid cu3
              have HXR6 := hid cu4
              have HZ6 := hid cu5
              clear cu1 cu2 cu3 cu4 cu5 m0 m1 m2 m3 mf n0 n1 n2 n3 nf HX7' HX8' HR3' HR7' HBo5 HBw5 HEB5 HTK5 HBWS hb7s hb8s hz5
              have hz5 := HBo6.out.size
              have hb7s := blk_lt HX76.out
              have hb8s := blk_lt HX86.out
              obtain ⟨m0, m1, m2, m3, mf⟩ := blk4 HX76.out
              obtain ⟨n0, n1, n2, n3, nf⟩ := blk4 HX86.out
              by_cases hX0 : X.kind = 0
              · -- a variable
                have hUV := hid (show uniS 400 [(a, b)] E = (if (inS E1 X.n k [Z]).1 = true ∨ (inS E1 X.n k [Z]).2 < 0 then ⟨false, E1, (inS E1 X.n k [Z]).2⟩ else uniS (min k (inS E1 X.n k [Z]).2.toNat) s1 (E1 ++ [(X.n, Z)])) ∧ EnvOk N (E1 ++ [(X.n, Z)]) ∧ Z.In N from by
                  rcases HXZ0.out with ⟨hy0, rfl, rfl, rfl, rfl, rfl, rfl⟩ | ⟨hy0, rfl, rfl, rfl, rfl, rfl, rfl⟩
                  · have hx0 : ¬ Z.kind = 0 := fun h => HNB.out ⟨h, hy0⟩
                    have hU := HU9.out.trans ((if_neg (fun h => hx0 h.1)).trans (if_pos (.inr hy0)))
                    simp only [if_pos hy0] at hU
                    exact ⟨hU, HEOK.out.snoc (HYL.out.n hy0).1 (HYL.out.n hy0).2 (HYF.out hy0) HXL.out (fun h => absurd h hx0), HXL.out⟩
                  · have hU := HU9.out.trans ((if_neg (fun h => hy0 h.2)).trans (if_pos (.inl hX0)))
                    simp only [if_neg hy0] at hU
                    exact ⟨hU, HEOK.out.snoc (HXL.out.n hX0).1 (HXL.out.n hX0).2 (HXF.out hX0) HYL.out (fun h => absurd h hy0), HYL.out⟩)
                have HENV6 := hid hUV.out.2.1
                have HZL6 := hid hUV.out.2.2
                rw [hX0] at m0
                clear hX0
                have hz6 := HBw6.out.size
                have hz6o := HBo6.out.size
                have HUU := hid hUV.out.1
                go_wp2_with fail
                refine one_seen (E := E) HEOK HEB HBW HBo6 HX76 HZ6 HZL6 hkk4 HUU (hid fun (wm_m : Nat) (wm : World) u6 u7 u8 u14 u15 u16 u87 u88 u89 u90 u91 u92 u93 u94 u95 u96 u97 u98 u99 u100 u101 u102 u103 u104 u105 u106 u107 u108 u109 u110 u111 u112 u113 u114 u115 u116 u117 u118 u119 u120 u121 u122 u123 u124 u125 u126 u127 u128 u129 u130 u131 u132 u133 u134 u135 u136 u137 hmk hbm hin => ?_) (hid fun a' w' h => h)
                have HBM := hid hbm
                have hzm := hbm.size
                have HX7m := hid (blk_below HX76.out hbm)
                have HX8m := hid (blk_below HX86.out hbm)
                have HBom := hid (HBo6.out.trans (hbm.mono hz6o))
                have HBwm := hid (HBW.out.trans (HBom.out.mono hzo))
                have HEBm := hid (HEB.out.keeps (Keeps.of_below HBom.out))
                have HTKm := hid (HTK.out.below pairT_lasts HBom.out)
                have hb7m := blk_lt HX7m.out
                have hb8m := blk_lt HX8m.out
                have hwm := HBwm.out.size
                have hwom := HBom.out.size
                have hm0 : (0 : Int) ≤ (wm_m : Int) := Int.natCast_nonneg _
                have hm4 : (wm_m : Int) ≤ 399 := by omega
                have hres := hid (show uniS 400 [(a, b)] E = uniS wm_m s1 (E1 ++ [(X.n, Z)]) by
                  rw [HUU.out, hin, if_neg (by simp)]
                  congr 1
                  simp only [Int.toNat_natCast]; omega)
                have HZm := hid (Tm.rep_lasts.1 _ _ _ _ _ HZ6.out (Keeps.of_below HBM.out))
                clear m0 m1 m2 m3 mf n0 n1 n2 n3 nf hbm hin
                obtain ⟨m0, m1, m2, m3, mf⟩ := blk4 HX7m.out
                obtain ⟨n0, n1, n2, n3, nf⟩ := blk4 HX8m.out
                go_wp2_with fail
                go_roundw
                case rel =>
                  refine ⟨wm_m, s1, _, by go_num, by omega, HBwm.out.alloc (by omega) _, HTKm.out.below pairT_lasts ((Below.refl _ _).alloc (Nat.le_refl _) _), ?_, HENV6.out, HS1.out, by omega, hres.out⟩
                  rw [List.reverse_append, List.reverse_singleton, List.singleton_append]
                  refine ⟨wm.heap.size, Za, Zc, _, rfl, ⟨.inr (by omega), HOWB.out _ (by have := HLB.out.2; omega)⟩, blk_new _ _, Tm.rep_lasts.1 _ _ _ _ _ (Tm.rep_lasts.2.1 _ _ _ _ _ HZm.out (fun b _ h => ⟨h.1, HOWB.out b h.2.1⟩)) (Keeps.alloc _ _ _), (HEBm.out.mono (fun b _ h => ⟨h.1, HOWB.out b h.2.1⟩)).keeps (Keeps.alloc _ _ _)⟩
                case measure => simp [intOf]; omega
              · rcases HXZ0.out with ⟨hy0, rfl, rfl, rfl, rfl, rfl, rfl⟩ | ⟨hy0, rfl, rfl, rfl, rfl, rfl, rfl⟩
                · exact absurd hy0 hX0
                have hx0 := hX0
                clear hX0
                have HX7' := hid HX76.out
                have HX8' := hid HX86.out
                have HR3' := hid HXR6.out
                have HR7' := hid HZ6.out
                have HBo5 := hid HBo6.out
                have HBw5 := hid HBw6.out
                have HEB5 := hid (HEB.out.keeps (Keeps.of_below HBo5.out))
                have HTK5 := hid (HTK.out.below pairT_lasts HBo5.out)
                clear HX76 HX86 HXR6 HZ6 HBo6 HBw6
                have hU := hid (HU9.out.trans ((if_neg (fun h => hx0 h.1)).trans (if_neg (fun h => h.elim hx0 hy0))))
                have hxd : (X.kind == 0) = false := by simpa using hx0
                have hyd : (Z.kind == 0) = false := by simpa using hy0
                have HENV5 := hid (HEB5.out.mono (fun b _ h => h.1))
                clear hx0 hy0
                by_cases e1 : X.kind = Z.kind
                rotate_left
                · have hres := hid (hU.out.trans (if_pos (fun h => e1 h.1)))
                  have hd1 : (X.kind != Z.kind) = true := by simpa using e1
                  clear e1
                  go_wp2_with fail
                  go_ret3
                  rw [hres.out]
                  exact ⟨_, rfl, HBw5.out, HENV5.out⟩
                by_cases e2 : X.n = Z.n
                rotate_left
                · have hres := hid (hU.out.trans (if_pos (fun h => e2 h.2.1)))
                  have hd1 : (X.n != Z.n) = true := by simpa using e2
                  rw [e1] at m0
                  clear e1 e2
                  go_wp2_with fail
                  go_ret3
                  rw [hres.out]
                  exact ⟨_, rfl, HBw5.out, HENV5.out⟩
                by_cases e3 : X.s = Z.s
                rotate_left
                · have hres := hid (hU.out.trans (if_pos (fun h => e3 h.2.2.1)))
                  have hd1 := toList_neS e3
                  have hd2 : (X.s.toList != Z.s.toList) = true := by simpa using hd1
                  rw [e1] at m0
                  rw [e2] at m1
                  clear e1 e2 e3
                  go_wp2_with fail
                  go_ret3
                  rw [hres.out]
                  exact ⟨_, rfl, HBw5.out, HENV5.out⟩
                by_cases e4 : X.args.length = Z.args.length
                rotate_left
                · have hres := hid (hU.out.trans (if_pos (fun h => e4 h.2.2.2)))
                  have hd1 : ((X.args.length : Int) != (Z.args.length : Int)) = true := by simp; omega
                  rw [e1] at m0
                  rw [e2] at m1
                  rw [e3] at m2
                  clear e1 e2 e3 e4
                  go_wp2_with fail
                  go_ret3
                  rw [hres.out]
                  exact ⟨_, rfl, HBw5.out, HENV5.out⟩
                have HUZ := hid (hU.out.trans (if_neg (fun h => h ⟨e1, e2, e3, e4⟩)))
                have E4 := hid e4
                have hargs4 : X.args.length ≤ 4 := HXL.out.args4
                have hargs4y : Z.args.length ≤ 4 := HYL.out.args4
                obtain ⟨_, _, ab, ao, e9, -, -, -, hxa, hxe⟩ := SlR.at (Tm.rep_args HR3'.out)
                simp only [Value.slice.injEq, true_and] at e9
                obtain ⟨rfl, rfl⟩ := e9
                obtain ⟨_, _, bb, bo, e9, -, -, -, hya, hye⟩ := SlR.at (Tm.rep_args HR7'.out)
                simp only [Value.slice.injEq, true_and] at e9
                obtain ⟨rfl, rfl⟩ := e9
                have HXA := hid hxa
                have HXE := hid hxe
                have HYA := hid hya
                have HYE := hid hye
                rw [e1] at m0
                rw [e2] at m1
                rw [e3] at m2
                have hn3 := n3
                rw [← e4] at n3
                have hxl0 : (0 : Int) ≤ (X.args.length : Int) := Int.natCast_nonneg _
                have hzl : (X.args.zip Z.args).length = X.args.length := by rw [List.length_zip, ← e4]; exact Nat.min_self _
                have HZL := hid hzl
                clear e1 e2 e3 e4 hxa hxe hya hye hzl hn3
                go_wp2_with fail
                refine one_args (E := E) (E1 := E1) (k := k) (eq := eq) HBw5 HBo5 hzo HX7' HX8' HR3' HR7' HXL HYL E4 hslb HLB (by omega) (by omega) HTK5 (hid fun c a1 a2 w1 e h => ⟨e.symm.trans h.1, h.2⟩) (hid fun lv wr u17 u178 u179 u180 u181 u182 u183 u184 u185 u186 u187 u188 u189 u190 u191 u192 u193 u194 u195 hbj hkj hoj hob => ?_)
                have HEBj := hid (HEB5.out.keeps (hkj.mono fun b _ h => .inl h))
                have HBJ := hid hbj
                have HOJ := hid hoj
                have HOB := hid hob
                clear hbj hkj hoj hob
                go_wp2_with fail
                go_roundw
                case rel =>
                  refine ⟨k, X.args.zip Z.args ++ s1, E1, by go_num, by omega, HBJ.out, HOJ.out, HEBj.out.mono (fun b hb h => ⟨h.1, fun e => by rcases HOB.out b e with h9 | h9; exact h.2.1 h9; have := h.2.2; omega⟩), HEOK.out, fun p hp => ?_, by rw [List.length_append, HZL.out]; omega, HUZ.out⟩
                  rcases List.mem_append.1 hp with hp | hp
                  · have h9 := List.of_mem_zip hp
                    exact ⟨HXL.out.arg h9.1, HYL.out.arg h9.2⟩
                  · exact HS1.out p hp
                case measure => simp [intOf]
end Go.Proofs.YtlpmfkpefoegeabDoor
