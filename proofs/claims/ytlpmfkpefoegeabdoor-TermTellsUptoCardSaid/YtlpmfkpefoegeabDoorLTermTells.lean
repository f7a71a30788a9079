/-
  TermTells: the law's walk.
-/
import Derived.Test.YtlpmfkpefoegeabDoorQProgCopy
import Derived.Test.YtlpmfkpefoegeabDoorQIsClause
import Derived.Test.YtlpmfkpefoegeabDoorQTermsL
import Derived.Deep.DeepCutAuto
import Derived.BigRegion
namespace Go.Proofs.YtlpmfkpefoegeabDoor
set_option linter.unusedVariables false
set_option linter.unusedSimpArgs false
set_option maxRecDepth 100000
open Go.RowKit

theorem bool_of_iff {b1 b2 : Bool} {p : Prop} (h1 : b1 = true ↔ p) (h2 : b2 = true ↔ p) : b1 = b2 := by cases b1 <;> cases b2 <;> simp_all

def IsCl (c : Cl) : Value → World → Prop := fun v w => ∃ us, v = .agg us.toArray ∧ Cl.rep (fun _ => True) w c us
theorem stays_Cl (c : Cl) : Stays (IsCl c) := fun v w w' ⟨us, h1, h2⟩ hb => ⟨us, h1, Cl.rep_lasts.1 _ _ _ _ _ h2 (Keeps.of_below hb)⟩

set_option maxHeartbeats 8000000 in
theorem termTells_walk (t : Tm) (vars : Int) (l : List Cl) (hs : t.nodes ≤ 1048576) (hl : clsNodes l ≤ 1048576) (hv : I64 vars) (w : World) (vs : List Value) (u : Value)
    (ht : Tm.rep (fun _ => True) w t vs) (hu : ClsR (fun _ => True) w l u) :
    Calls Tryd.prog 5 #[.agg vs.toArray, .int .i64 vars, u] w (Pure w fun v _ => v = .bool true) := by
  obtain ⟨ta, tc, rfl, -, -, hsz, -⟩ := Tm.rep4 ht
  obtain ⟨a, cap, b, off, rfl, hlc, hcm, hlb, ha, he⟩ := SlR.at hu
  have HTT := hid ht
  have HU := hid hu
  have HE := hid he
  have HA := hid ha
  have HS := hid hsz
  have HV := hid hv
  have HN := hid (show t.nodes ≤ 4194304 by omega)
  have HN2 := hid (show t.nodes ≤ 1099511627776 by omega)
  have HL := hid (show clsNodes l ≤ 4194304 by omega)
  clear ht hu he ha hsz hs hl hv
  go_enter Tryd.func5, Tryd.ntmps5
  go_wp2_with fail
  refine (copyTerm_ok t _ _ _ (Tm.rep_lasts.1 _ _ _ _ _ HTT.out (Keeps.alloc _ _ _))).mono ?_
  rintro e w1 ⟨r, rfl, hb1, us, rfl, hr⟩
  have hz := hb1.size
  simp only [World.size_alloc] at hz
  have HR := hid hr
  obtain ⟨ca, cc, rfl, -⟩ := Tm.rep4 hr
  have HX1 := hid (blk_below (blk_new w (.cells #[.int .i64 t.kind, .int .i64 t.n, .string t.s, .slice ta t.args.length tc] 31)) hb1)
  have HB1 := hid (below_pure hb1)
  clear hr hb1
  go_upto_region 2 with fail
  go_cut [54] (fun o W => o = .bool false ∧ Below (w1.alloc (.cells #[.int .i64 t.kind, .int .i64 t.n, .string t.s, .slice ca t.args.length cc] 31)).heap.size (w1.alloc (.cells #[.int .i64 t.kind, .int .i64 t.n, .string t.s, .slice ca t.args.length cc] 31)) W)
  case first =>
    have hbz : Below w.heap.size w (w1.alloc (.cells #[.int .i64 t.kind, .int .i64 t.n, .string t.s, .slice ca t.args.length cc] 31)) := HB1.out.alloc (by omega) _
    have HBZ := hid hbz
    have HX2 := hid (blk_alloc HX1.out (.cells #[.int .i64 t.kind, .int .i64 t.n, .string t.s, .slice ca t.args.length cc] 31))
    have HY2 := hid (blk_new w1 (.cells #[.int .i64 t.kind, .int .i64 t.n, .string t.s, .slice ca t.args.length cc] 31))
    have HR2 := hid (Tm.rep_lasts.1 _ _ _ _ _ HR.out (Keeps.alloc _ w1 (.cells #[.int .i64 t.kind, .int .i64 t.n, .string t.s, .slice ca t.args.length cc] 31)))
    clear hbz
    generalize hW1 : (w1.alloc (.cells #[.int .i64 t.kind, .int .i64 t.n, .string t.s, .slice ca t.args.length cc] 31)) = W1 at HBZ HX2 HY2 HR2 ⊢
    have HW1 := hid hW1
    clear hW1
    have HA0 : Hid (∀ w', Below W1.heap.size W1 w' → w'.cell? ⟨w.heap.size, 0, none⟩ = some (.int .i64 t.kind) ∧ w'.cell? ⟨w.heap.size, 1, none⟩ = some (.int .i64 t.n) ∧ w'.cell? ⟨w.heap.size, 2, none⟩ = some (.string t.s) ∧ w'.cell? ⟨w.heap.size, 3, none⟩ = some (.slice ta t.args.length tc) ∧
      w'.cell? ⟨w1.heap.size, 0, none⟩ = some (.int .i64 t.kind) ∧ w'.cell? ⟨w1.heap.size, 1, none⟩ = some (.int .i64 t.n) ∧ w'.cell? ⟨w1.heap.size, 2, none⟩ = some (.string t.s) ∧ w'.cell? ⟨w1.heap.size, 3, none⟩ = some (.slice ca t.args.length cc)) := hid fun w' hb => by
      obtain ⟨x0, x1, x2, x3, -⟩ := blk4 (blk_below HX2.out hb)
      obtain ⟨y0, y1, y2, y3, -⟩ := blk4 (blk_below HY2.out hb)
      exact ⟨x0, x1, x2, x3, y0, y1, y2, y3⟩
    have HT : Hid (∀ w', Below W1.heap.size W1 w' → Tm.rep (fun _ => True) w' t [.int .i64 t.kind, .int .i64 t.n, .string t.s, .slice ta t.args.length tc]) := hid fun w' hb =>
      Tm.rep_lasts.1 _ _ _ _ _ HTT.out (Keeps.of_below (HBZ.out.trans (hb.mono HBZ.out.size)))
    have HC : Hid (∀ w', Below W1.heap.size W1 w' → Tm.rep (New (w.alloc (.cells #[.int .i64 t.kind, .int .i64 t.n, .string t.s, .slice ta t.args.length tc] 31))) w' t [.int .i64 t.kind, .int .i64 t.n, .string t.s, .slice ca t.args.length cc]) := hid fun w' hb =>
      Tm.rep_lasts.1 _ _ _ _ _ HR2.out (Keeps.of_below hb)
    clear HX1 HB1 HR HX2 HY2 HR2
    by_cases hk1 : t.kind = 1
    · have HG := hid (show t.IsGoal from .inl hk1)
      have hkb : (t.kind == 1) = true := by simpa using hk1
      clear hk1
      refine wp_region_each (Inv := fun w' => Below W1.heap.size W1 w') (Po := posts [IsV (.pointer (some ⟨w.heap.size, 2, none⟩)), IsV (.string t.s), IsB (IsName t.s), IsV (.pointer (some ⟨w.heap.size, 2, none⟩)), IsV (.string t.s), IsB (IsName t.s), IsV (.bool false), IsV (.bool false), IsV (.agg #[.int .i64 t.kind, .int .i64 t.n, .string t.s, .slice ca t.args.length cc]), IsV (.int .i64 vars), IsB (t.Good vars), IsV (.agg #[.int .i64 t.kind, .int .i64 t.n, .string t.s, .slice ta t.args.length tc]), IsV (.int .i64 vars), IsB (t.Good vars), IsV (.bool false), IsV (.bool false), IsV (.bool false), IsV (.agg #[.int .i64 t.kind, .int .i64 t.n, .string t.s, .slice ca t.args.length cc]), IsV (.int .i64 t.nodes), IsV (.agg #[.int .i64 t.kind, .int .i64 t.n, .string t.s, .slice ta t.args.length tc]), IsV (.int .i64 t.nodes), IsV (.bool false), IsV (.bool false), IsV (.bool false), IsV (.agg #[.int .i64 t.kind, .int .i64 t.n, .string t.s, .slice ca t.args.length cc]), IsB t.IsGoal, IsV (.pointer (some ⟨w.heap.size, 0, none⟩)), IsV (.int .i64 t.kind), IsV (.bool true), IsV (.bool true), IsAny, IsAny, IsAny, IsV (.bool true), IsV (.bool false), IsV (.bool false), IsV (.bool false), IsV (.agg #[.int .i64 t.kind, .int .i64 t.n, .string t.s, .slice ca t.args.length cc]), IsB t.Known, IsV (.agg #[.int .i64 t.kind, .int .i64 t.n, .string t.s, .slice ta t.args.length tc]), IsB t.Known, IsV (.bool false), IsV (.bool false)]) (Rl := fun w w' => Below w.heap.size w w') (by kernel_rfl) (by kernel_rfl) (by kernel_rfl) ((Below.refl _ _).drew) ?_ ?_ ?_ ?_
      · refine posts_stay fun R hR => ?_
        simp only [List.mem_cons, List.not_mem_nil, or_false] at hR
        rcases hR with rfl | rfl | rfl | rfl | rfl | rfl | rfl | rfl | rfl | rfl | rfl | rfl | rfl | rfl | rfl | rfl | rfl | rfl | rfl | rfl | rfl | rfl | rfl | rfl | rfl | rfl | rfl | rfl | rfl | rfl | rfl | rfl | rfl | rfl | rfl | rfl | rfl | rfl | rfl | rfl | rfl | rfl | rfl <;> first | exact stays_V _ | exact stays_any | exact stays_B _ | exact stays_Tm _ | exact stays_Tms _ | exact stays_Cs _ | exact stays_Ns _ | exact stays_Bs _ | exact stays_Hp _ | exact stays_OC _ _ | exact stays_ON _ _
      · exact fun w1 w2 h h' => h.trans (h'.mono h.size)
      · intro i o ho f ac ww hinv hpo hdst hold
        match i, ho with
          | 0, ho =>
            obtain rfl : _ = o := Option.some.inj ho
            have t3 := hold 3 (by kernel_rfl)
            refine Or.inl ⟨want0 rfl, ?_⟩
            clear hdst hpo hold ho
            clear hinv
            unfold Ans
            go_simp
            exact ⟨rfl, Below.refl _ _⟩
          | 1, ho =>
            obtain rfl : _ = o := Option.some.inj ho
            have t12 : ac.tmps[12]? = some (f 0) := hdst 0 12 (by kernel_rfl) (by kernel_rfl)
            have p0 : (IsV (.pointer (some ⟨w.heap.size, 2, none⟩))) (f 0) ww := hpo 0 (by kernel_rfl)
            refine Or.inl ⟨want0 rfl, ?_⟩
            clear hdst hpo hold ho
            rw [show f 0 = _ from p0] at t12
            obtain ⟨x0, x1, x2, x3, y0, y1, y2, y3⟩ := HA0.out ww hinv
            unfold Ans
            go_simp
            exact ⟨rfl, Below.refl _ _⟩
          | 2, ho =>
            obtain rfl : _ = o := Option.some.inj ho
            have t13 : ac.tmps[13]? = some (f 1) := hdst 1 13 (by kernel_rfl) (by kernel_rfl)
            have p1 : (IsV (.string t.s)) (f 1) ww := hpo 1 (by kernel_rfl)
            refine Or.inl ⟨want0 rfl, ?_⟩
            clear hdst hpo hold ho
            rw [show f 1 = _ from p1] at t13
            unfold Ans
            go_simp
            refine (named_ok t.s _ HS.out).mono ?_
            rintro e w1 ⟨r, rfl, hr, rfl⟩
            exact ⟨_, rfl, ⟨r, rfl, hr⟩, Below.refl _ _⟩
          | 3, ho =>
            obtain rfl : _ = o := Option.some.inj ho
            have t3 := hold 3 (by kernel_rfl)
            refine Or.inl ⟨want0 rfl, ?_⟩
            clear hdst hpo hold ho
            clear hinv
            unfold Ans
            go_simp
            exact ⟨rfl, Below.refl _ _⟩
          | 4, ho =>
            obtain rfl : _ = o := Option.some.inj ho
            have t15 : ac.tmps[15]? = some (f 3) := hdst 3 15 (by kernel_rfl) (by kernel_rfl)
            have p3 : (IsV (.pointer (some ⟨w.heap.size, 2, none⟩))) (f 3) ww := hpo 3 (by kernel_rfl)
            refine Or.inl ⟨want0 rfl, ?_⟩
            clear hdst hpo hold ho
            rw [show f 3 = _ from p3] at t15
            obtain ⟨x0, x1, x2, x3, y0, y1, y2, y3⟩ := HA0.out ww hinv
            unfold Ans
            go_simp
            exact ⟨rfl, Below.refl _ _⟩
          | 5, ho =>
            obtain rfl : _ = o := Option.some.inj ho
            have t16 : ac.tmps[16]? = some (f 4) := hdst 4 16 (by kernel_rfl) (by kernel_rfl)
            have p4 : (IsV (.string t.s)) (f 4) ww := hpo 4 (by kernel_rfl)
            refine Or.inl ⟨want0 rfl, ?_⟩
            clear hdst hpo hold ho
            rw [show f 4 = _ from p4] at t16
            unfold Ans
            go_simp
            refine (isName_ok t.s _ HS.out).mono ?_
            rintro e w1 ⟨r, rfl, hb, b, rfl, hr⟩
            exact ⟨_, rfl, ⟨b, rfl, hr⟩, hb⟩
          | 6, ho =>
            obtain rfl : _ = o := Option.some.inj ho
            have t14 : ac.tmps[14]? = some (f 2) := hdst 2 14 (by kernel_rfl) (by kernel_rfl)
            have p2 : (IsB (IsName t.s)) (f 2) ww := hpo 2 (by kernel_rfl)
            have t17 : ac.tmps[17]? = some (f 5) := hdst 5 17 (by kernel_rfl) (by kernel_rfl)
            have p5 : (IsB (IsName t.s)) (f 5) ww := hpo 5 (by kernel_rfl)
            refine Or.inl ⟨want0 rfl, ?_⟩
            clear hdst hpo hold ho
            obtain ⟨b1, e1, h1⟩ := p2
            obtain ⟨b2, e2, h2⟩ := p5
            obtain rfl : b1 = b2 := bool_of_iff h1 h2
            rw [e1] at t14
            rw [e2] at t17
            clear hinv e1 e2 h1 h2
            cases b1 <;> (unfold Ans; go_simp; exact ⟨rfl, Below.refl _ _⟩)
          | 7, ho =>
            obtain rfl : _ = o := Option.some.inj ho
            have t18 : ac.tmps[18]? = some (f 6) := hdst 6 18 (by kernel_rfl) (by kernel_rfl)
            have p6 : (IsV (.bool false)) (f 6) ww := hpo 6 (by kernel_rfl)
            refine Or.inl ⟨want0 rfl, ?_⟩
            clear hdst hpo hold ho
            rw [show f 6 = _ from p6] at t18
            clear hinv
            unfold Ans
            go_simp
            exact ⟨rfl, Below.refl _ _⟩
          | 8, ho =>
            obtain rfl : _ = o := Option.some.inj ho
            have t19 : ac.tmps[19]? = some (f 7) := hdst 7 19 (by kernel_rfl) (by kernel_rfl)
            have p7 : (IsV (.bool false)) (f 7) ww := hpo 7 (by kernel_rfl)
            have t7 := hold 7 (by kernel_rfl)
            have g7 := t19
            rw [show f 7 = _ from p7] at g7
            refine Or.inl ⟨want1 (g := 7) (s := 19) (b := false) (c := false) rfl (by kernel_rfl) g7, ?_⟩
            clear t19 p7 g7
            clear hdst hpo hold ho
            obtain ⟨x0, x1, x2, x3, y0, y1, y2, y3⟩ := HA0.out ww hinv
            unfold Ans
            go_simp
            exact ⟨rfl, Below.refl _ _⟩
          | 9, ho =>
            obtain rfl : _ = o := Option.some.inj ho
            have t19 : ac.tmps[19]? = some (f 7) := hdst 7 19 (by kernel_rfl) (by kernel_rfl)
            have p7 : (IsV (.bool false)) (f 7) ww := hpo 7 (by kernel_rfl)
            have t1 := hold 1 (by kernel_rfl)
            have g7 := t19
            rw [show f 7 = _ from p7] at g7
            refine Or.inl ⟨want1 (g := 7) (s := 19) (b := false) (c := false) rfl (by kernel_rfl) g7, ?_⟩
            clear t19 p7 g7
            clear hdst hpo hold ho
            clear hinv
            unfold Ans
            go_simp
            exact ⟨rfl, Below.refl _ _⟩
          | 10, ho =>
            obtain rfl : _ = o := Option.some.inj ho
            have t20 : ac.tmps[20]? = some (f 8) := hdst 8 20 (by kernel_rfl) (by kernel_rfl)
            have p8 : (IsV (.agg #[.int .i64 t.kind, .int .i64 t.n, .string t.s, .slice ca t.args.length cc])) (f 8) ww := hpo 8 (by kernel_rfl)
            have t21 : ac.tmps[21]? = some (f 9) := hdst 9 21 (by kernel_rfl) (by kernel_rfl)
            have p9 : (IsV (.int .i64 vars)) (f 9) ww := hpo 9 (by kernel_rfl)
            have t19 : ac.tmps[19]? = some (f 7) := hdst 7 19 (by kernel_rfl) (by kernel_rfl)
            have p7 : (IsV (.bool false)) (f 7) ww := hpo 7 (by kernel_rfl)
            have g7 := t19
            rw [show f 7 = _ from p7] at g7
            refine Or.inl ⟨want1 (g := 7) (s := 19) (b := false) (c := false) rfl (by kernel_rfl) g7, ?_⟩
            clear t19 p7 g7
            clear hdst hpo hold ho
            rw [show f 8 = _ from p8] at t20
            rw [show f 9 = _ from p9] at t21
            unfold Ans
            go_simp
            refine (goodT_ok t vars _ _ _ HV.out (HC.out ww hinv)).mono ?_
            rintro e w1 ⟨r, rfl, hb, b, rfl, hr⟩
            exact ⟨_, rfl, ⟨b, rfl, hr⟩, hb⟩
          | 11, ho =>
            obtain rfl : _ = o := Option.some.inj ho
            have t19 : ac.tmps[19]? = some (f 7) := hdst 7 19 (by kernel_rfl) (by kernel_rfl)
            have p7 : (IsV (.bool false)) (f 7) ww := hpo 7 (by kernel_rfl)
            have t3 := hold 3 (by kernel_rfl)
            have g7 := t19
            rw [show f 7 = _ from p7] at g7
            refine Or.inl ⟨want1 (g := 7) (s := 19) (b := false) (c := false) rfl (by kernel_rfl) g7, ?_⟩
            clear t19 p7 g7
            clear hdst hpo hold ho
            obtain ⟨x0, x1, x2, x3, y0, y1, y2, y3⟩ := HA0.out ww hinv
            unfold Ans
            go_simp
            exact ⟨rfl, Below.refl _ _⟩
          | 12, ho =>
            obtain rfl : _ = o := Option.some.inj ho
            have t19 : ac.tmps[19]? = some (f 7) := hdst 7 19 (by kernel_rfl) (by kernel_rfl)
            have p7 : (IsV (.bool false)) (f 7) ww := hpo 7 (by kernel_rfl)
            have t1 := hold 1 (by kernel_rfl)
            have g7 := t19
            rw [show f 7 = _ from p7] at g7
            refine Or.inl ⟨want1 (g := 7) (s := 19) (b := false) (c := false) rfl (by kernel_rfl) g7, ?_⟩
            clear t19 p7 g7
            clear hdst hpo hold ho
            clear hinv
            unfold Ans
            go_simp
            exact ⟨rfl, Below.refl _ _⟩
          | 13, ho =>
            obtain rfl : _ = o := Option.some.inj ho
            have t23 : ac.tmps[23]? = some (f 11) := hdst 11 23 (by kernel_rfl) (by kernel_rfl)
            have p11 : (IsV (.agg #[.int .i64 t.kind, .int .i64 t.n, .string t.s, .slice ta t.args.length tc])) (f 11) ww := hpo 11 (by kernel_rfl)
            have t24 : ac.tmps[24]? = some (f 12) := hdst 12 24 (by kernel_rfl) (by kernel_rfl)
            have p12 : (IsV (.int .i64 vars)) (f 12) ww := hpo 12 (by kernel_rfl)
            have t19 : ac.tmps[19]? = some (f 7) := hdst 7 19 (by kernel_rfl) (by kernel_rfl)
            have p7 : (IsV (.bool false)) (f 7) ww := hpo 7 (by kernel_rfl)
            have g7 := t19
            rw [show f 7 = _ from p7] at g7
            refine Or.inl ⟨want1 (g := 7) (s := 19) (b := false) (c := false) rfl (by kernel_rfl) g7, ?_⟩
            clear t19 p7 g7
            clear hdst hpo hold ho
            rw [show f 11 = _ from p11] at t23
            rw [show f 12 = _ from p12] at t24
            unfold Ans
            go_simp
            refine (isTerm_ok t vars _ _ _ HV.out (HT.out ww hinv)).mono ?_
            rintro e w1 ⟨r, rfl, hb, b, rfl, hr⟩
            exact ⟨_, rfl, ⟨b, rfl, hr⟩, hb⟩
          | 14, ho =>
            obtain rfl : _ = o := Option.some.inj ho
            have t22 : ac.tmps[22]? = some (f 10) := hdst 10 22 (by kernel_rfl) (by kernel_rfl)
            have p10 : (IsB (t.Good vars)) (f 10) ww := hpo 10 (by kernel_rfl)
            have t25 : ac.tmps[25]? = some (f 13) := hdst 13 25 (by kernel_rfl) (by kernel_rfl)
            have p13 : (IsB (t.Good vars)) (f 13) ww := hpo 13 (by kernel_rfl)
            have t19 : ac.tmps[19]? = some (f 7) := hdst 7 19 (by kernel_rfl) (by kernel_rfl)
            have p7 : (IsV (.bool false)) (f 7) ww := hpo 7 (by kernel_rfl)
            have g7 := t19
            rw [show f 7 = _ from p7] at g7
            refine Or.inl ⟨want1 (g := 7) (s := 19) (b := false) (c := false) rfl (by kernel_rfl) g7, ?_⟩
            clear t19 p7 g7
            clear hdst hpo hold ho
            obtain ⟨b1, e1, h1⟩ := p10
            obtain ⟨b2, e2, h2⟩ := p13
            obtain rfl : b1 = b2 := bool_of_iff h1 h2
            rw [e1] at t22
            rw [e2] at t25
            clear hinv e1 e2 h1 h2
            cases b1 <;> (unfold Ans; go_simp; exact ⟨rfl, Below.refl _ _⟩)
          | 15, ho =>
            obtain rfl : _ = o := Option.some.inj ho
            have t19 : ac.tmps[19]? = some (f 7) := hdst 7 19 (by kernel_rfl) (by kernel_rfl)
            have p7 : (IsV (.bool false)) (f 7) ww := hpo 7 (by kernel_rfl)
            have t26 : ac.tmps[26]? = some (f 14) := hdst 14 26 (by kernel_rfl) (by kernel_rfl)
            have p14 : (IsV (.bool false)) (f 14) ww := hpo 14 (by kernel_rfl)
            refine Or.inl ⟨want0 rfl, ?_⟩
            clear hdst hpo hold ho
            rw [show f 7 = _ from p7] at t19
            rw [show f 14 = _ from p14] at t26
            clear hinv
            unfold Ans
            go_simp
            exact ⟨rfl, Below.refl _ _⟩
          | 16, ho =>
            obtain rfl : _ = o := Option.some.inj ho
            have t27 : ac.tmps[27]? = some (f 15) := hdst 15 27 (by kernel_rfl) (by kernel_rfl)
            have p15 : (IsV (.bool false)) (f 15) ww := hpo 15 (by kernel_rfl)
            refine Or.inl ⟨want0 rfl, ?_⟩
            clear hdst hpo hold ho
            rw [show f 15 = _ from p15] at t27
            clear hinv
            unfold Ans
            go_simp
            exact ⟨rfl, Below.refl _ _⟩
          | 17, ho =>
            obtain rfl : _ = o := Option.some.inj ho
            have t28 : ac.tmps[28]? = some (f 16) := hdst 16 28 (by kernel_rfl) (by kernel_rfl)
            have p16 : (IsV (.bool false)) (f 16) ww := hpo 16 (by kernel_rfl)
            have t7 := hold 7 (by kernel_rfl)
            have g16 := t28
            rw [show f 16 = _ from p16] at g16
            refine Or.inl ⟨want1 (g := 16) (s := 28) (b := false) (c := false) rfl (by kernel_rfl) g16, ?_⟩
            clear t28 p16 g16
            clear hdst hpo hold ho
            obtain ⟨x0, x1, x2, x3, y0, y1, y2, y3⟩ := HA0.out ww hinv
            unfold Ans
            go_simp
            exact ⟨rfl, Below.refl _ _⟩
          | 18, ho =>
            obtain rfl : _ = o := Option.some.inj ho
            have t29 : ac.tmps[29]? = some (f 17) := hdst 17 29 (by kernel_rfl) (by kernel_rfl)
            have p17 : (IsV (.agg #[.int .i64 t.kind, .int .i64 t.n, .string t.s, .slice ca t.args.length cc])) (f 17) ww := hpo 17 (by kernel_rfl)
            have t28 : ac.tmps[28]? = some (f 16) := hdst 16 28 (by kernel_rfl) (by kernel_rfl)
            have p16 : (IsV (.bool false)) (f 16) ww := hpo 16 (by kernel_rfl)
            have g16 := t28
            rw [show f 16 = _ from p16] at g16
            refine Or.inl ⟨want1 (g := 16) (s := 28) (b := false) (c := false) rfl (by kernel_rfl) g16, ?_⟩
            clear t28 p16 g16
            clear hdst hpo hold ho
            rw [show f 17 = _ from p17] at t29
            unfold Ans
            go_simp
            refine (nodes_ok t _ _ _ HN2.out (HC.out ww hinv)).mono ?_
            rintro e w1 ⟨r, rfl, hb, rfl⟩
            exact ⟨_, rfl, rfl, hb⟩
          | 19, ho =>
            obtain rfl : _ = o := Option.some.inj ho
            have t28 : ac.tmps[28]? = some (f 16) := hdst 16 28 (by kernel_rfl) (by kernel_rfl)
            have p16 : (IsV (.bool false)) (f 16) ww := hpo 16 (by kernel_rfl)
            have t3 := hold 3 (by kernel_rfl)
            have g16 := t28
            rw [show f 16 = _ from p16] at g16
            refine Or.inl ⟨want1 (g := 16) (s := 28) (b := false) (c := false) rfl (by kernel_rfl) g16, ?_⟩
            clear t28 p16 g16
            clear hdst hpo hold ho
            obtain ⟨x0, x1, x2, x3, y0, y1, y2, y3⟩ := HA0.out ww hinv
            unfold Ans
            go_simp
            exact ⟨rfl, Below.refl _ _⟩
          | 20, ho =>
            obtain rfl : _ = o := Option.some.inj ho
            have t31 : ac.tmps[31]? = some (f 19) := hdst 19 31 (by kernel_rfl) (by kernel_rfl)
            have p19 : (IsV (.agg #[.int .i64 t.kind, .int .i64 t.n, .string t.s, .slice ta t.args.length tc])) (f 19) ww := hpo 19 (by kernel_rfl)
            have t28 : ac.tmps[28]? = some (f 16) := hdst 16 28 (by kernel_rfl) (by kernel_rfl)
            have p16 : (IsV (.bool false)) (f 16) ww := hpo 16 (by kernel_rfl)
            have g16 := t28
            rw [show f 16 = _ from p16] at g16
            refine Or.inl ⟨want1 (g := 16) (s := 28) (b := false) (c := false) rfl (by kernel_rfl) g16, ?_⟩
            clear t28 p16 g16
            clear hdst hpo hold ho
            rw [show f 19 = _ from p19] at t31
            unfold Ans
            go_simp
            refine (nodesOf_ok t HN.out _ _ _ (HT.out ww hinv)).mono ?_
            rintro e w1 ⟨r, rfl, hb, rfl⟩
            exact ⟨_, rfl, rfl, hb⟩
          | 21, ho =>
            obtain rfl : _ = o := Option.some.inj ho
            have t30 : ac.tmps[30]? = some (f 18) := hdst 18 30 (by kernel_rfl) (by kernel_rfl)
            have p18 : (IsV (.int .i64 t.nodes)) (f 18) ww := hpo 18 (by kernel_rfl)
            have t32 : ac.tmps[32]? = some (f 20) := hdst 20 32 (by kernel_rfl) (by kernel_rfl)
            have p20 : (IsV (.int .i64 t.nodes)) (f 20) ww := hpo 20 (by kernel_rfl)
            have t28 : ac.tmps[28]? = some (f 16) := hdst 16 28 (by kernel_rfl) (by kernel_rfl)
            have p16 : (IsV (.bool false)) (f 16) ww := hpo 16 (by kernel_rfl)
            have g16 := t28
            rw [show f 16 = _ from p16] at g16
            refine Or.inl ⟨want1 (g := 16) (s := 28) (b := false) (c := false) rfl (by kernel_rfl) g16, ?_⟩
            clear t28 p16 g16
            clear hdst hpo hold ho
            rw [show f 18 = _ from p18] at t30
            rw [show f 20 = _ from p20] at t32
            clear hinv
            unfold Ans
            go_simp
            exact ⟨(by first | rfl | (show Value.bool _ = Value.bool false; simp)), Below.refl _ _⟩
          | 22, ho =>
            obtain rfl : _ = o := Option.some.inj ho
            have t28 : ac.tmps[28]? = some (f 16) := hdst 16 28 (by kernel_rfl) (by kernel_rfl)
            have p16 : (IsV (.bool false)) (f 16) ww := hpo 16 (by kernel_rfl)
            have t33 : ac.tmps[33]? = some (f 21) := hdst 21 33 (by kernel_rfl) (by kernel_rfl)
            have p21 : (IsV (.bool false)) (f 21) ww := hpo 21 (by kernel_rfl)
            refine Or.inl ⟨want0 rfl, ?_⟩
            clear hdst hpo hold ho
            rw [show f 16 = _ from p16] at t28
            rw [show f 21 = _ from p21] at t33
            clear hinv
            unfold Ans
            go_simp
            exact ⟨rfl, Below.refl _ _⟩
          | 23, ho =>
            obtain rfl : _ = o := Option.some.inj ho
            have t34 : ac.tmps[34]? = some (f 22) := hdst 22 34 (by kernel_rfl) (by kernel_rfl)
            have p22 : (IsV (.bool false)) (f 22) ww := hpo 22 (by kernel_rfl)
            refine Or.inl ⟨want0 rfl, ?_⟩
            clear hdst hpo hold ho
            rw [show f 22 = _ from p22] at t34
            clear hinv
            unfold Ans
            go_simp
            exact ⟨rfl, Below.refl _ _⟩
          | 24, ho =>
            obtain rfl : _ = o := Option.some.inj ho
            have t35 : ac.tmps[35]? = some (f 23) := hdst 23 35 (by kernel_rfl) (by kernel_rfl)
            have p23 : (IsV (.bool false)) (f 23) ww := hpo 23 (by kernel_rfl)
            have t7 := hold 7 (by kernel_rfl)
            have g23 := t35
            rw [show f 23 = _ from p23] at g23
            refine Or.inl ⟨want1 (g := 23) (s := 35) (b := false) (c := false) rfl (by kernel_rfl) g23, ?_⟩
            clear t35 p23 g23
            clear hdst hpo hold ho
            obtain ⟨x0, x1, x2, x3, y0, y1, y2, y3⟩ := HA0.out ww hinv
            unfold Ans
            go_simp
            exact ⟨rfl, Below.refl _ _⟩
          | 25, ho =>
            obtain rfl : _ = o := Option.some.inj ho
            have t36 : ac.tmps[36]? = some (f 24) := hdst 24 36 (by kernel_rfl) (by kernel_rfl)
            have p24 : (IsV (.agg #[.int .i64 t.kind, .int .i64 t.n, .string t.s, .slice ca t.args.length cc])) (f 24) ww := hpo 24 (by kernel_rfl)
            have t35 : ac.tmps[35]? = some (f 23) := hdst 23 35 (by kernel_rfl) (by kernel_rfl)
            have p23 : (IsV (.bool false)) (f 23) ww := hpo 23 (by kernel_rfl)
            have g23 := t35
            rw [show f 23 = _ from p23] at g23
            refine Or.inl ⟨want1 (g := 23) (s := 35) (b := false) (c := false) rfl (by kernel_rfl) g23, ?_⟩
            clear t35 p23 g23
            clear hdst hpo hold ho
            rw [show f 24 = _ from p24] at t36
            unfold Ans
            go_simp
            refine (isGoal_ok t _ _ _ (HC.out ww hinv)).mono ?_
            rintro e w1 ⟨r, rfl, hb, b, rfl, hr⟩
            exact ⟨_, rfl, ⟨b, rfl, hr⟩, hb⟩
          | 26, ho =>
            obtain rfl : _ = o := Option.some.inj ho
            have t35 : ac.tmps[35]? = some (f 23) := hdst 23 35 (by kernel_rfl) (by kernel_rfl)
            have p23 : (IsV (.bool false)) (f 23) ww := hpo 23 (by kernel_rfl)
            have t3 := hold 3 (by kernel_rfl)
            have g23 := t35
            rw [show f 23 = _ from p23] at g23
            refine Or.inl ⟨want1 (g := 23) (s := 35) (b := false) (c := false) rfl (by kernel_rfl) g23, ?_⟩
            clear t35 p23 g23
            clear hdst hpo hold ho
            clear hinv
            unfold Ans
            go_simp
            exact ⟨rfl, Below.refl _ _⟩
          | 27, ho =>
            obtain rfl : _ = o := Option.some.inj ho
            have t38 : ac.tmps[38]? = some (f 26) := hdst 26 38 (by kernel_rfl) (by kernel_rfl)
            have p26 : (IsV (.pointer (some ⟨w.heap.size, 0, none⟩))) (f 26) ww := hpo 26 (by kernel_rfl)
            have t35 : ac.tmps[35]? = some (f 23) := hdst 23 35 (by kernel_rfl) (by kernel_rfl)
            have p23 : (IsV (.bool false)) (f 23) ww := hpo 23 (by kernel_rfl)
            have g23 := t35
            rw [show f 23 = _ from p23] at g23
            refine Or.inl ⟨want1 (g := 23) (s := 35) (b := false) (c := false) rfl (by kernel_rfl) g23, ?_⟩
            clear t35 p23 g23
            clear hdst hpo hold ho
            rw [show f 26 = _ from p26] at t38
            obtain ⟨x0, x1, x2, x3, y0, y1, y2, y3⟩ := HA0.out ww hinv
            unfold Ans
            go_simp
            exact ⟨rfl, Below.refl _ _⟩
          | 28, ho =>
            obtain rfl : _ = o := Option.some.inj ho
            have t39 : ac.tmps[39]? = some (f 27) := hdst 27 39 (by kernel_rfl) (by kernel_rfl)
            have p27 : (IsV (.int .i64 t.kind)) (f 27) ww := hpo 27 (by kernel_rfl)
            have t35 : ac.tmps[35]? = some (f 23) := hdst 23 35 (by kernel_rfl) (by kernel_rfl)
            have p23 : (IsV (.bool false)) (f 23) ww := hpo 23 (by kernel_rfl)
            have g23 := t35
            rw [show f 23 = _ from p23] at g23
            refine Or.inl ⟨want1 (g := 23) (s := 35) (b := false) (c := false) rfl (by kernel_rfl) g23, ?_⟩
            clear t35 p23 g23
            clear hdst hpo hold ho
            rw [show f 27 = _ from p27] at t39
            clear hinv
            unfold Ans
            go_simp
            exact ⟨rfl, Below.refl _ _⟩
          | 29, ho =>
            obtain rfl : _ = o := Option.some.inj ho
            have t40 : ac.tmps[40]? = some (f 28) := hdst 28 40 (by kernel_rfl) (by kernel_rfl)
            have p28 : (IsV (.bool true)) (f 28) ww := hpo 28 (by kernel_rfl)
            have t35 : ac.tmps[35]? = some (f 23) := hdst 23 35 (by kernel_rfl) (by kernel_rfl)
            have p23 : (IsV (.bool false)) (f 23) ww := hpo 23 (by kernel_rfl)
            have g23 := t35
            rw [show f 23 = _ from p23] at g23
            refine Or.inl ⟨want1 (g := 23) (s := 35) (b := false) (c := false) rfl (by kernel_rfl) g23, ?_⟩
            clear t35 p23 g23
            clear hdst hpo hold ho
            rw [show f 28 = _ from p28] at t40
            clear hinv
            unfold Ans
            go_simp
            exact ⟨rfl, Below.refl _ _⟩
          | 30, ho =>
            obtain rfl : _ = o := Option.some.inj ho
            have t41 : ac.tmps[41]? = some (f 29) := hdst 29 41 (by kernel_rfl) (by kernel_rfl)
            have p29 : (IsV (.bool true)) (f 29) ww := hpo 29 (by kernel_rfl)
            have g29 := t41
            rw [show f 29 = _ from p29] at g29
            exact Or.inr ⟨want1 (g := 29) (s := 41) (b := false) (c := true) rfl (by kernel_rfl) g29, trivial, Below.refl _ _⟩
          | 31, ho =>
            obtain rfl : _ = o := Option.some.inj ho
            have t41 : ac.tmps[41]? = some (f 29) := hdst 29 41 (by kernel_rfl) (by kernel_rfl)
            have p29 : (IsV (.bool true)) (f 29) ww := hpo 29 (by kernel_rfl)
            have g29 := t41
            rw [show f 29 = _ from p29] at g29
            exact Or.inr ⟨want1 (g := 29) (s := 41) (b := false) (c := true) rfl (by kernel_rfl) g29, trivial, Below.refl _ _⟩
          | 32, ho =>
            obtain rfl : _ = o := Option.some.inj ho
            have t41 : ac.tmps[41]? = some (f 29) := hdst 29 41 (by kernel_rfl) (by kernel_rfl)
            have p29 : (IsV (.bool true)) (f 29) ww := hpo 29 (by kernel_rfl)
            have g29 := t41
            rw [show f 29 = _ from p29] at g29
            exact Or.inr ⟨want1 (g := 29) (s := 41) (b := false) (c := true) rfl (by kernel_rfl) g29, trivial, Below.refl _ _⟩
          | 33, ho =>
            obtain rfl : _ = o := Option.some.inj ho
            have t41 : ac.tmps[41]? = some (f 29) := hdst 29 41 (by kernel_rfl) (by kernel_rfl)
            have p29 : (IsV (.bool true)) (f 29) ww := hpo 29 (by kernel_rfl)
            have t44 : ac.tmps[44]? = some (f 32) := hdst 32 44 (by kernel_rfl) (by kernel_rfl)
            have p32 : (IsAny) (f 32) ww := hpo 32 (by kernel_rfl)
            have t35 : ac.tmps[35]? = some (f 23) := hdst 23 35 (by kernel_rfl) (by kernel_rfl)
            have p23 : (IsV (.bool false)) (f 23) ww := hpo 23 (by kernel_rfl)
            have g23 := t35
            rw [show f 23 = _ from p23] at g23
            refine Or.inl ⟨want1 (g := 23) (s := 35) (b := false) (c := false) rfl (by kernel_rfl) g23, ?_⟩
            clear t35 p23 g23
            clear hdst hpo hold ho
            rw [show f 29 = _ from p29] at t41
            clear hinv
            unfold Ans
            go_simp
            exact ⟨rfl, Below.refl _ _⟩
          | 34, ho =>
            obtain rfl : _ = o := Option.some.inj ho
            have t37 : ac.tmps[37]? = some (f 25) := hdst 25 37 (by kernel_rfl) (by kernel_rfl)
            have p25 : (IsB t.IsGoal) (f 25) ww := hpo 25 (by kernel_rfl)
            have t45 : ac.tmps[45]? = some (f 33) := hdst 33 45 (by kernel_rfl) (by kernel_rfl)
            have p33 : (IsV (.bool true)) (f 33) ww := hpo 33 (by kernel_rfl)
            have t35 : ac.tmps[35]? = some (f 23) := hdst 23 35 (by kernel_rfl) (by kernel_rfl)
            have p23 : (IsV (.bool false)) (f 23) ww := hpo 23 (by kernel_rfl)
            have g23 := t35
            rw [show f 23 = _ from p23] at g23
            refine Or.inl ⟨want1 (g := 23) (s := 35) (b := false) (c := false) rfl (by kernel_rfl) g23, ?_⟩
            clear t35 p23 g23
            clear hdst hpo hold ho
            rw [show f 33 = _ from p33] at t45
            obtain ⟨b1, e1, h1⟩ := p25
            obtain rfl : b1 = true := h1.2 HG.out
            rw [e1] at t37
            clear hinv e1 h1
            unfold Ans
            go_simp
            exact ⟨(by first | rfl | (show Value.bool _ = Value.bool false; simp)), Below.refl _ _⟩
          | 35, ho =>
            obtain rfl : _ = o := Option.some.inj ho
            have t35 : ac.tmps[35]? = some (f 23) := hdst 23 35 (by kernel_rfl) (by kernel_rfl)
            have p23 : (IsV (.bool false)) (f 23) ww := hpo 23 (by kernel_rfl)
            have t46 : ac.tmps[46]? = some (f 34) := hdst 34 46 (by kernel_rfl) (by kernel_rfl)
            have p34 : (IsV (.bool false)) (f 34) ww := hpo 34 (by kernel_rfl)
            refine Or.inl ⟨want0 rfl, ?_⟩
            clear hdst hpo hold ho
            rw [show f 23 = _ from p23] at t35
            rw [show f 34 = _ from p34] at t46
            clear hinv
            unfold Ans
            go_simp
            exact ⟨rfl, Below.refl _ _⟩
          | 36, ho =>
            obtain rfl : _ = o := Option.some.inj ho
            have t47 : ac.tmps[47]? = some (f 35) := hdst 35 47 (by kernel_rfl) (by kernel_rfl)
            have p35 : (IsV (.bool false)) (f 35) ww := hpo 35 (by kernel_rfl)
            refine Or.inl ⟨want0 rfl, ?_⟩
            clear hdst hpo hold ho
            rw [show f 35 = _ from p35] at t47
            clear hinv
            unfold Ans
            go_simp
            exact ⟨rfl, Below.refl _ _⟩
          | 37, ho =>
            obtain rfl : _ = o := Option.some.inj ho
            have t48 : ac.tmps[48]? = some (f 36) := hdst 36 48 (by kernel_rfl) (by kernel_rfl)
            have p36 : (IsV (.bool false)) (f 36) ww := hpo 36 (by kernel_rfl)
            have t7 := hold 7 (by kernel_rfl)
            have g36 := t48
            rw [show f 36 = _ from p36] at g36
            refine Or.inl ⟨want1 (g := 36) (s := 48) (b := false) (c := false) rfl (by kernel_rfl) g36, ?_⟩
            clear t48 p36 g36
            clear hdst hpo hold ho
            obtain ⟨x0, x1, x2, x3, y0, y1, y2, y3⟩ := HA0.out ww hinv
            unfold Ans
            go_simp
            exact ⟨rfl, Below.refl _ _⟩
          | 38, ho =>
            obtain rfl : _ = o := Option.some.inj ho
            have t49 : ac.tmps[49]? = some (f 37) := hdst 37 49 (by kernel_rfl) (by kernel_rfl)
            have p37 : (IsV (.agg #[.int .i64 t.kind, .int .i64 t.n, .string t.s, .slice ca t.args.length cc])) (f 37) ww := hpo 37 (by kernel_rfl)
            have t48 : ac.tmps[48]? = some (f 36) := hdst 36 48 (by kernel_rfl) (by kernel_rfl)
            have p36 : (IsV (.bool false)) (f 36) ww := hpo 36 (by kernel_rfl)
            have g36 := t48
            rw [show f 36 = _ from p36] at g36
            refine Or.inl ⟨want1 (g := 36) (s := 48) (b := false) (c := false) rfl (by kernel_rfl) g36, ?_⟩
            clear t48 p36 g36
            clear hdst hpo hold ho
            rw [show f 37 = _ from p37] at t49
            unfold Ans
            go_simp
            refine (known_ok t _ _ _ (HC.out ww hinv)).mono ?_
            rintro e w1 ⟨r, rfl, hb, b, rfl, hr⟩
            exact ⟨_, rfl, ⟨b, rfl, hr⟩, hb⟩
          | 39, ho =>
            obtain rfl : _ = o := Option.some.inj ho
            have t48 : ac.tmps[48]? = some (f 36) := hdst 36 48 (by kernel_rfl) (by kernel_rfl)
            have p36 : (IsV (.bool false)) (f 36) ww := hpo 36 (by kernel_rfl)
            have t3 := hold 3 (by kernel_rfl)
            have g36 := t48
            rw [show f 36 = _ from p36] at g36
            refine Or.inl ⟨want1 (g := 36) (s := 48) (b := false) (c := false) rfl (by kernel_rfl) g36, ?_⟩
            clear t48 p36 g36
            clear hdst hpo hold ho
            obtain ⟨x0, x1, x2, x3, y0, y1, y2, y3⟩ := HA0.out ww hinv
            unfold Ans
            go_simp
            exact ⟨rfl, Below.refl _ _⟩
          | 40, ho =>
            obtain rfl : _ = o := Option.some.inj ho
            have t51 : ac.tmps[51]? = some (f 39) := hdst 39 51 (by kernel_rfl) (by kernel_rfl)
            have p39 : (IsV (.agg #[.int .i64 t.kind, .int .i64 t.n, .string t.s, .slice ta t.args.length tc])) (f 39) ww := hpo 39 (by kernel_rfl)
            have t48 : ac.tmps[48]? = some (f 36) := hdst 36 48 (by kernel_rfl) (by kernel_rfl)
            have p36 : (IsV (.bool false)) (f 36) ww := hpo 36 (by kernel_rfl)
            have g36 := t48
            rw [show f 36 = _ from p36] at g36
            refine Or.inl ⟨want1 (g := 36) (s := 48) (b := false) (c := false) rfl (by kernel_rfl) g36, ?_⟩
            clear t48 p36 g36
            clear hdst hpo hold ho
            rw [show f 39 = _ from p39] at t51
            unfold Ans
            go_simp
            refine (everybody_ok t _ _ _ (HT.out ww hinv)).mono ?_
            rintro e w1 ⟨r, rfl, hb, b, rfl, hr⟩
            exact ⟨_, rfl, ⟨b, rfl, hr⟩, hb⟩
          | 41, ho =>
            obtain rfl : _ = o := Option.some.inj ho
            have t50 : ac.tmps[50]? = some (f 38) := hdst 38 50 (by kernel_rfl) (by kernel_rfl)
            have p38 : (IsB t.Known) (f 38) ww := hpo 38 (by kernel_rfl)
            have t52 : ac.tmps[52]? = some (f 40) := hdst 40 52 (by kernel_rfl) (by kernel_rfl)
            have p40 : (IsB t.Known) (f 40) ww := hpo 40 (by kernel_rfl)
            have t48 : ac.tmps[48]? = some (f 36) := hdst 36 48 (by kernel_rfl) (by kernel_rfl)
            have p36 : (IsV (.bool false)) (f 36) ww := hpo 36 (by kernel_rfl)
            have g36 := t48
            rw [show f 36 = _ from p36] at g36
            refine Or.inl ⟨want1 (g := 36) (s := 48) (b := false) (c := false) rfl (by kernel_rfl) g36, ?_⟩
            clear t48 p36 g36
            clear hdst hpo hold ho
            obtain ⟨b1, e1, h1⟩ := p38
            obtain ⟨b2, e2, h2⟩ := p40
            obtain rfl : b1 = b2 := bool_of_iff h1 h2
            rw [e1] at t50
            rw [e2] at t52
            clear hinv e1 e2 h1 h2
            cases b1 <;> (unfold Ans; go_simp; exact ⟨rfl, Below.refl _ _⟩)
          | 42, ho =>
            obtain rfl : _ = o := Option.some.inj ho
            have t48 : ac.tmps[48]? = some (f 36) := hdst 36 48 (by kernel_rfl) (by kernel_rfl)
            have p36 : (IsV (.bool false)) (f 36) ww := hpo 36 (by kernel_rfl)
            have t53 : ac.tmps[53]? = some (f 41) := hdst 41 53 (by kernel_rfl) (by kernel_rfl)
            have p41 : (IsV (.bool false)) (f 41) ww := hpo 41 (by kernel_rfl)
            refine Or.inl ⟨want0 rfl, ?_⟩
            clear hdst hpo hold ho
            rw [show f 36 = _ from p36] at t48
            rw [show f 41 = _ from p41] at t53
            clear hinv
            unfold Ans
            go_simp
            exact ⟨rfl, Below.refl _ _⟩
          | i + 43, ho => simp at ho
      · intro f ww hinv hpo
        have p42 : f 42 = .bool false := hpo 42 (by decide)
        simp only [fillT, List.setIfInBounds_toArray, List.set_cons_succ, List.set_cons_zero]
        rw [p42]
        have HIB := hid hinv
        clear hinv hpo
        go_wp2_with fail
        go_meet
        exact ⟨rfl, by rw [HW1.out]; exact HIB.out⟩
    · by_cases hk3 : t.kind = 3
      · have HG := hid (show t.IsGoal from .inr hk3)
        have hkb : (t.kind == 1) = false := by simpa using hk1
        have hkc : (t.kind == 3) = true := by simpa using hk3
        clear hk1 hk3
        refine wp_region_each (Inv := fun w' => Below W1.heap.size W1 w') (Po := posts [IsV (.pointer (some ⟨w.heap.size, 2, none⟩)), IsV (.string t.s), IsB (IsName t.s), IsV (.pointer (some ⟨w.heap.size, 2, none⟩)), IsV (.string t.s), IsB (IsName t.s), IsV (.bool false), IsV (.bool false), IsV (.agg #[.int .i64 t.kind, .int .i64 t.n, .string t.s, .slice ca t.args.length cc]), IsV (.int .i64 vars), IsB (t.Good vars), IsV (.agg #[.int .i64 t.kind, .int .i64 t.n, .string t.s, .slice ta t.args.length tc]), IsV (.int .i64 vars), IsB (t.Good vars), IsV (.bool false), IsV (.bool false), IsV (.bool false), IsV (.agg #[.int .i64 t.kind, .int .i64 t.n, .string t.s, .slice ca t.args.length cc]), IsV (.int .i64 t.nodes), IsV (.agg #[.int .i64 t.kind, .int .i64 t.n, .string t.s, .slice ta t.args.length tc]), IsV (.int .i64 t.nodes), IsV (.bool false), IsV (.bool false), IsV (.bool false), IsV (.agg #[.int .i64 t.kind, .int .i64 t.n, .string t.s, .slice ca t.args.length cc]), IsB t.IsGoal, IsV (.pointer (some ⟨w.heap.size, 0, none⟩)), IsV (.int .i64 t.kind), IsV (.bool false), IsV (.bool false), IsV (.pointer (some ⟨w.heap.size, 0, none⟩)), IsV (.int .i64 t.kind), IsV (.bool true), IsV (.bool true), IsV (.bool false), IsV (.bool false), IsV (.bool false), IsV (.agg #[.int .i64 t.kind, .int .i64 t.n, .string t.s, .slice ca t.args.length cc]), IsB t.Known, IsV (.agg #[.int .i64 t.kind, .int .i64 t.n, .string t.s, .slice ta t.args.length tc]), IsB t.Known, IsV (.bool false), IsV (.bool false)]) (Rl := fun w w' => Below w.heap.size w w') (by kernel_rfl) (by kernel_rfl) (by kernel_rfl) ((Below.refl _ _).drew) ?_ ?_ ?_ ?_
        · refine posts_stay fun R hR => ?_
          simp only [List.mem_cons, List.not_mem_nil, or_false] at hR
          rcases hR with rfl | rfl | rfl | rfl | rfl | rfl | rfl | rfl | rfl | rfl | rfl | rfl | rfl | rfl | rfl | rfl | rfl | rfl | rfl | rfl | rfl | rfl | rfl | rfl | rfl | rfl | rfl | rfl | rfl | rfl | rfl | rfl | rfl | rfl | rfl | rfl | rfl | rfl | rfl | rfl | rfl | rfl | rfl <;> first | exact stays_V _ | exact stays_any | exact stays_B _ | exact stays_Tm _ | exact stays_Tms _ | exact stays_Cs _ | exact stays_Ns _ | exact stays_Bs _ | exact stays_Hp _ | exact stays_OC _ _ | exact stays_ON _ _
        · exact fun w1 w2 h h' => h.trans (h'.mono h.size)
        · intro i o ho f ac ww hinv hpo hdst hold
          match i, ho with
            | 0, ho =>
              obtain rfl : _ = o := Option.some.inj ho
              have t3 := hold 3 (by kernel_rfl)
              refine Or.inl ⟨want0 rfl, ?_⟩
              clear hdst hpo hold ho
              clear hinv
              unfold Ans
              go_simp
              exact ⟨rfl, Below.refl _ _⟩
            | 1, ho =>
              obtain rfl : _ = o := Option.some.inj ho
              have t12 : ac.tmps[12]? = some (f 0) := hdst 0 12 (by kernel_rfl) (by kernel_rfl)
              have p0 : (IsV (.pointer (some ⟨w.heap.size, 2, none⟩))) (f 0) ww := hpo 0 (by kernel_rfl)
              refine Or.inl ⟨want0 rfl, ?_⟩
              clear hdst hpo hold ho
              rw [show f 0 = _ from p0] at t12
              obtain ⟨x0, x1, x2, x3, y0, y1, y2, y3⟩ := HA0.out ww hinv
              unfold Ans
              go_simp
              exact ⟨rfl, Below.refl _ _⟩
            | 2, ho =>
              obtain rfl : _ = o := Option.some.inj ho
              have t13 : ac.tmps[13]? = some (f 1) := hdst 1 13 (by kernel_rfl) (by kernel_rfl)
              have p1 : (IsV (.string t.s)) (f 1) ww := hpo 1 (by kernel_rfl)
              refine Or.inl ⟨want0 rfl, ?_⟩
              clear hdst hpo hold ho
              rw [show f 1 = _ from p1] at t13
              unfold Ans
              go_simp
              refine (named_ok t.s _ HS.out).mono ?_
              rintro e w1 ⟨r, rfl, hr, rfl⟩
              exact ⟨_, rfl, ⟨r, rfl, hr⟩, Below.refl _ _⟩
            | 3, ho =>
              obtain rfl : _ = o := Option.some.inj ho
              have t3 := hold 3 (by kernel_rfl)
              refine Or.inl ⟨want0 rfl, ?_⟩
              clear hdst hpo hold ho
              clear hinv
              unfold Ans
              go_simp
              exact ⟨rfl, Below.refl _ _⟩
            | 4, ho =>
              obtain rfl : _ = o := Option.some.inj ho
              have t15 : ac.tmps[15]? = some (f 3) := hdst 3 15 (by kernel_rfl) (by kernel_rfl)
              have p3 : (IsV (.pointer (some ⟨w.heap.size, 2, none⟩))) (f 3) ww := hpo 3 (by kernel_rfl)
              refine Or.inl ⟨want0 rfl, ?_⟩
              clear hdst hpo hold ho
              rw [show f 3 = _ from p3] at t15
              obtain ⟨x0, x1, x2, x3, y0, y1, y2, y3⟩ := HA0.out ww hinv
              unfold Ans
              go_simp
              exact ⟨rfl, Below.refl _ _⟩
            | 5, ho =>
              obtain rfl : _ = o := Option.some.inj ho
              have t16 : ac.tmps[16]? = some (f 4) := hdst 4 16 (by kernel_rfl) (by kernel_rfl)
              have p4 : (IsV (.string t.s)) (f 4) ww := hpo 4 (by kernel_rfl)
              refine Or.inl ⟨want0 rfl, ?_⟩
              clear hdst hpo hold ho
              rw [show f 4 = _ from p4] at t16
              unfold Ans
              go_simp
              refine (isName_ok t.s _ HS.out).mono ?_
              rintro e w1 ⟨r, rfl, hb, b, rfl, hr⟩
              exact ⟨_, rfl, ⟨b, rfl, hr⟩, hb⟩
            | 6, ho =>
              obtain rfl : _ = o := Option.some.inj ho
              have t14 : ac.tmps[14]? = some (f 2) := hdst 2 14 (by kernel_rfl) (by kernel_rfl)
              have p2 : (IsB (IsName t.s)) (f 2) ww := hpo 2 (by kernel_rfl)
              have t17 : ac.tmps[17]? = some (f 5) := hdst 5 17 (by kernel_rfl) (by kernel_rfl)
              have p5 : (IsB (IsName t.s)) (f 5) ww := hpo 5 (by kernel_rfl)
              refine Or.inl ⟨want0 rfl, ?_⟩
              clear hdst hpo hold ho
              obtain ⟨b1, e1, h1⟩ := p2
              obtain ⟨b2, e2, h2⟩ := p5
              obtain rfl : b1 = b2 := bool_of_iff h1 h2
              rw [e1] at t14
              rw [e2] at t17
              clear hinv e1 e2 h1 h2
              cases b1 <;> (unfold Ans; go_simp; exact ⟨rfl, Below.refl _ _⟩)
            | 7, ho =>
              obtain rfl : _ = o := Option.some.inj ho
              have t18 : ac.tmps[18]? = some (f 6) := hdst 6 18 (by kernel_rfl) (by kernel_rfl)
              have p6 : (IsV (.bool false)) (f 6) ww := hpo 6 (by kernel_rfl)
              refine Or.inl ⟨want0 rfl, ?_⟩
              clear hdst hpo hold ho
              rw [show f 6 = _ from p6] at t18
              clear hinv
              unfold Ans
              go_simp
              exact ⟨rfl, Below.refl _ _⟩
            | 8, ho =>
              obtain rfl : _ = o := Option.some.inj ho
              have t19 : ac.tmps[19]? = some (f 7) := hdst 7 19 (by kernel_rfl) (by kernel_rfl)
              have p7 : (IsV (.bool false)) (f 7) ww := hpo 7 (by kernel_rfl)
              have t7 := hold 7 (by kernel_rfl)
              have g7 := t19
              rw [show f 7 = _ from p7] at g7
              refine Or.inl ⟨want1 (g := 7) (s := 19) (b := false) (c := false) rfl (by kernel_rfl) g7, ?_⟩
              clear t19 p7 g7
              clear hdst hpo hold ho
              obtain ⟨x0, x1, x2, x3, y0, y1, y2, y3⟩ := HA0.out ww hinv
              unfold Ans
              go_simp
              exact ⟨rfl, Below.refl _ _⟩
            | 9, ho =>
              obtain rfl : _ = o := Option.some.inj ho
              have t19 : ac.tmps[19]? = some (f 7) := hdst 7 19 (by kernel_rfl) (by kernel_rfl)
              have p7 : (IsV (.bool false)) (f 7) ww := hpo 7 (by kernel_rfl)
              have t1 := hold 1 (by kernel_rfl)
              have g7 := t19
              rw [show f 7 = _ from p7] at g7
              refine Or.inl ⟨want1 (g := 7) (s := 19) (b := false) (c := false) rfl (by kernel_rfl) g7, ?_⟩
              clear t19 p7 g7
              clear hdst hpo hold ho
              clear hinv
              unfold Ans
              go_simp
              exact ⟨rfl, Below.refl _ _⟩
            | 10, ho =>
              obtain rfl : _ = o := Option.some.inj ho
              have t20 : ac.tmps[20]? = some (f 8) := hdst 8 20 (by kernel_rfl) (by kernel_rfl)
              have p8 : (IsV (.agg #[.int .i64 t.kind, .int .i64 t.n, .string t.s, .slice ca t.args.length cc])) (f 8) ww := hpo 8 (by kernel_rfl)
              have t21 : ac.tmps[21]? = some (f 9) := hdst 9 21 (by kernel_rfl) (by kernel_rfl)
              have p9 : (IsV (.int .i64 vars)) (f 9) ww := hpo 9 (by kernel_rfl)
              have t19 : ac.tmps[19]? = some (f 7) := hdst 7 19 (by kernel_rfl) (by kernel_rfl)
              have p7 : (IsV (.bool false)) (f 7) ww := hpo 7 (by kernel_rfl)
              have g7 := t19
              rw [show f 7 = _ from p7] at g7
              refine Or.inl ⟨want1 (g := 7) (s := 19) (b := false) (c := false) rfl (by kernel_rfl) g7, ?_⟩
              clear t19 p7 g7
              clear hdst hpo hold ho
              rw [show f 8 = _ from p8] at t20
              rw [show f 9 = _ from p9] at t21
              unfold Ans
              go_simp
              refine (goodT_ok t vars _ _ _ HV.out (HC.out ww hinv)).mono ?_
              rintro e w1 ⟨r, rfl, hb, b, rfl, hr⟩
              exact ⟨_, rfl, ⟨b, rfl, hr⟩, hb⟩
            | 11, ho =>
              obtain rfl : _ = o := Option.some.inj ho
              have t19 : ac.tmps[19]? = some (f 7) := hdst 7 19 (by kernel_rfl) (by kernel_rfl)
              have p7 : (IsV (.bool false)) (f 7) ww := hpo 7 (by kernel_rfl)
              have t3 := hold 3 (by kernel_rfl)
              have g7 := t19
              rw [show f 7 = _ from p7] at g7
              refine Or.inl ⟨want1 (g := 7) (s := 19) (b := false) (c := false) rfl (by kernel_rfl) g7, ?_⟩
              clear t19 p7 g7
              clear hdst hpo hold ho
              obtain ⟨x0, x1, x2, x3, y0, y1, y2, y3⟩ := HA0.out ww hinv
              unfold Ans
              go_simp
              exact ⟨rfl, Below.refl _ _⟩
            | 12, ho =>
              obtain rfl : _ = o := Option.some.inj ho
              have t19 : ac.tmps[19]? = some (f 7) := hdst 7 19 (by kernel_rfl) (by kernel_rfl)
              have p7 : (IsV (.bool false)) (f 7) ww := hpo 7 (by kernel_rfl)
              have t1 := hold 1 (by kernel_rfl)
              have g7 := t19
              rw [show f 7 = _ from p7] at g7
              refine Or.inl ⟨want1 (g := 7) (s := 19) (b := false) (c := false) rfl (by kernel_rfl) g7, ?_⟩
              clear t19 p7 g7
              clear hdst hpo hold ho
              clear hinv
              unfold Ans
              go_simp
              exact ⟨rfl, Below.refl _ _⟩
            | 13, ho =>
              obtain rfl : _ = o := Option.some.inj ho
              have t23 : ac.tmps[23]? = some (f 11) := hdst 11 23 (by kernel_rfl) (by kernel_rfl)
              have p11 : (IsV (.agg #[.int .i64 t.kind, .int .i64 t.n, .string t.s, .slice ta t.args.length tc])) (f 11) ww := hpo 11 (by kernel_rfl)
              have t24 : ac.tmps[24]? = some (f 12) := hdst 12 24 (by kernel_rfl) (by kernel_rfl)
              have p12 : (IsV (.int .i64 vars)) (f 12) ww := hpo 12 (by kernel_rfl)
              have t19 : ac.tmps[19]? = some (f 7) := hdst 7 19 (by kernel_rfl) (by kernel_rfl)
              have p7 : (IsV (.bool false)) (f 7) ww := hpo 7 (by kernel_rfl)
              have g7 := t19
              rw [show f 7 = _ from p7] at g7
              refine Or.inl ⟨want1 (g := 7) (s := 19) (b := false) (c := false) rfl (by kernel_rfl) g7, ?_⟩
              clear t19 p7 g7
              clear hdst hpo hold ho
              rw [show f 11 = _ from p11] at t23
              rw [show f 12 = _ from p12] at t24
              unfold Ans
              go_simp
              refine (isTerm_ok t vars _ _ _ HV.out (HT.out ww hinv)).mono ?_
              rintro e w1 ⟨r, rfl, hb, b, rfl, hr⟩
              exact ⟨_, rfl, ⟨b, rfl, hr⟩, hb⟩
            | 14, ho =>
              obtain rfl : _ = o := Option.some.inj ho
              have t22 : ac.tmps[22]? = some (f 10) := hdst 10 22 (by kernel_rfl) (by kernel_rfl)
              have p10 : (IsB (t.Good vars)) (f 10) ww := hpo 10 (by kernel_rfl)
              have t25 : ac.tmps[25]? = some (f 13) := hdst 13 25 (by kernel_rfl) (by kernel_rfl)
              have p13 : (IsB (t.Good vars)) (f 13) ww := hpo 13 (by kernel_rfl)
              have t19 : ac.tmps[19]? = some (f 7) := hdst 7 19 (by kernel_rfl) (by kernel_rfl)
              have p7 : (IsV (.bool false)) (f 7) ww := hpo 7 (by kernel_rfl)
              have g7 := t19
              rw [show f 7 = _ from p7] at g7
              refine Or.inl ⟨want1 (g := 7) (s := 19) (b := false) (c := false) rfl (by kernel_rfl) g7, ?_⟩
              clear t19 p7 g7
              clear hdst hpo hold ho
              obtain ⟨b1, e1, h1⟩ := p10
              obtain ⟨b2, e2, h2⟩ := p13
              obtain rfl : b1 = b2 := bool_of_iff h1 h2
              rw [e1] at t22
              rw [e2] at t25
              clear hinv e1 e2 h1 h2
              cases b1 <;> (unfold Ans; go_simp; exact ⟨rfl, Below.refl _ _⟩)
            | 15, ho =>
              obtain rfl : _ = o := Option.some.inj ho
              have t19 : ac.tmps[19]? = some (f 7) := hdst 7 19 (by kernel_rfl) (by kernel_rfl)
              have p7 : (IsV (.bool false)) (f 7) ww := hpo 7 (by kernel_rfl)
              have t26 : ac.tmps[26]? = some (f 14) := hdst 14 26 (by kernel_rfl) (by kernel_rfl)
              have p14 : (IsV (.bool false)) (f 14) ww := hpo 14 (by kernel_rfl)
              refine Or.inl ⟨want0 rfl, ?_⟩
              clear hdst hpo hold ho
              rw [show f 7 = _ from p7] at t19
              rw [show f 14 = _ from p14] at t26
              clear hinv
              unfold Ans
              go_simp
              exact ⟨rfl, Below.refl _ _⟩
            | 16, ho =>
              obtain rfl : _ = o := Option.some.inj ho
              have t27 : ac.tmps[27]? = some (f 15) := hdst 15 27 (by kernel_rfl) (by kernel_rfl)
              have p15 : (IsV (.bool false)) (f 15) ww := hpo 15 (by kernel_rfl)
              refine Or.inl ⟨want0 rfl, ?_⟩
              clear hdst hpo hold ho
              rw [show f 15 = _ from p15] at t27
              clear hinv
              unfold Ans
              go_simp
              exact ⟨rfl, Below.refl _ _⟩
            | 17, ho =>
              obtain rfl : _ = o := Option.some.inj ho
              have t28 : ac.tmps[28]? = some (f 16) := hdst 16 28 (by kernel_rfl) (by kernel_rfl)
              have p16 : (IsV (.bool false)) (f 16) ww := hpo 16 (by kernel_rfl)
              have t7 := hold 7 (by kernel_rfl)
              have g16 := t28
              rw [show f 16 = _ from p16] at g16
              refine Or.inl ⟨want1 (g := 16) (s := 28) (b := false) (c := false) rfl (by kernel_rfl) g16, ?_⟩
              clear t28 p16 g16
              clear hdst hpo hold ho
              obtain ⟨x0, x1, x2, x3, y0, y1, y2, y3⟩ := HA0.out ww hinv
              unfold Ans
              go_simp
              exact ⟨rfl, Below.refl _ _⟩
            | 18, ho =>
              obtain rfl : _ = o := Option.some.inj ho
              have t29 : ac.tmps[29]? = some (f 17) := hdst 17 29 (by kernel_rfl) (by kernel_rfl)
              have p17 : (IsV (.agg #[.int .i64 t.kind, .int .i64 t.n, .string t.s, .slice ca t.args.length cc])) (f 17) ww := hpo 17 (by kernel_rfl)
              have t28 : ac.tmps[28]? = some (f 16) := hdst 16 28 (by kernel_rfl) (by kernel_rfl)
              have p16 : (IsV (.bool false)) (f 16) ww := hpo 16 (by kernel_rfl)
              have g16 := t28
              rw [show f 16 = _ from p16] at g16
              refine Or.inl ⟨want1 (g := 16) (s := 28) (b := false) (c := false) rfl (by kernel_rfl) g16, ?_⟩
              clear t28 p16 g16
              clear hdst hpo hold ho
              rw [show f 17 = _ from p17] at t29
              unfold Ans
              go_simp
              refine (nodes_ok t _ _ _ HN2.out (HC.out ww hinv)).mono ?_
              rintro e w1 ⟨r, rfl, hb, rfl⟩
              exact ⟨_, rfl, rfl, hb⟩
            | 19, ho =>
              obtain rfl : _ = o := Option.some.inj ho
              have t28 : ac.tmps[28]? = some (f 16) := hdst 16 28 (by kernel_rfl) (by kernel_rfl)
              have p16 : (IsV (.bool false)) (f 16) ww := hpo 16 (by kernel_rfl)
              have t3 := hold 3 (by kernel_rfl)
              have g16 := t28
              rw [show f 16 = _ from p16] at g16
              refine Or.inl ⟨want1 (g := 16) (s := 28) (b := false) (c := false) rfl (by kernel_rfl) g16, ?_⟩
              clear t28 p16 g16
              clear hdst hpo hold ho
              obtain ⟨x0, x1, x2, x3, y0, y1, y2, y3⟩ := HA0.out ww hinv
              unfold Ans
              go_simp
              exact ⟨rfl, Below.refl _ _⟩
            | 20, ho =>
              obtain rfl : _ = o := Option.some.inj ho
              have t31 : ac.tmps[31]? = some (f 19) := hdst 19 31 (by kernel_rfl) (by kernel_rfl)
              have p19 : (IsV (.agg #[.int .i64 t.kind, .int .i64 t.n, .string t.s, .slice ta t.args.length tc])) (f 19) ww := hpo 19 (by kernel_rfl)
              have t28 : ac.tmps[28]? = some (f 16) := hdst 16 28 (by kernel_rfl) (by kernel_rfl)
              have p16 : (IsV (.bool false)) (f 16) ww := hpo 16 (by kernel_rfl)
              have g16 := t28
              rw [show f 16 = _ from p16] at g16
              refine Or.inl ⟨want1 (g := 16) (s := 28) (b := false) (c := false) rfl (by kernel_rfl) g16, ?_⟩
              clear t28 p16 g16
              clear hdst hpo hold ho
              rw [show f 19 = _ from p19] at t31
              unfold Ans
              go_simp
              refine (nodesOf_ok t HN.out _ _ _ (HT.out ww hinv)).mono ?_
              rintro e w1 ⟨r, rfl, hb, rfl⟩
              exact ⟨_, rfl, rfl, hb⟩
            | 21, ho =>
              obtain rfl : _ = o := Option.some.inj ho
              have t30 : ac.tmps[30]? = some (f 18) := hdst 18 30 (by kernel_rfl) (by kernel_rfl)
              have p18 : (IsV (.int .i64 t.nodes)) (f 18) ww := hpo 18 (by kernel_rfl)
              have t32 : ac.tmps[32]? = some (f 20) := hdst 20 32 (by kernel_rfl) (by kernel_rfl)
              have p20 : (IsV (.int .i64 t.nodes)) (f 20) ww := hpo 20 (by kernel_rfl)
              have t28 : ac.tmps[28]? = some (f 16) := hdst 16 28 (by kernel_rfl) (by kernel_rfl)
              have p16 : (IsV (.bool false)) (f 16) ww := hpo 16 (by kernel_rfl)
              have g16 := t28
              rw [show f 16 = _ from p16] at g16
              refine Or.inl ⟨want1 (g := 16) (s := 28) (b := false) (c := false) rfl (by kernel_rfl) g16, ?_⟩
              clear t28 p16 g16
              clear hdst hpo hold ho
              rw [show f 18 = _ from p18] at t30
              rw [show f 20 = _ from p20] at t32
              clear hinv
              unfold Ans
              go_simp
              exact ⟨(by first | rfl | (show Value.bool _ = Value.bool false; simp)), Below.refl _ _⟩
            | 22, ho =>
              obtain rfl : _ = o := Option.some.inj ho
              have t28 : ac.tmps[28]? = some (f 16) := hdst 16 28 (by kernel_rfl) (by kernel_rfl)
              have p16 : (IsV (.bool false)) (f 16) ww := hpo 16 (by kernel_rfl)
              have t33 : ac.tmps[33]? = some (f 21) := hdst 21 33 (by kernel_rfl) (by kernel_rfl)
              have p21 : (IsV (.bool false)) (f 21) ww := hpo 21 (by kernel_rfl)
              refine Or.inl ⟨want0 rfl, ?_⟩
              clear hdst hpo hold ho
              rw [show f 16 = _ from p16] at t28
              rw [show f 21 = _ from p21] at t33
              clear hinv
              unfold Ans
              go_simp
              exact ⟨rfl, Below.refl _ _⟩
            | 23, ho =>
              obtain rfl : _ = o := Option.some.inj ho
              have t34 : ac.tmps[34]? = some (f 22) := hdst 22 34 (by kernel_rfl) (by kernel_rfl)
              have p22 : (IsV (.bool false)) (f 22) ww := hpo 22 (by kernel_rfl)
              refine Or.inl ⟨want0 rfl, ?_⟩
              clear hdst hpo hold ho
              rw [show f 22 = _ from p22] at t34
              clear hinv
              unfold Ans
              go_simp
              exact ⟨rfl, Below.refl _ _⟩
            | 24, ho =>
              obtain rfl : _ = o := Option.some.inj ho
              have t35 : ac.tmps[35]? = some (f 23) := hdst 23 35 (by kernel_rfl) (by kernel_rfl)
              have p23 : (IsV (.bool false)) (f 23) ww := hpo 23 (by kernel_rfl)
              have t7 := hold 7 (by kernel_rfl)
              have g23 := t35
              rw [show f 23 = _ from p23] at g23
              refine Or.inl ⟨want1 (g := 23) (s := 35) (b := false) (c := false) rfl (by kernel_rfl) g23, ?_⟩
              clear t35 p23 g23
              clear hdst hpo hold ho
              obtain ⟨x0, x1, x2, x3, y0, y1, y2, y3⟩ := HA0.out ww hinv
              unfold Ans
              go_simp
              exact ⟨rfl, Below.refl _ _⟩
            | 25, ho =>
              obtain rfl : _ = o := Option.some.inj ho
              have t36 : ac.tmps[36]? = some (f 24) := hdst 24 36 (by kernel_rfl) (by kernel_rfl)
              have p24 : (IsV (.agg #[.int .i64 t.kind, .int .i64 t.n, .string t.s, .slice ca t.args.length cc])) (f 24) ww := hpo 24 (by kernel_rfl)
              have t35 : ac.tmps[35]? = some (f 23) := hdst 23 35 (by kernel_rfl) (by kernel_rfl)
              have p23 : (IsV (.bool false)) (f 23) ww := hpo 23 (by kernel_rfl)
              have g23 := t35
              rw [show f 23 = _ from p23] at g23
              refine Or.inl ⟨want1 (g := 23) (s := 35) (b := false) (c := false) rfl (by kernel_rfl) g23, ?_⟩
              clear t35 p23 g23
              clear hdst hpo hold ho
              rw [show f 24 = _ from p24] at t36
              unfold Ans
              go_simp
              refine (isGoal_ok t _ _ _ (HC.out ww hinv)).mono ?_
              rintro e w1 ⟨r, rfl, hb, b, rfl, hr⟩
              exact ⟨_, rfl, ⟨b, rfl, hr⟩, hb⟩
            | 26, ho =>
              obtain rfl : _ = o := Option.some.inj ho
              have t35 : ac.tmps[35]? = some (f 23) := hdst 23 35 (by kernel_rfl) (by kernel_rfl)
              have p23 : (IsV (.bool false)) (f 23) ww := hpo 23 (by kernel_rfl)
              have t3 := hold 3 (by kernel_rfl)
              have g23 := t35
              rw [show f 23 = _ from p23] at g23
              refine Or.inl ⟨want1 (g := 23) (s := 35) (b := false) (c := false) rfl (by kernel_rfl) g23, ?_⟩
              clear t35 p23 g23
              clear hdst hpo hold ho
              clear hinv
              unfold Ans
              go_simp
              exact ⟨rfl, Below.refl _ _⟩
            | 27, ho =>
              obtain rfl : _ = o := Option.some.inj ho
              have t38 : ac.tmps[38]? = some (f 26) := hdst 26 38 (by kernel_rfl) (by kernel_rfl)
              have p26 : (IsV (.pointer (some ⟨w.heap.size, 0, none⟩))) (f 26) ww := hpo 26 (by kernel_rfl)
              have t35 : ac.tmps[35]? = some (f 23) := hdst 23 35 (by kernel_rfl) (by kernel_rfl)
              have p23 : (IsV (.bool false)) (f 23) ww := hpo 23 (by kernel_rfl)
              have g23 := t35
              rw [show f 23 = _ from p23] at g23
              refine Or.inl ⟨want1 (g := 23) (s := 35) (b := false) (c := false) rfl (by kernel_rfl) g23, ?_⟩
              clear t35 p23 g23
              clear hdst hpo hold ho
              rw [show f 26 = _ from p26] at t38
              obtain ⟨x0, x1, x2, x3, y0, y1, y2, y3⟩ := HA0.out ww hinv
              unfold Ans
              go_simp
              exact ⟨rfl, Below.refl _ _⟩
            | 28, ho =>
              obtain rfl : _ = o := Option.some.inj ho
              have t39 : ac.tmps[39]? = some (f 27) := hdst 27 39 (by kernel_rfl) (by kernel_rfl)
              have p27 : (IsV (.int .i64 t.kind)) (f 27) ww := hpo 27 (by kernel_rfl)
              have t35 : ac.tmps[35]? = some (f 23) := hdst 23 35 (by kernel_rfl) (by kernel_rfl)
              have p23 : (IsV (.bool false)) (f 23) ww := hpo 23 (by kernel_rfl)
              have g23 := t35
              rw [show f 23 = _ from p23] at g23
              refine Or.inl ⟨want1 (g := 23) (s := 35) (b := false) (c := false) rfl (by kernel_rfl) g23, ?_⟩
              clear t35 p23 g23
              clear hdst hpo hold ho
              rw [show f 27 = _ from p27] at t39
              clear hinv
              unfold Ans
              go_simp
              exact ⟨rfl, Below.refl _ _⟩
            | 29, ho =>
              obtain rfl : _ = o := Option.some.inj ho
              have t40 : ac.tmps[40]? = some (f 28) := hdst 28 40 (by kernel_rfl) (by kernel_rfl)
              have p28 : (IsV (.bool false)) (f 28) ww := hpo 28 (by kernel_rfl)
              have t35 : ac.tmps[35]? = some (f 23) := hdst 23 35 (by kernel_rfl) (by kernel_rfl)
              have p23 : (IsV (.bool false)) (f 23) ww := hpo 23 (by kernel_rfl)
              have g23 := t35
              rw [show f 23 = _ from p23] at g23
              refine Or.inl ⟨want1 (g := 23) (s := 35) (b := false) (c := false) rfl (by kernel_rfl) g23, ?_⟩
              clear t35 p23 g23
              clear hdst hpo hold ho
              rw [show f 28 = _ from p28] at t40
              clear hinv
              unfold Ans
              go_simp
              exact ⟨rfl, Below.refl _ _⟩
            | 30, ho =>
              obtain rfl : _ = o := Option.some.inj ho
              have t41 : ac.tmps[41]? = some (f 29) := hdst 29 41 (by kernel_rfl) (by kernel_rfl)
              have p29 : (IsV (.bool false)) (f 29) ww := hpo 29 (by kernel_rfl)
              have t3 := hold 3 (by kernel_rfl)
              have g29 := t41
              rw [show f 29 = _ from p29] at g29
              refine Or.inl ⟨want1 (g := 29) (s := 41) (b := false) (c := false) rfl (by kernel_rfl) g29, ?_⟩
              clear t41 p29 g29
              clear hdst hpo hold ho
              clear hinv
              unfold Ans
              go_simp
              exact ⟨rfl, Below.refl _ _⟩
            | 31, ho =>
              obtain rfl : _ = o := Option.some.inj ho
              have t42 : ac.tmps[42]? = some (f 30) := hdst 30 42 (by kernel_rfl) (by kernel_rfl)
              have p30 : (IsV (.pointer (some ⟨w.heap.size, 0, none⟩))) (f 30) ww := hpo 30 (by kernel_rfl)
              have t41 : ac.tmps[41]? = some (f 29) := hdst 29 41 (by kernel_rfl) (by kernel_rfl)
              have p29 : (IsV (.bool false)) (f 29) ww := hpo 29 (by kernel_rfl)
              have g29 := t41
              rw [show f 29 = _ from p29] at g29
              refine Or.inl ⟨want1 (g := 29) (s := 41) (b := false) (c := false) rfl (by kernel_rfl) g29, ?_⟩
              clear t41 p29 g29
              clear hdst hpo hold ho
              rw [show f 30 = _ from p30] at t42
              obtain ⟨x0, x1, x2, x3, y0, y1, y2, y3⟩ := HA0.out ww hinv
              unfold Ans
              go_simp
              exact ⟨rfl, Below.refl _ _⟩
            | 32, ho =>
              obtain rfl : _ = o := Option.some.inj ho
              have t43 : ac.tmps[43]? = some (f 31) := hdst 31 43 (by kernel_rfl) (by kernel_rfl)
              have p31 : (IsV (.int .i64 t.kind)) (f 31) ww := hpo 31 (by kernel_rfl)
              have t41 : ac.tmps[41]? = some (f 29) := hdst 29 41 (by kernel_rfl) (by kernel_rfl)
              have p29 : (IsV (.bool false)) (f 29) ww := hpo 29 (by kernel_rfl)
              have g29 := t41
              rw [show f 29 = _ from p29] at g29
              refine Or.inl ⟨want1 (g := 29) (s := 41) (b := false) (c := false) rfl (by kernel_rfl) g29, ?_⟩
              clear t41 p29 g29
              clear hdst hpo hold ho
              rw [show f 31 = _ from p31] at t43
              clear hinv
              unfold Ans
              go_simp
              exact ⟨rfl, Below.refl _ _⟩
            | 33, ho =>
              obtain rfl : _ = o := Option.some.inj ho
              have t41 : ac.tmps[41]? = some (f 29) := hdst 29 41 (by kernel_rfl) (by kernel_rfl)
              have p29 : (IsV (.bool false)) (f 29) ww := hpo 29 (by kernel_rfl)
              have t44 : ac.tmps[44]? = some (f 32) := hdst 32 44 (by kernel_rfl) (by kernel_rfl)
              have p32 : (IsV (.bool true)) (f 32) ww := hpo 32 (by kernel_rfl)
              have t35 : ac.tmps[35]? = some (f 23) := hdst 23 35 (by kernel_rfl) (by kernel_rfl)
              have p23 : (IsV (.bool false)) (f 23) ww := hpo 23 (by kernel_rfl)
              have g23 := t35
              rw [show f 23 = _ from p23] at g23
              refine Or.inl ⟨want1 (g := 23) (s := 35) (b := false) (c := false) rfl (by kernel_rfl) g23, ?_⟩
              clear t35 p23 g23
              clear hdst hpo hold ho
              rw [show f 29 = _ from p29] at t41
              rw [show f 32 = _ from p32] at t44
              clear hinv
              unfold Ans
              go_simp
              exact ⟨rfl, Below.refl _ _⟩
            | 34, ho =>
              obtain rfl : _ = o := Option.some.inj ho
              have t37 : ac.tmps[37]? = some (f 25) := hdst 25 37 (by kernel_rfl) (by kernel_rfl)
              have p25 : (IsB t.IsGoal) (f 25) ww := hpo 25 (by kernel_rfl)
              have t45 : ac.tmps[45]? = some (f 33) := hdst 33 45 (by kernel_rfl) (by kernel_rfl)
              have p33 : (IsV (.bool true)) (f 33) ww := hpo 33 (by kernel_rfl)
              have t35 : ac.tmps[35]? = some (f 23) := hdst 23 35 (by kernel_rfl) (by kernel_rfl)
              have p23 : (IsV (.bool false)) (f 23) ww := hpo 23 (by kernel_rfl)
              have g23 := t35
              rw [show f 23 = _ from p23] at g23
              refine Or.inl ⟨want1 (g := 23) (s := 35) (b := false) (c := false) rfl (by kernel_rfl) g23, ?_⟩
              clear t35 p23 g23
              clear hdst hpo hold ho
              rw [show f 33 = _ from p33] at t45
              obtain ⟨b1, e1, h1⟩ := p25
              obtain rfl : b1 = true := h1.2 HG.out
              rw [e1] at t37
              clear hinv e1 h1
              unfold Ans
              go_simp
              exact ⟨(by first | rfl | (show Value.bool _ = Value.bool false; simp)), Below.refl _ _⟩
            | 35, ho =>
              obtain rfl : _ = o := Option.some.inj ho
              have t35 : ac.tmps[35]? = some (f 23) := hdst 23 35 (by kernel_rfl) (by kernel_rfl)
              have p23 : (IsV (.bool false)) (f 23) ww := hpo 23 (by kernel_rfl)
              have t46 : ac.tmps[46]? = some (f 34) := hdst 34 46 (by kernel_rfl) (by kernel_rfl)
              have p34 : (IsV (.bool false)) (f 34) ww := hpo 34 (by kernel_rfl)
              refine Or.inl ⟨want0 rfl, ?_⟩
              clear hdst hpo hold ho
              rw [show f 23 = _ from p23] at t35
              rw [show f 34 = _ from p34] at t46
              clear hinv
              unfold Ans
              go_simp
              exact ⟨rfl, Below.refl _ _⟩
            | 36, ho =>
              obtain rfl : _ = o := Option.some.inj ho
              have t47 : ac.tmps[47]? = some (f 35) := hdst 35 47 (by kernel_rfl) (by kernel_rfl)
              have p35 : (IsV (.bool false)) (f 35) ww := hpo 35 (by kernel_rfl)
              refine Or.inl ⟨want0 rfl, ?_⟩
              clear hdst hpo hold ho
              rw [show f 35 = _ from p35] at t47
              clear hinv
              unfold Ans
              go_simp
              exact ⟨rfl, Below.refl _ _⟩
            | 37, ho =>
              obtain rfl : _ = o := Option.some.inj ho
              have t48 : ac.tmps[48]? = some (f 36) := hdst 36 48 (by kernel_rfl) (by kernel_rfl)
              have p36 : (IsV (.bool false)) (f 36) ww := hpo 36 (by kernel_rfl)
              have t7 := hold 7 (by kernel_rfl)
              have g36 := t48
              rw [show f 36 = _ from p36] at g36
              refine Or.inl ⟨want1 (g := 36) (s := 48) (b := false) (c := false) rfl (by kernel_rfl) g36, ?_⟩
              clear t48 p36 g36
              clear hdst hpo hold ho
              obtain ⟨x0, x1, x2, x3, y0, y1, y2, y3⟩ := HA0.out ww hinv
              unfold Ans
              go_simp
              exact ⟨rfl, Below.refl _ _⟩
            | 38, ho =>
              obtain rfl : _ = o := Option.some.inj ho
              have t49 : ac.tmps[49]? = some (f 37) := hdst 37 49 (by kernel_rfl) (by kernel_rfl)
              have p37 : (IsV (.agg #[.int .i64 t.kind, .int .i64 t.n, .string t.s, .slice ca t.args.length cc])) (f 37) ww := hpo 37 (by kernel_rfl)
              have t48 : ac.tmps[48]? = some (f 36) := hdst 36 48 (by kernel_rfl) (by kernel_rfl)
              have p36 : (IsV (.bool false)) (f 36) ww := hpo 36 (by kernel_rfl)
              have g36 := t48
              rw [show f 36 = _ from p36] at g36
              refine Or.inl ⟨want1 (g := 36) (s := 48) (b := false) (c := false) rfl (by kernel_rfl) g36, ?_⟩
              clear t48 p36 g36
              clear hdst hpo hold ho
              rw [show f 37 = _ from p37] at t49
              unfold Ans
              go_simp
              refine (known_ok t _ _ _ (HC.out ww hinv)).mono ?_
              rintro e w1 ⟨r, rfl, hb, b, rfl, hr⟩
              exact ⟨_, rfl, ⟨b, rfl, hr⟩, hb⟩
            | 39, ho =>
              obtain rfl : _ = o := Option.some.inj ho
              have t48 : ac.tmps[48]? = some (f 36) := hdst 36 48 (by kernel_rfl) (by kernel_rfl)
              have p36 : (IsV (.bool false)) (f 36) ww := hpo 36 (by kernel_rfl)
              have t3 := hold 3 (by kernel_rfl)
              have g36 := t48
              rw [show f 36 = _ from p36] at g36
              refine Or.inl ⟨want1 (g := 36) (s := 48) (b := false) (c := false) rfl (by kernel_rfl) g36, ?_⟩
              clear t48 p36 g36
              clear hdst hpo hold ho
              obtain ⟨x0, x1, x2, x3, y0, y1, y2, y3⟩ := HA0.out ww hinv
              unfold Ans
              go_simp
              exact ⟨rfl, Below.refl _ _⟩
            | 40, ho =>
              obtain rfl : _ = o := Option.some.inj ho
              have t51 : ac.tmps[51]? = some (f 39) := hdst 39 51 (by kernel_rfl) (by kernel_rfl)
              have p39 : (IsV (.agg #[.int .i64 t.kind, .int .i64 t.n, .string t.s, .slice ta t.args.length tc])) (f 39) ww := hpo 39 (by kernel_rfl)
              have t48 : ac.tmps[48]? = some (f 36) := hdst 36 48 (by kernel_rfl) (by kernel_rfl)
              have p36 : (IsV (.bool false)) (f 36) ww := hpo 36 (by kernel_rfl)
              have g36 := t48
              rw [show f 36 = _ from p36] at g36
              refine Or.inl ⟨want1 (g := 36) (s := 48) (b := false) (c := false) rfl (by kernel_rfl) g36, ?_⟩
              clear t48 p36 g36
              clear hdst hpo hold ho
              rw [show f 39 = _ from p39] at t51
              unfold Ans
              go_simp
              refine (everybody_ok t _ _ _ (HT.out ww hinv)).mono ?_
              rintro e w1 ⟨r, rfl, hb, b, rfl, hr⟩
              exact ⟨_, rfl, ⟨b, rfl, hr⟩, hb⟩
            | 41, ho =>
              obtain rfl : _ = o := Option.some.inj ho
              have t50 : ac.tmps[50]? = some (f 38) := hdst 38 50 (by kernel_rfl) (by kernel_rfl)
              have p38 : (IsB t.Known) (f 38) ww := hpo 38 (by kernel_rfl)
              have t52 : ac.tmps[52]? = some (f 40) := hdst 40 52 (by kernel_rfl) (by kernel_rfl)
              have p40 : (IsB t.Known) (f 40) ww := hpo 40 (by kernel_rfl)
              have t48 : ac.tmps[48]? = some (f 36) := hdst 36 48 (by kernel_rfl) (by kernel_rfl)
              have p36 : (IsV (.bool false)) (f 36) ww := hpo 36 (by kernel_rfl)
              have g36 := t48
              rw [show f 36 = _ from p36] at g36
              refine Or.inl ⟨want1 (g := 36) (s := 48) (b := false) (c := false) rfl (by kernel_rfl) g36, ?_⟩
              clear t48 p36 g36
              clear hdst hpo hold ho
              obtain ⟨b1, e1, h1⟩ := p38
              obtain ⟨b2, e2, h2⟩ := p40
              obtain rfl : b1 = b2 := bool_of_iff h1 h2
              rw [e1] at t50
              rw [e2] at t52
              clear hinv e1 e2 h1 h2
              cases b1 <;> (unfold Ans; go_simp; exact ⟨rfl, Below.refl _ _⟩)
            | 42, ho =>
              obtain rfl : _ = o := Option.some.inj ho
              have t48 : ac.tmps[48]? = some (f 36) := hdst 36 48 (by kernel_rfl) (by kernel_rfl)
              have p36 : (IsV (.bool false)) (f 36) ww := hpo 36 (by kernel_rfl)
              have t53 : ac.tmps[53]? = some (f 41) := hdst 41 53 (by kernel_rfl) (by kernel_rfl)
              have p41 : (IsV (.bool false)) (f 41) ww := hpo 41 (by kernel_rfl)
              refine Or.inl ⟨want0 rfl, ?_⟩
              clear hdst hpo hold ho
              rw [show f 36 = _ from p36] at t48
              rw [show f 41 = _ from p41] at t53
              clear hinv
              unfold Ans
              go_simp
              exact ⟨rfl, Below.refl _ _⟩
            | i + 43, ho => simp at ho
        · intro f ww hinv hpo
          have p42 : f 42 = .bool false := hpo 42 (by decide)
          simp only [fillT, List.setIfInBounds_toArray, List.set_cons_succ, List.set_cons_zero]
          rw [p42]
          have HIB := hid hinv
          clear hinv hpo
          go_wp2_with fail
          go_meet
          exact ⟨rfl, by rw [HW1.out]; exact HIB.out⟩
      · have HG := hid (show ¬ t.IsGoal from fun h => h.elim hk1 hk3)
        have hkb : (t.kind == 1) = false := by simpa using hk1
        have hkc : (t.kind == 3) = false := by simpa using hk3
        clear hk1 hk3
        refine wp_region_each (Inv := fun w' => Below W1.heap.size W1 w') (Po := posts [IsV (.pointer (some ⟨w.heap.size, 2, none⟩)), IsV (.string t.s), IsB (IsName t.s), IsV (.pointer (some ⟨w.heap.size, 2, none⟩)), IsV (.string t.s), IsB (IsName t.s), IsV (.bool false), IsV (.bool false), IsV (.agg #[.int .i64 t.kind, .int .i64 t.n, .string t.s, .slice ca t.args.length cc]), IsV (.int .i64 vars), IsB (t.Good vars), IsV (.agg #[.int .i64 t.kind, .int .i64 t.n, .string t.s, .slice ta t.args.length tc]), IsV (.int .i64 vars), IsB (t.Good vars), IsV (.bool false), IsV (.bool false), IsV (.bool false), IsV (.agg #[.int .i64 t.kind, .int .i64 t.n, .string t.s, .slice ca t.args.length cc]), IsV (.int .i64 t.nodes), IsV (.agg #[.int .i64 t.kind, .int .i64 t.n, .string t.s, .slice ta t.args.length tc]), IsV (.int .i64 t.nodes), IsV (.bool false), IsV (.bool false), IsV (.bool false), IsV (.agg #[.int .i64 t.kind, .int .i64 t.n, .string t.s, .slice ca t.args.length cc]), IsB t.IsGoal, IsV (.pointer (some ⟨w.heap.size, 0, none⟩)), IsV (.int .i64 t.kind), IsV (.bool false), IsV (.bool false), IsV (.pointer (some ⟨w.heap.size, 0, none⟩)), IsV (.int .i64 t.kind), IsV (.bool false), IsV (.bool false), IsV (.bool false), IsV (.bool false), IsV (.bool false), IsV (.agg #[.int .i64 t.kind, .int .i64 t.n, .string t.s, .slice ca t.args.length cc]), IsB t.Known, IsV (.agg #[.int .i64 t.kind, .int .i64 t.n, .string t.s, .slice ta t.args.length tc]), IsB t.Known, IsV (.bool false), IsV (.bool false)]) (Rl := fun w w' => Below w.heap.size w w') (by kernel_rfl) (by kernel_rfl) (by kernel_rfl) ((Below.refl _ _).drew) ?_ ?_ ?_ ?_
        · refine posts_stay fun R hR => ?_
          simp only [List.mem_cons, List.not_mem_nil, or_false] at hR
          rcases hR with rfl | rfl | rfl | rfl | rfl | rfl | rfl | rfl | rfl | rfl | rfl | rfl | rfl | rfl | rfl | rfl | rfl | rfl | rfl | rfl | rfl | rfl | rfl | rfl | rfl | rfl | rfl | rfl | rfl | rfl | rfl | rfl | rfl | rfl | rfl | rfl | rfl | rfl | rfl | rfl | rfl | rfl | rfl <;> first | exact stays_V _ | exact stays_any | exact stays_B _ | exact stays_Tm _ | exact stays_Tms _ | exact stays_Cs _ | exact stays_Ns _ | exact stays_Bs _ | exact stays_Hp _ | exact stays_OC _ _ | exact stays_ON _ _
        · exact fun w1 w2 h h' => h.trans (h'.mono h.size)
        · intro i o ho f ac ww hinv hpo hdst hold
          match i, ho with
            | 0, ho =>
              obtain rfl : _ = o := Option.some.inj ho
              have t3 := hold 3 (by kernel_rfl)
              refine Or.inl ⟨want0 rfl, ?_⟩
              clear hdst hpo hold ho
              clear hinv
              unfold Ans
              go_simp
              exact ⟨rfl, Below.refl _ _⟩
            | 1, ho =>
              obtain rfl : _ = o := Option.some.inj ho
              have t12 : ac.tmps[12]? = some (f 0) := hdst 0 12 (by kernel_rfl) (by kernel_rfl)
              have p0 : (IsV (.pointer (some ⟨w.heap.size, 2, none⟩))) (f 0) ww := hpo 0 (by kernel_rfl)
              refine Or.inl ⟨want0 rfl, ?_⟩
              clear hdst hpo hold ho
              rw [show f 0 = _ from p0] at t12
              obtain ⟨x0, x1, x2, x3, y0, y1, y2, y3⟩ := HA0.out ww hinv
              unfold Ans
              go_simp
              exact ⟨rfl, Below.refl _ _⟩
            | 2, ho =>
              obtain rfl : _ = o := Option.some.inj ho
              have t13 : ac.tmps[13]? = some (f 1) := hdst 1 13 (by kernel_rfl) (by kernel_rfl)
              have p1 : (IsV (.string t.s)) (f 1) ww := hpo 1 (by kernel_rfl)
              refine Or.inl ⟨want0 rfl, ?_⟩
              clear hdst hpo hold ho
              rw [show f 1 = _ from p1] at t13
              unfold Ans
              go_simp
              refine (named_ok t.s _ HS.out).mono ?_
              rintro e w1 ⟨r, rfl, hr, rfl⟩
              exact ⟨_, rfl, ⟨r, rfl, hr⟩, Below.refl _ _⟩
            | 3, ho =>
              obtain rfl : _ = o := Option.some.inj ho
              have t3 := hold 3 (by kernel_rfl)
              refine Or.inl ⟨want0 rfl, ?_⟩
              clear hdst hpo hold ho
              clear hinv
              unfold Ans
              go_simp
              exact ⟨rfl, Below.refl _ _⟩
            | 4, ho =>
              obtain rfl : _ = o := Option.some.inj ho
              have t15 : ac.tmps[15]? = some (f 3) := hdst 3 15 (by kernel_rfl) (by kernel_rfl)
              have p3 : (IsV (.pointer (some ⟨w.heap.size, 2, none⟩))) (f 3) ww := hpo 3 (by kernel_rfl)
              refine Or.inl ⟨want0 rfl, ?_⟩
              clear hdst hpo hold ho
              rw [show f 3 = _ from p3] at t15
              obtain ⟨x0, x1, x2, x3, y0, y1, y2, y3⟩ := HA0.out ww hinv
              unfold Ans
              go_simp
              exact ⟨rfl, Below.refl _ _⟩
            | 5, ho =>
              obtain rfl : _ = o := Option.some.inj ho
              have t16 : ac.tmps[16]? = some (f 4) := hdst 4 16 (by kernel_rfl) (by kernel_rfl)
              have p4 : (IsV (.string t.s)) (f 4) ww := hpo 4 (by kernel_rfl)
              refine Or.inl ⟨want0 rfl, ?_⟩
              clear hdst hpo hold ho
              rw [show f 4 = _ from p4] at t16
              unfold Ans
              go_simp
              refine (isName_ok t.s _ HS.out).mono ?_
              rintro e w1 ⟨r, rfl, hb, b, rfl, hr⟩
              exact ⟨_, rfl, ⟨b, rfl, hr⟩, hb⟩
            | 6, ho =>
              obtain rfl : _ = o := Option.some.inj ho
              have t14 : ac.tmps[14]? = some (f 2) := hdst 2 14 (by kernel_rfl) (by kernel_rfl)
              have p2 : (IsB (IsName t.s)) (f 2) ww := hpo 2 (by kernel_rfl)
              have t17 : ac.tmps[17]? = some (f 5) := hdst 5 17 (by kernel_rfl) (by kernel_rfl)
              have p5 : (IsB (IsName t.s)) (f 5) ww := hpo 5 (by kernel_rfl)
              refine Or.inl ⟨want0 rfl, ?_⟩
              clear hdst hpo hold ho
              obtain ⟨b1, e1, h1⟩ := p2
              obtain ⟨b2, e2, h2⟩ := p5
              obtain rfl : b1 = b2 := bool_of_iff h1 h2
              rw [e1] at t14
              rw [e2] at t17
              clear hinv e1 e2 h1 h2
              cases b1 <;> (unfold Ans; go_simp; exact ⟨rfl, Below.refl _ _⟩)
            | 7, ho =>
              obtain rfl : _ = o := Option.some.inj ho
              have t18 : ac.tmps[18]? = some (f 6) := hdst 6 18 (by kernel_rfl) (by kernel_rfl)
              have p6 : (IsV (.bool false)) (f 6) ww := hpo 6 (by kernel_rfl)
              refine Or.inl ⟨want0 rfl, ?_⟩
              clear hdst hpo hold ho
              rw [show f 6 = _ from p6] at t18
              clear hinv
              unfold Ans
              go_simp
              exact ⟨rfl, Below.refl _ _⟩
            | 8, ho =>
              obtain rfl : _ = o := Option.some.inj ho
              have t19 : ac.tmps[19]? = some (f 7) := hdst 7 19 (by kernel_rfl) (by kernel_rfl)
              have p7 : (IsV (.bool false)) (f 7) ww := hpo 7 (by kernel_rfl)
              have t7 := hold 7 (by kernel_rfl)
              have g7 := t19
              rw [show f 7 = _ from p7] at g7
              refine Or.inl ⟨want1 (g := 7) (s := 19) (b := false) (c := false) rfl (by kernel_rfl) g7, ?_⟩
              clear t19 p7 g7
              clear hdst hpo hold ho
              obtain ⟨x0, x1, x2, x3, y0, y1, y2, y3⟩ := HA0.out ww hinv
              unfold Ans
              go_simp
              exact ⟨rfl, Below.refl _ _⟩
            | 9, ho =>
              obtain rfl : _ = o := Option.some.inj ho
              have t19 : ac.tmps[19]? = some (f 7) := hdst 7 19 (by kernel_rfl) (by kernel_rfl)
              have p7 : (IsV (.bool false)) (f 7) ww := hpo 7 (by kernel_rfl)
              have t1 := hold 1 (by kernel_rfl)
              have g7 := t19
              rw [show f 7 = _ from p7] at g7
              refine Or.inl ⟨want1 (g := 7) (s := 19) (b := false) (c := false) rfl (by kernel_rfl) g7, ?_⟩
              clear t19 p7 g7
              clear hdst hpo hold ho
              clear hinv
              unfold Ans
              go_simp
              exact ⟨rfl, Below.refl _ _⟩
            | 10, ho =>
              obtain rfl : _ = o := Option.some.inj ho
              have t20 : ac.tmps[20]? = some (f 8) := hdst 8 20 (by kernel_rfl) (by kernel_rfl)
              have p8 : (IsV (.agg #[.int .i64 t.kind, .int .i64 t.n, .string t.s, .slice ca t.args.length cc])) (f 8) ww := hpo 8 (by kernel_rfl)
              have t21 : ac.tmps[21]? = some (f 9) := hdst 9 21 (by kernel_rfl) (by kernel_rfl)
              have p9 : (IsV (.int .i64 vars)) (f 9) ww := hpo 9 (by kernel_rfl)
              have t19 : ac.tmps[19]? = some (f 7) := hdst 7 19 (by kernel_rfl) (by kernel_rfl)
              have p7 : (IsV (.bool false)) (f 7) ww := hpo 7 (by kernel_rfl)
              have g7 := t19
              rw [show f 7 = _ from p7] at g7
              refine Or.inl ⟨want1 (g := 7) (s := 19) (b := false) (c := false) rfl (by kernel_rfl) g7, ?_⟩
              clear t19 p7 g7
              clear hdst hpo hold ho
              rw [show f 8 = _ from p8] at t20
              rw [show f 9 = _ from p9] at t21
              unfold Ans
              go_simp
              refine (goodT_ok t vars _ _ _ HV.out (HC.out ww hinv)).mono ?_
              rintro e w1 ⟨r, rfl, hb, b, rfl, hr⟩
              exact ⟨_, rfl, ⟨b, rfl, hr⟩, hb⟩
            | 11, ho =>
              obtain rfl : _ = o := Option.some.inj ho
              have t19 : ac.tmps[19]? = some (f 7) := hdst 7 19 (by kernel_rfl) (by kernel_rfl)
              have p7 : (IsV (.bool false)) (f 7) ww := hpo 7 (by kernel_rfl)
              have t3 := hold 3 (by kernel_rfl)
              have g7 := t19
              rw [show f 7 = _ from p7] at g7
              refine Or.inl ⟨want1 (g := 7) (s := 19) (b := false) (c := false) rfl (by kernel_rfl) g7, ?_⟩
              clear t19 p7 g7
              clear hdst hpo hold ho
              obtain ⟨x0, x1, x2, x3, y0, y1, y2, y3⟩ := HA0.out ww hinv
              unfold Ans
              go_simp
              exact ⟨rfl, Below.refl _ _⟩
            | 12, ho =>
              obtain rfl : _ = o := Option.some.inj ho
              have t19 : ac.tmps[19]? = some (f 7) := hdst 7 19 (by kernel_rfl) (by kernel_rfl)
              have p7 : (IsV (.bool false)) (f 7) ww := hpo 7 (by kernel_rfl)
              have t1 := hold 1 (by kernel_rfl)
              have g7 := t19
              rw [show f 7 = _ from p7] at g7
              refine Or.inl ⟨want1 (g := 7) (s := 19) (b := false) (c := false) rfl (by kernel_rfl) g7, ?_⟩
              clear t19 p7 g7
              clear hdst hpo hold ho
              clear hinv
              unfold Ans
              go_simp
              exact ⟨rfl, Below.refl _ _⟩
            | 13, ho =>
              obtain rfl : _ = o := Option.some.inj ho
              have t23 : ac.tmps[23]? = some (f 11) := hdst 11 23 (by kernel_rfl) (by kernel_rfl)
              have p11 : (IsV (.agg #[.int .i64 t.kind, .int .i64 t.n, .string t.s, .slice ta t.args.length tc])) (f 11) ww := hpo 11 (by kernel_rfl)
              have t24 : ac.tmps[24]? = some (f 12) := hdst 12 24 (by kernel_rfl) (by kernel_rfl)
              have p12 : (IsV (.int .i64 vars)) (f 12) ww := hpo 12 (by kernel_rfl)
              have t19 : ac.tmps[19]? = some (f 7) := hdst 7 19 (by kernel_rfl) (by kernel_rfl)
              have p7 : (IsV (.bool false)) (f 7) ww := hpo 7 (by kernel_rfl)
              have g7 := t19
              rw [show f 7 = _ from p7] at g7
              refine Or.inl ⟨want1 (g := 7) (s := 19) (b := false) (c := false) rfl (by kernel_rfl) g7, ?_⟩
              clear t19 p7 g7
              clear hdst hpo hold ho
              rw [show f 11 = _ from p11] at t23
              rw [show f 12 = _ from p12] at t24
              unfold Ans
              go_simp
              refine (isTerm_ok t vars _ _ _ HV.out (HT.out ww hinv)).mono ?_
              rintro e w1 ⟨r, rfl, hb, b, rfl, hr⟩
              exact ⟨_, rfl, ⟨b, rfl, hr⟩, hb⟩
            | 14, ho =>
              obtain rfl : _ = o := Option.some.inj ho
              have t22 : ac.tmps[22]? = some (f 10) := hdst 10 22 (by kernel_rfl) (by kernel_rfl)
              have p10 : (IsB (t.Good vars)) (f 10) ww := hpo 10 (by kernel_rfl)
              have t25 : ac.tmps[25]? = some (f 13) := hdst 13 25 (by kernel_rfl) (by kernel_rfl)
              have p13 : (IsB (t.Good vars)) (f 13) ww := hpo 13 (by kernel_rfl)
              have t19 : ac.tmps[19]? = some (f 7) := hdst 7 19 (by kernel_rfl) (by kernel_rfl)
              have p7 : (IsV (.bool false)) (f 7) ww := hpo 7 (by kernel_rfl)
              have g7 := t19
              rw [show f 7 = _ from p7] at g7
              refine Or.inl ⟨want1 (g := 7) (s := 19) (b := false) (c := false) rfl (by kernel_rfl) g7, ?_⟩
              clear t19 p7 g7
              clear hdst hpo hold ho
              obtain ⟨b1, e1, h1⟩ := p10
              obtain ⟨b2, e2, h2⟩ := p13
              obtain rfl : b1 = b2 := bool_of_iff h1 h2
              rw [e1] at t22
              rw [e2] at t25
              clear hinv e1 e2 h1 h2
              cases b1 <;> (unfold Ans; go_simp; exact ⟨rfl, Below.refl _ _⟩)
            | 15, ho =>
              obtain rfl : _ = o := Option.some.inj ho
              have t19 : ac.tmps[19]? = some (f 7) := hdst 7 19 (by kernel_rfl) (by kernel_rfl)
              have p7 : (IsV (.bool false)) (f 7) ww := hpo 7 (by kernel_rfl)
              have t26 : ac.tmps[26]? = some (f 14) := hdst 14 26 (by kernel_rfl) (by kernel_rfl)
              have p14 : (IsV (.bool false)) (f 14) ww := hpo 14 (by kernel_rfl)
              refine Or.inl ⟨want0 rfl, ?_⟩
              clear hdst hpo hold ho
              rw [show f 7 = _ from p7] at t19
              rw [show f 14 = _ from p14] at t26
              clear hinv
              unfold Ans
              go_simp
              exact ⟨rfl, Below.refl _ _⟩
            | 16, ho =>
              obtain rfl : _ = o := Option.some.inj ho
              have t27 : ac.tmps[27]? = some (f 15) := hdst 15 27 (by kernel_rfl) (by kernel_rfl)
              have p15 : (IsV (.bool false)) (f 15) ww := hpo 15 (by kernel_rfl)
              refine Or.inl ⟨want0 rfl, ?_⟩
              clear hdst hpo hold ho
              rw [show f 15 = _ from p15] at t27
              clear hinv
              unfold Ans
              go_simp
              exact ⟨rfl, Below.refl _ _⟩
            | 17, ho =>
              obtain rfl : _ = o := Option.some.inj ho
              have t28 : ac.tmps[28]? = some (f 16) := hdst 16 28 (by kernel_rfl) (by kernel_rfl)
              have p16 : (IsV (.bool false)) (f 16) ww := hpo 16 (by kernel_rfl)
              have t7 := hold 7 (by kernel_rfl)
              have g16 := t28
              rw [show f 16 = _ from p16] at g16
              refine Or.inl ⟨want1 (g := 16) (s := 28) (b := false) (c := false) rfl (by kernel_rfl) g16, ?_⟩
              clear t28 p16 g16
              clear hdst hpo hold ho
              obtain ⟨x0, x1, x2, x3, y0, y1, y2, y3⟩ := HA0.out ww hinv
              unfold Ans
              go_simp
              exact ⟨rfl, Below.refl _ _⟩
            | 18, ho =>
              obtain rfl : _ = o := Option.some.inj ho
              have t29 : ac.tmps[29]? = some (f 17) := hdst 17 29 (by kernel_rfl) (by kernel_rfl)
              have p17 : (IsV (.agg #[.int .i64 t.kind, .int .i64 t.n, .string t.s, .slice ca t.args.length cc])) (f 17) ww := hpo 17 (by kernel_rfl)
              have t28 : ac.tmps[28]? = some (f 16) := hdst 16 28 (by kernel_rfl) (by kernel_rfl)
              have p16 : (IsV (.bool false)) (f 16) ww := hpo 16 (by kernel_rfl)
              have g16 := t28
              rw [show f 16 = _ from p16] at g16
              refine Or.inl ⟨want1 (g := 16) (s := 28) (b := false) (c := false) rfl (by kernel_rfl) g16, ?_⟩
              clear t28 p16 g16
              clear hdst hpo hold ho
              rw [show f 17 = _ from p17] at t29
              unfold Ans
              go_simp
              refine (nodes_ok t _ _ _ HN2.out (HC.out ww hinv)).mono ?_
              rintro e w1 ⟨r, rfl, hb, rfl⟩
              exact ⟨_, rfl, rfl, hb⟩
            | 19, ho =>
              obtain rfl : _ = o := Option.some.inj ho
              have t28 : ac.tmps[28]? = some (f 16) := hdst 16 28 (by kernel_rfl) (by kernel_rfl)
              have p16 : (IsV (.bool false)) (f 16) ww := hpo 16 (by kernel_rfl)
              have t3 := hold 3 (by kernel_rfl)
              have g16 := t28
              rw [show f 16 = _ from p16] at g16
              refine Or.inl ⟨want1 (g := 16) (s := 28) (b := false) (c := false) rfl (by kernel_rfl) g16, ?_⟩
              clear t28 p16 g16
              clear hdst hpo hold ho
              obtain ⟨x0, x1, x2, x3, y0, y1, y2, y3⟩ := HA0.out ww hinv
              unfold Ans
              go_simp
              exact ⟨rfl, Below.refl _ _⟩
            | 20, ho =>
              obtain rfl : _ = o := Option.some.inj ho
              have t31 : ac.tmps[31]? = some (f 19) := hdst 19 31 (by kernel_rfl) (by kernel_rfl)
              have p19 : (IsV (.agg #[.int .i64 t.kind, .int .i64 t.n, .string t.s, .slice ta t.args.length tc])) (f 19) ww := hpo 19 (by kernel_rfl)
              have t28 : ac.tmps[28]? = some (f 16) := hdst 16 28 (by kernel_rfl) (by kernel_rfl)
              have p16 : (IsV (.bool false)) (f 16) ww := hpo 16 (by kernel_rfl)
              have g16 := t28
              rw [show f 16 = _ from p16] at g16
              refine Or.inl ⟨want1 (g := 16) (s := 28) (b := false) (c := false) rfl (by kernel_rfl) g16, ?_⟩
              clear t28 p16 g16
              clear hdst hpo hold ho
              rw [show f 19 = _ from p19] at t31
              unfold Ans
              go_simp
              refine (nodesOf_ok t HN.out _ _ _ (HT.out ww hinv)).mono ?_
              rintro e w1 ⟨r, rfl, hb, rfl⟩
              exact ⟨_, rfl, rfl, hb⟩
            | 21, ho =>
              obtain rfl : _ = o := Option.some.inj ho
              have t30 : ac.tmps[30]? = some (f 18) := hdst 18 30 (by kernel_rfl) (by kernel_rfl)
              have p18 : (IsV (.int .i64 t.nodes)) (f 18) ww := hpo 18 (by kernel_rfl)
              have t32 : ac.tmps[32]? = some (f 20) := hdst 20 32 (by kernel_rfl) (by kernel_rfl)
              have p20 : (IsV (.int .i64 t.nodes)) (f 20) ww := hpo 20 (by kernel_rfl)
              have t28 : ac.tmps[28]? = some (f 16) := hdst 16 28 (by kernel_rfl) (by kernel_rfl)
              have p16 : (IsV (.bool false)) (f 16) ww := hpo 16 (by kernel_rfl)
              have g16 := t28
              rw [show f 16 = _ from p16] at g16
              refine Or.inl ⟨want1 (g := 16) (s := 28) (b := false) (c := false) rfl (by kernel_rfl) g16, ?_⟩
              clear t28 p16 g16
              clear hdst hpo hold ho
              rw [show f 18 = _ from p18] at t30
              rw [show f 20 = _ from p20] at t32
              clear hinv
              unfold Ans
              go_simp
              exact ⟨(by first | rfl | (show Value.bool _ = Value.bool false; simp)), Below.refl _ _⟩
            | 22, ho =>
              obtain rfl : _ = o := Option.some.inj ho
              have t28 : ac.tmps[28]? = some (f 16) := hdst 16 28 (by kernel_rfl) (by kernel_rfl)
              have p16 : (IsV (.bool false)) (f 16) ww := hpo 16 (by kernel_rfl)
              have t33 : ac.tmps[33]? = some (f 21) := hdst 21 33 (by kernel_rfl) (by kernel_rfl)
              have p21 : (IsV (.bool false)) (f 21) ww := hpo 21 (by kernel_rfl)
              refine Or.inl ⟨want0 rfl, ?_⟩
              clear hdst hpo hold ho
              rw [show f 16 = _ from p16] at t28
              rw [show f 21 = _ from p21] at t33
              clear hinv
              unfold Ans
              go_simp
              exact ⟨rfl, Below.refl _ _⟩
            | 23, ho =>
              obtain rfl : _ = o := Option.some.inj ho
              have t34 : ac.tmps[34]? = some (f 22) := hdst 22 34 (by kernel_rfl) (by kernel_rfl)
              have p22 : (IsV (.bool false)) (f 22) ww := hpo 22 (by kernel_rfl)
              refine Or.inl ⟨want0 rfl, ?_⟩
              clear hdst hpo hold ho
              rw [show f 22 = _ from p22] at t34
              clear hinv
              unfold Ans
              go_simp
              exact ⟨rfl, Below.refl _ _⟩
            | 24, ho =>
              obtain rfl : _ = o := Option.some.inj ho
              have t35 : ac.tmps[35]? = some (f 23) := hdst 23 35 (by kernel_rfl) (by kernel_rfl)
              have p23 : (IsV (.bool false)) (f 23) ww := hpo 23 (by kernel_rfl)
              have t7 := hold 7 (by kernel_rfl)
              have g23 := t35
              rw [show f 23 = _ from p23] at g23
              refine Or.inl ⟨want1 (g := 23) (s := 35) (b := false) (c := false) rfl (by kernel_rfl) g23, ?_⟩
              clear t35 p23 g23
              clear hdst hpo hold ho
              obtain ⟨x0, x1, x2, x3, y0, y1, y2, y3⟩ := HA0.out ww hinv
              unfold Ans
              go_simp
              exact ⟨rfl, Below.refl _ _⟩
            | 25, ho =>
              obtain rfl : _ = o := Option.some.inj ho
              have t36 : ac.tmps[36]? = some (f 24) := hdst 24 36 (by kernel_rfl) (by kernel_rfl)
              have p24 : (IsV (.agg #[.int .i64 t.kind, .int .i64 t.n, .string t.s, .slice ca t.args.length cc])) (f 24) ww := hpo 24 (by kernel_rfl)
              have t35 : ac.tmps[35]? = some (f 23) := hdst 23 35 (by kernel_rfl) (by kernel_rfl)
              have p23 : (IsV (.bool false)) (f 23) ww := hpo 23 (by kernel_rfl)
              have g23 := t35
              rw [show f 23 = _ from p23] at g23
              refine Or.inl ⟨want1 (g := 23) (s := 35) (b := false) (c := false) rfl (by kernel_rfl) g23, ?_⟩
              clear t35 p23 g23
              clear hdst hpo hold ho
              rw [show f 24 = _ from p24] at t36
              unfold Ans
              go_simp
              refine (isGoal_ok t _ _ _ (HC.out ww hinv)).mono ?_
              rintro e w1 ⟨r, rfl, hb, b, rfl, hr⟩
              exact ⟨_, rfl, ⟨b, rfl, hr⟩, hb⟩
            | 26, ho =>
              obtain rfl : _ = o := Option.some.inj ho
              have t35 : ac.tmps[35]? = some (f 23) := hdst 23 35 (by kernel_rfl) (by kernel_rfl)
              have p23 : (IsV (.bool false)) (f 23) ww := hpo 23 (by kernel_rfl)
              have t3 := hold 3 (by kernel_rfl)
              have g23 := t35
              rw [show f 23 = _ from p23] at g23
              refine Or.inl ⟨want1 (g := 23) (s := 35) (b := false) (c := false) rfl (by kernel_rfl) g23, ?_⟩
              clear t35 p23 g23
              clear hdst hpo hold ho
              clear hinv
              unfold Ans
              go_simp
              exact ⟨rfl, Below.refl _ _⟩
            | 27, ho =>
              obtain rfl : _ = o := Option.some.inj ho
              have t38 : ac.tmps[38]? = some (f 26) := hdst 26 38 (by kernel_rfl) (by kernel_rfl)
              have p26 : (IsV (.pointer (some ⟨w.heap.size, 0, none⟩))) (f 26) ww := hpo 26 (by kernel_rfl)
              have t35 : ac.tmps[35]? = some (f 23) := hdst 23 35 (by kernel_rfl) (by kernel_rfl)
              have p23 : (IsV (.bool false)) (f 23) ww := hpo 23 (by kernel_rfl)
              have g23 := t35
              rw [show f 23 = _ from p23] at g23
              refine Or.inl ⟨want1 (g := 23) (s := 35) (b := false) (c := false) rfl (by kernel_rfl) g23, ?_⟩
              clear t35 p23 g23
              clear hdst hpo hold ho
              rw [show f 26 = _ from p26] at t38
              obtain ⟨x0, x1, x2, x3, y0, y1, y2, y3⟩ := HA0.out ww hinv
              unfold Ans
              go_simp
              exact ⟨rfl, Below.refl _ _⟩
            | 28, ho =>
              obtain rfl : _ = o := Option.some.inj ho
              have t39 : ac.tmps[39]? = some (f 27) := hdst 27 39 (by kernel_rfl) (by kernel_rfl)
              have p27 : (IsV (.int .i64 t.kind)) (f 27) ww := hpo 27 (by kernel_rfl)
              have t35 : ac.tmps[35]? = some (f 23) := hdst 23 35 (by kernel_rfl) (by kernel_rfl)
              have p23 : (IsV (.bool false)) (f 23) ww := hpo 23 (by kernel_rfl)
              have g23 := t35
              rw [show f 23 = _ from p23] at g23
              refine Or.inl ⟨want1 (g := 23) (s := 35) (b := false) (c := false) rfl (by kernel_rfl) g23, ?_⟩
              clear t35 p23 g23
              clear hdst hpo hold ho
              rw [show f 27 = _ from p27] at t39
              clear hinv
              unfold Ans
              go_simp
              exact ⟨rfl, Below.refl _ _⟩
            | 29, ho =>
              obtain rfl : _ = o := Option.some.inj ho
              have t40 : ac.tmps[40]? = some (f 28) := hdst 28 40 (by kernel_rfl) (by kernel_rfl)
              have p28 : (IsV (.bool false)) (f 28) ww := hpo 28 (by kernel_rfl)
              have t35 : ac.tmps[35]? = some (f 23) := hdst 23 35 (by kernel_rfl) (by kernel_rfl)
              have p23 : (IsV (.bool false)) (f 23) ww := hpo 23 (by kernel_rfl)
              have g23 := t35
              rw [show f 23 = _ from p23] at g23
              refine Or.inl ⟨want1 (g := 23) (s := 35) (b := false) (c := false) rfl (by kernel_rfl) g23, ?_⟩
              clear t35 p23 g23
              clear hdst hpo hold ho
              rw [show f 28 = _ from p28] at t40
              clear hinv
              unfold Ans
              go_simp
              exact ⟨rfl, Below.refl _ _⟩
            | 30, ho =>
              obtain rfl : _ = o := Option.some.inj ho
              have t41 : ac.tmps[41]? = some (f 29) := hdst 29 41 (by kernel_rfl) (by kernel_rfl)
              have p29 : (IsV (.bool false)) (f 29) ww := hpo 29 (by kernel_rfl)
              have t3 := hold 3 (by kernel_rfl)
              have g29 := t41
              rw [show f 29 = _ from p29] at g29
              refine Or.inl ⟨want1 (g := 29) (s := 41) (b := false) (c := false) rfl (by kernel_rfl) g29, ?_⟩
              clear t41 p29 g29
              clear hdst hpo hold ho
              clear hinv
              unfold Ans
              go_simp
              exact ⟨rfl, Below.refl _ _⟩
            | 31, ho =>
              obtain rfl : _ = o := Option.some.inj ho
              have t42 : ac.tmps[42]? = some (f 30) := hdst 30 42 (by kernel_rfl) (by kernel_rfl)
              have p30 : (IsV (.pointer (some ⟨w.heap.size, 0, none⟩))) (f 30) ww := hpo 30 (by kernel_rfl)
              have t41 : ac.tmps[41]? = some (f 29) := hdst 29 41 (by kernel_rfl) (by kernel_rfl)
              have p29 : (IsV (.bool false)) (f 29) ww := hpo 29 (by kernel_rfl)
              have g29 := t41
              rw [show f 29 = _ from p29] at g29
              refine Or.inl ⟨want1 (g := 29) (s := 41) (b := false) (c := false) rfl (by kernel_rfl) g29, ?_⟩
              clear t41 p29 g29
              clear hdst hpo hold ho
              rw [show f 30 = _ from p30] at t42
              obtain ⟨x0, x1, x2, x3, y0, y1, y2, y3⟩ := HA0.out ww hinv
              unfold Ans
              go_simp
              exact ⟨rfl, Below.refl _ _⟩
            | 32, ho =>
              obtain rfl : _ = o := Option.some.inj ho
              have t43 : ac.tmps[43]? = some (f 31) := hdst 31 43 (by kernel_rfl) (by kernel_rfl)
              have p31 : (IsV (.int .i64 t.kind)) (f 31) ww := hpo 31 (by kernel_rfl)
              have t41 : ac.tmps[41]? = some (f 29) := hdst 29 41 (by kernel_rfl) (by kernel_rfl)
              have p29 : (IsV (.bool false)) (f 29) ww := hpo 29 (by kernel_rfl)
              have g29 := t41
              rw [show f 29 = _ from p29] at g29
              refine Or.inl ⟨want1 (g := 29) (s := 41) (b := false) (c := false) rfl (by kernel_rfl) g29, ?_⟩
              clear t41 p29 g29
              clear hdst hpo hold ho
              rw [show f 31 = _ from p31] at t43
              clear hinv
              unfold Ans
              go_simp
              exact ⟨rfl, Below.refl _ _⟩
            | 33, ho =>
              obtain rfl : _ = o := Option.some.inj ho
              have t41 : ac.tmps[41]? = some (f 29) := hdst 29 41 (by kernel_rfl) (by kernel_rfl)
              have p29 : (IsV (.bool false)) (f 29) ww := hpo 29 (by kernel_rfl)
              have t44 : ac.tmps[44]? = some (f 32) := hdst 32 44 (by kernel_rfl) (by kernel_rfl)
              have p32 : (IsV (.bool false)) (f 32) ww := hpo 32 (by kernel_rfl)
              have t35 : ac.tmps[35]? = some (f 23) := hdst 23 35 (by kernel_rfl) (by kernel_rfl)
              have p23 : (IsV (.bool false)) (f 23) ww := hpo 23 (by kernel_rfl)
              have g23 := t35
              rw [show f 23 = _ from p23] at g23
              refine Or.inl ⟨want1 (g := 23) (s := 35) (b := false) (c := false) rfl (by kernel_rfl) g23, ?_⟩
              clear t35 p23 g23
              clear hdst hpo hold ho
              rw [show f 29 = _ from p29] at t41
              rw [show f 32 = _ from p32] at t44
              clear hinv
              unfold Ans
              go_simp
              exact ⟨rfl, Below.refl _ _⟩
            | 34, ho =>
              obtain rfl : _ = o := Option.some.inj ho
              have t37 : ac.tmps[37]? = some (f 25) := hdst 25 37 (by kernel_rfl) (by kernel_rfl)
              have p25 : (IsB t.IsGoal) (f 25) ww := hpo 25 (by kernel_rfl)
              have t45 : ac.tmps[45]? = some (f 33) := hdst 33 45 (by kernel_rfl) (by kernel_rfl)
              have p33 : (IsV (.bool false)) (f 33) ww := hpo 33 (by kernel_rfl)
              have t35 : ac.tmps[35]? = some (f 23) := hdst 23 35 (by kernel_rfl) (by kernel_rfl)
              have p23 : (IsV (.bool false)) (f 23) ww := hpo 23 (by kernel_rfl)
              have g23 := t35
              rw [show f 23 = _ from p23] at g23
              refine Or.inl ⟨want1 (g := 23) (s := 35) (b := false) (c := false) rfl (by kernel_rfl) g23, ?_⟩
              clear t35 p23 g23
              clear hdst hpo hold ho
              rw [show f 33 = _ from p33] at t45
              obtain ⟨b1, e1, h1⟩ := p25
              obtain rfl : b1 = false := by cases b1 with | false => rfl | true => exact absurd (h1.1 rfl) HG.out
              rw [e1] at t37
              clear hinv e1 h1
              unfold Ans
              go_simp
              exact ⟨(by first | rfl | (show Value.bool _ = Value.bool false; simp)), Below.refl _ _⟩
            | 35, ho =>
              obtain rfl : _ = o := Option.some.inj ho
              have t35 : ac.tmps[35]? = some (f 23) := hdst 23 35 (by kernel_rfl) (by kernel_rfl)
              have p23 : (IsV (.bool false)) (f 23) ww := hpo 23 (by kernel_rfl)
              have t46 : ac.tmps[46]? = some (f 34) := hdst 34 46 (by kernel_rfl) (by kernel_rfl)
              have p34 : (IsV (.bool false)) (f 34) ww := hpo 34 (by kernel_rfl)
              refine Or.inl ⟨want0 rfl, ?_⟩
              clear hdst hpo hold ho
              rw [show f 23 = _ from p23] at t35
              rw [show f 34 = _ from p34] at t46
              clear hinv
              unfold Ans
              go_simp
              exact ⟨rfl, Below.refl _ _⟩
            | 36, ho =>
              obtain rfl : _ = o := Option.some.inj ho
              have t47 : ac.tmps[47]? = some (f 35) := hdst 35 47 (by kernel_rfl) (by kernel_rfl)
              have p35 : (IsV (.bool false)) (f 35) ww := hpo 35 (by kernel_rfl)
              refine Or.inl ⟨want0 rfl, ?_⟩
              clear hdst hpo hold ho
              rw [show f 35 = _ from p35] at t47
              clear hinv
              unfold Ans
              go_simp
              exact ⟨rfl, Below.refl _ _⟩
            | 37, ho =>
              obtain rfl : _ = o := Option.some.inj ho
              have t48 : ac.tmps[48]? = some (f 36) := hdst 36 48 (by kernel_rfl) (by kernel_rfl)
              have p36 : (IsV (.bool false)) (f 36) ww := hpo 36 (by kernel_rfl)
              have t7 := hold 7 (by kernel_rfl)
              have g36 := t48
              rw [show f 36 = _ from p36] at g36
              refine Or.inl ⟨want1 (g := 36) (s := 48) (b := false) (c := false) rfl (by kernel_rfl) g36, ?_⟩
              clear t48 p36 g36
              clear hdst hpo hold ho
              obtain ⟨x0, x1, x2, x3, y0, y1, y2, y3⟩ := HA0.out ww hinv
              unfold Ans
              go_simp
              exact ⟨rfl, Below.refl _ _⟩
            | 38, ho =>
              obtain rfl : _ = o := Option.some.inj ho
              have t49 : ac.tmps[49]? = some (f 37) := hdst 37 49 (by kernel_rfl) (by kernel_rfl)
              have p37 : (IsV (.agg #[.int .i64 t.kind, .int .i64 t.n, .string t.s, .slice ca t.args.length cc])) (f 37) ww := hpo 37 (by kernel_rfl)
              have t48 : ac.tmps[48]? = some (f 36) := hdst 36 48 (by kernel_rfl) (by kernel_rfl)
              have p36 : (IsV (.bool false)) (f 36) ww := hpo 36 (by kernel_rfl)
              have g36 := t48
              rw [show f 36 = _ from p36] at g36
              refine Or.inl ⟨want1 (g := 36) (s := 48) (b := false) (c := false) rfl (by kernel_rfl) g36, ?_⟩
              clear t48 p36 g36
              clear hdst hpo hold ho
              rw [show f 37 = _ from p37] at t49
              unfold Ans
              go_simp
              refine (known_ok t _ _ _ (HC.out ww hinv)).mono ?_
              rintro e w1 ⟨r, rfl, hb, b, rfl, hr⟩
              exact ⟨_, rfl, ⟨b, rfl, hr⟩, hb⟩
            | 39, ho =>
              obtain rfl : _ = o := Option.some.inj ho
              have t48 : ac.tmps[48]? = some (f 36) := hdst 36 48 (by kernel_rfl) (by kernel_rfl)
              have p36 : (IsV (.bool false)) (f 36) ww := hpo 36 (by kernel_rfl)
              have t3 := hold 3 (by kernel_rfl)
              have g36 := t48
              rw [show f 36 = _ from p36] at g36
              refine Or.inl ⟨want1 (g := 36) (s := 48) (b := false) (c := false) rfl (by kernel_rfl) g36, ?_⟩
              clear t48 p36 g36
              clear hdst hpo hold ho
              obtain ⟨x0, x1, x2, x3, y0, y1, y2, y3⟩ := HA0.out ww hinv
              unfold Ans
              go_simp
              exact ⟨rfl, Below.refl _ _⟩
            | 40, ho =>
              obtain rfl : _ = o := Option.some.inj ho
              have t51 : ac.tmps[51]? = some (f 39) := hdst 39 51 (by kernel_rfl) (by kernel_rfl)
              have p39 : (IsV (.agg #[.int .i64 t.kind, .int .i64 t.n, .string t.s, .slice ta t.args.length tc])) (f 39) ww := hpo 39 (by kernel_rfl)
              have t48 : ac.tmps[48]? = some (f 36) := hdst 36 48 (by kernel_rfl) (by kernel_rfl)
              have p36 : (IsV (.bool false)) (f 36) ww := hpo 36 (by kernel_rfl)
              have g36 := t48
              rw [show f 36 = _ from p36] at g36
              refine Or.inl ⟨want1 (g := 36) (s := 48) (b := false) (c := false) rfl (by kernel_rfl) g36, ?_⟩
              clear t48 p36 g36
              clear hdst hpo hold ho
              rw [show f 39 = _ from p39] at t51
              unfold Ans
              go_simp
              refine (everybody_ok t _ _ _ (HT.out ww hinv)).mono ?_
              rintro e w1 ⟨r, rfl, hb, b, rfl, hr⟩
              exact ⟨_, rfl, ⟨b, rfl, hr⟩, hb⟩
            | 41, ho =>
              obtain rfl : _ = o := Option.some.inj ho
              have t50 : ac.tmps[50]? = some (f 38) := hdst 38 50 (by kernel_rfl) (by kernel_rfl)
              have p38 : (IsB t.Known) (f 38) ww := hpo 38 (by kernel_rfl)
              have t52 : ac.tmps[52]? = some (f 40) := hdst 40 52 (by kernel_rfl) (by kernel_rfl)
              have p40 : (IsB t.Known) (f 40) ww := hpo 40 (by kernel_rfl)
              have t48 : ac.tmps[48]? = some (f 36) := hdst 36 48 (by kernel_rfl) (by kernel_rfl)
              have p36 : (IsV (.bool false)) (f 36) ww := hpo 36 (by kernel_rfl)
              have g36 := t48
              rw [show f 36 = _ from p36] at g36
              refine Or.inl ⟨want1 (g := 36) (s := 48) (b := false) (c := false) rfl (by kernel_rfl) g36, ?_⟩
              clear t48 p36 g36
              clear hdst hpo hold ho
              obtain ⟨b1, e1, h1⟩ := p38
              obtain ⟨b2, e2, h2⟩ := p40
              obtain rfl : b1 = b2 := bool_of_iff h1 h2
              rw [e1] at t50
              rw [e2] at t52
              clear hinv e1 e2 h1 h2
              cases b1 <;> (unfold Ans; go_simp; exact ⟨rfl, Below.refl _ _⟩)
            | 42, ho =>
              obtain rfl : _ = o := Option.some.inj ho
              have t48 : ac.tmps[48]? = some (f 36) := hdst 36 48 (by kernel_rfl) (by kernel_rfl)
              have p36 : (IsV (.bool false)) (f 36) ww := hpo 36 (by kernel_rfl)
              have t53 : ac.tmps[53]? = some (f 41) := hdst 41 53 (by kernel_rfl) (by kernel_rfl)
              have p41 : (IsV (.bool false)) (f 41) ww := hpo 41 (by kernel_rfl)
              refine Or.inl ⟨want0 rfl, ?_⟩
              clear hdst hpo hold ho
              rw [show f 36 = _ from p36] at t48
              rw [show f 41 = _ from p41] at t53
              clear hinv
              unfold Ans
              go_simp
              exact ⟨rfl, Below.refl _ _⟩
            | i + 43, ho => simp at ho
        · intro f ww hinv hpo
          have p42 : f 42 = .bool false := hpo 42 (by decide)
          simp only [fillT, List.setIfInBounds_toArray, List.set_cons_succ, List.set_cons_zero]
          rw [p42]
          have HIB := hid hinv
          clear hinv hpo
          go_wp2_with fail
          go_meet
          exact ⟨rfl, by rw [HW1.out]; exact HIB.out⟩
  case rest =>
    obtain ⟨rfl, hb⟩ := hcut
    have HBC := hid ((HB1.out.alloc (by omega) _).trans (hb.mono (by simp; omega)))
    clear hb
    go_wp2_with fail
    go_loopw [57] (fun i W => ∃ j : Nat, j ≤ l.length ∧ i = .int .i64 (j : Int) ∧ Below w.heap.size w W) (fun i _ => l.length - (intOf i).toNat)
    case atStart => exact ⟨0, Nat.zero_le _, rfl, HBC.out⟩
    case round =>
      obtain ⟨j, hj, rfl, hb⟩ := hrel
      have HB := hid hb
      have hz3 := hb.size
      clear hb
      by_cases hlt : j < l.length
      · obtain ⟨rfl, hAb⟩ := HA.out (by omega)
        obtain ⟨sa, sc, ba, bc, c0, c1, c2, c3, c4, c5, hr⟩ := cl_cells HE.out hAb (Keeps.of_below HB.out) hlt
        have hlt' : (j : Int) < (l.length : Int) := by omega
        obtain ⟨x, hx⟩ : ∃ x, x = l[j]'hlt := ⟨_, rfl⟩
        have hmem : x ∈ l := by rw [hx]; exact List.getElem_mem _
        rw [← hx] at c0 c1 c2 c3 c4 c5 hr
        have hn := clsNodes_mem hmem
        have hnn := HL.out
        have HXR := hid hr
        have HXN := hid (show x.nodes ≤ 4194304 by omega)
        have HXN2 := hid (show x.nodes ≤ 1099511627776 by omega)
        have HXB := hid (show Tm.nodesL x.body ≤ 4194304 by simp only [Cl.nodes] at hn; omega)
        have HXB2 := hid (show Tm.nodesL x.body ≤ 1099511627776 by simp only [Cl.nodes] at hn; omega)
        have HXI := hid (show I64 x.vars by obtain ⟨_, _, _, _, _, _, _, hi⟩ := hr; exact hi)
        clear hr hx hmem hn hnn
        go_upto_region 7 with fail
        have HX7 := hid (blk_new wr (.cells #[.int .i64 x.head.kind, .int .i64 x.head.n, .string x.head.s, .slice sa x.head.args.length sc, .slice ba x.body.length bc, .int .i64 x.vars] 39))
        have HR7 := hid (Cl.rep_lasts.1 _ _ _ _ _ HXR.out (Keeps.alloc _ wr (.cells #[.int .i64 x.head.kind, .int .i64 x.head.n, .string x.head.s, .slice sa x.head.args.length sc, .slice ba x.body.length bc, .int .i64 x.vars] 39)))
        have hz7 : (wr.alloc (.cells #[.int .i64 x.head.kind, .int .i64 x.head.n, .string x.head.s, .slice sa x.head.args.length sc, .slice ba x.body.length bc, .int .i64 x.vars] 39)).heap.size = wr.heap.size + 1 := by simp
        have HB7 := hid (HB.out.alloc (by omega) (.cells #[.int .i64 x.head.kind, .int .i64 x.head.n, .string x.head.s, .slice sa x.head.args.length sc, .slice ba x.body.length bc, .int .i64 x.vars] 39))
        generalize (wr.alloc (.cells #[.int .i64 x.head.kind, .int .i64 x.head.n, .string x.head.s, .slice sa x.head.args.length sc, .slice ba x.body.length bc, .int .i64 x.vars] 39)) = W7 at HX7 HR7 hz7 HB7 ⊢
        have HA0 : Hid (∀ w', Below W7.heap.size W7 w' → w'.cell? ⟨wr.heap.size, 0, none⟩ = some (.int .i64 x.head.kind) ∧ w'.cell? ⟨wr.heap.size, 1, none⟩ = some (.int .i64 x.head.n) ∧ w'.cell? ⟨wr.heap.size, 2, none⟩ = some (.string x.head.s) ∧ w'.cell? ⟨wr.heap.size, 3, none⟩ = some (.slice sa x.head.args.length sc) ∧
          w'.cell? ⟨wr.heap.size, 4, none⟩ = some (.slice ba x.body.length bc) ∧ w'.cell? ⟨wr.heap.size, 5, none⟩ = some (.int .i64 x.vars)) := hid fun w' hb => by
          obtain ⟨x0, x1, x2, x3, x4, x5, -⟩ := blk6 (blk_below HX7.out hb)
          exact ⟨x0, x1, x2, x3, x4, x5⟩
        have HX : Hid (∀ w', Below W7.heap.size W7 w' → Cl.rep (fun _ => True) w' x [.int .i64 x.head.kind, .int .i64 x.head.n, .string x.head.s, .slice sa x.head.args.length sc, .slice ba x.body.length bc, .int .i64 x.vars]) := hid fun w' hb =>
          Cl.rep_lasts.1 _ _ _ _ _ HR7.out (Keeps.of_below hb)
        clear HX7 HR7 c0 c1 c2 c3 c4 c5
        refine wp_region_each (Inv := fun w' => Below W7.heap.size W7 w') (Po := posts [IsV (.agg #[.int .i64 x.head.kind, .int .i64 x.head.n, .string x.head.s, .slice sa x.head.args.length sc, .slice ba x.body.length bc, .int .i64 x.vars]), IsCl x, IsB x.Good, IsV (.agg #[.int .i64 x.head.kind, .int .i64 x.head.n, .string x.head.s, .slice sa x.head.args.length sc, .slice ba x.body.length bc, .int .i64 x.vars]), IsB x.Good, IsV (.bool false), IsV (.bool false), IsV (.pointer (some ⟨wr.heap.size, 4, none⟩)), IsV (.slice ba x.body.length bc), IsTms x.body, IsV (.pointer (some ⟨wr.heap.size, 5, none⟩)), IsV (.int .i64 x.vars), IsB (GoodQ x.body x.vars), IsV (.pointer (some ⟨wr.heap.size, 4, none⟩)), IsV (.slice ba x.body.length bc), IsV (.pointer (some ⟨wr.heap.size, 5, none⟩)), IsV (.int .i64 x.vars), IsB (GoodQ x.body x.vars), IsV (.bool false), IsV (.bool false)]) (Rl := fun w w' => Below w.heap.size w w') (by kernel_rfl) (by kernel_rfl) (by kernel_rfl) ((Below.refl _ _).drew) ?_ ?_ ?_ ?_
        · refine posts_stay fun R hR => ?_
          simp only [List.mem_cons, List.not_mem_nil, or_false] at hR
          rcases hR with rfl | rfl | rfl | rfl | rfl | rfl | rfl | rfl | rfl | rfl | rfl | rfl | rfl | rfl | rfl | rfl | rfl | rfl | rfl | rfl <;> first | exact stays_V _ | exact stays_any | exact stays_B _ | exact stays_Tm _ | exact stays_Tms _ | exact stays_Cs _ | exact stays_Ns _ | exact stays_Bs _ | exact stays_Hp _ | exact stays_OC _ _ | exact stays_ON _ _ | exact stays_Cl _
        · exact fun w1 w2 h h' => h.trans (h'.mono h.size)
        · intro i o ho f ac ww hinv hpo hdst hold
          match i, ho with
            | 0, ho =>
              obtain rfl : _ = o := Option.some.inj ho
              have t9 := hold 9 (by kernel_rfl)
              refine Or.inl ⟨want0 rfl, ?_⟩
              clear hdst hpo hold ho
              obtain ⟨x0, x1, x2, x3, x4, x5⟩ := HA0.out ww hinv
              unfold Ans
              go_simp
              exact ⟨rfl, Below.refl _ _⟩
            | 1, ho =>
              obtain rfl : _ = o := Option.some.inj ho
              have t61 : ac.tmps[61]? = some (f 0) := hdst 0 61 (by kernel_rfl) (by kernel_rfl)
              have p0 : (IsV (.agg #[.int .i64 x.head.kind, .int .i64 x.head.n, .string x.head.s, .slice sa x.head.args.length sc, .slice ba x.body.length bc, .int .i64 x.vars])) (f 0) ww := hpo 0 (by kernel_rfl)
              refine Or.inl ⟨want0 rfl, ?_⟩
              clear hdst hpo hold ho
              rw [show f 0 = _ from p0] at t61
              unfold Ans
              go_simp
              refine (clauseCopy_ok x _ _ _ (HX.out ww hinv)).mono ?_
              rintro e w1 ⟨r, rfl, hb, us, rfl, hr⟩
              exact ⟨_, rfl, ⟨us, rfl, Cl.rep_lasts.2.1 _ _ _ _ _ hr (fun _ _ _ => trivial)⟩, hb⟩
            | 2, ho =>
              obtain rfl : _ = o := Option.some.inj ho
              have t62 : ac.tmps[62]? = some (f 1) := hdst 1 62 (by kernel_rfl) (by kernel_rfl)
              have p1 : (IsCl x) (f 1) ww := hpo 1 (by kernel_rfl)
              refine Or.inl ⟨want0 rfl, ?_⟩
              clear hdst hpo hold ho
              obtain ⟨us, e1, h1⟩ := p1
              rw [e1] at t62
              clear e1
              unfold Ans
              go_simp
              refine (goodClause_ok x HXN2.out _ _ _ h1).mono ?_
              rintro e w1 ⟨r, rfl, hb, b, rfl, hr⟩
              exact ⟨_, rfl, ⟨b, rfl, hr⟩, hb⟩
            | 3, ho =>
              obtain rfl : _ = o := Option.some.inj ho
              have t9 := hold 9 (by kernel_rfl)
              refine Or.inl ⟨want0 rfl, ?_⟩
              clear hdst hpo hold ho
              obtain ⟨x0, x1, x2, x3, x4, x5⟩ := HA0.out ww hinv
              unfold Ans
              go_simp
              exact ⟨rfl, Below.refl _ _⟩
            | 4, ho =>
              obtain rfl : _ = o := Option.some.inj ho
              have t64 : ac.tmps[64]? = some (f 3) := hdst 3 64 (by kernel_rfl) (by kernel_rfl)
              have p3 : (IsV (.agg #[.int .i64 x.head.kind, .int .i64 x.head.n, .string x.head.s, .slice sa x.head.args.length sc, .slice ba x.body.length bc, .int .i64 x.vars])) (f 3) ww := hpo 3 (by kernel_rfl)
              refine Or.inl ⟨want0 rfl, ?_⟩
              clear hdst hpo hold ho
              rw [show f 3 = _ from p3] at t64
              unfold Ans
              go_simp
              refine (isClause_ok x HXN.out _ _ _ (HX.out ww hinv)).mono ?_
              rintro e w1 ⟨r, rfl, hb, b, rfl, hr⟩
              exact ⟨_, rfl, ⟨b, rfl, hr⟩, hb⟩
            | 5, ho =>
              obtain rfl : _ = o := Option.some.inj ho
              have t63 : ac.tmps[63]? = some (f 2) := hdst 2 63 (by kernel_rfl) (by kernel_rfl)
              have p2 : (IsB x.Good) (f 2) ww := hpo 2 (by kernel_rfl)
              have t65 : ac.tmps[65]? = some (f 4) := hdst 4 65 (by kernel_rfl) (by kernel_rfl)
              have p4 : (IsB x.Good) (f 4) ww := hpo 4 (by kernel_rfl)
              refine Or.inl ⟨want0 rfl, ?_⟩
              clear hdst hpo hold ho
              obtain ⟨b1, e1, h1⟩ := p2
              obtain ⟨b2, e2, h2⟩ := p4
              obtain rfl : b1 = b2 := bool_of_iff h1 h2
              rw [e1] at t63
              rw [e2] at t65
              clear hinv e1 e2 h1 h2
              cases b1 <;> (unfold Ans; go_simp; exact ⟨rfl, Below.refl _ _⟩)
            | 6, ho =>
              obtain rfl : _ = o := Option.some.inj ho
              have t66 : ac.tmps[66]? = some (f 5) := hdst 5 66 (by kernel_rfl) (by kernel_rfl)
              have p5 : (IsV (.bool false)) (f 5) ww := hpo 5 (by kernel_rfl)
              refine Or.inl ⟨want0 rfl, ?_⟩
              clear hdst hpo hold ho
              rw [show f 5 = _ from p5] at t66
              clear hinv
              unfold Ans
              go_simp
              exact ⟨rfl, Below.refl _ _⟩
            | 7, ho =>
              obtain rfl : _ = o := Option.some.inj ho
              have t67 : ac.tmps[67]? = some (f 6) := hdst 6 67 (by kernel_rfl) (by kernel_rfl)
              have p6 : (IsV (.bool false)) (f 6) ww := hpo 6 (by kernel_rfl)
              have t9 := hold 9 (by kernel_rfl)
              have g6 := t67
              rw [show f 6 = _ from p6] at g6
              refine Or.inl ⟨want1 (g := 6) (s := 67) (b := false) (c := false) rfl (by kernel_rfl) g6, ?_⟩
              clear t67 p6 g6
              clear hdst hpo hold ho
              clear hinv
              unfold Ans
              go_simp
              exact ⟨rfl, Below.refl _ _⟩
            | 8, ho =>
              obtain rfl : _ = o := Option.some.inj ho
              have t68 : ac.tmps[68]? = some (f 7) := hdst 7 68 (by kernel_rfl) (by kernel_rfl)
              have p7 : (IsV (.pointer (some ⟨wr.heap.size, 4, none⟩))) (f 7) ww := hpo 7 (by kernel_rfl)
              have t67 : ac.tmps[67]? = some (f 6) := hdst 6 67 (by kernel_rfl) (by kernel_rfl)
              have p6 : (IsV (.bool false)) (f 6) ww := hpo 6 (by kernel_rfl)
              have g6 := t67
              rw [show f 6 = _ from p6] at g6
              refine Or.inl ⟨want1 (g := 6) (s := 67) (b := false) (c := false) rfl (by kernel_rfl) g6, ?_⟩
              clear t67 p6 g6
              clear hdst hpo hold ho
              rw [show f 7 = _ from p7] at t68
              obtain ⟨x0, x1, x2, x3, x4, x5⟩ := HA0.out ww hinv
              unfold Ans
              go_simp
              exact ⟨rfl, Below.refl _ _⟩
            | 9, ho =>
              obtain rfl : _ = o := Option.some.inj ho
              have t69 : ac.tmps[69]? = some (f 8) := hdst 8 69 (by kernel_rfl) (by kernel_rfl)
              have p8 : (IsV (.slice ba x.body.length bc)) (f 8) ww := hpo 8 (by kernel_rfl)
              have t67 : ac.tmps[67]? = some (f 6) := hdst 6 67 (by kernel_rfl) (by kernel_rfl)
              have p6 : (IsV (.bool false)) (f 6) ww := hpo 6 (by kernel_rfl)
              have g6 := t67
              rw [show f 6 = _ from p6] at g6
              refine Or.inl ⟨want1 (g := 6) (s := 67) (b := false) (c := false) rfl (by kernel_rfl) g6, ?_⟩
              clear t67 p6 g6
              clear hdst hpo hold ho
              rw [show f 8 = _ from p8] at t69
              unfold Ans
              go_simp
              obtain ⟨_, _, _, _, e5, -, hbb, hiv⟩ := (HX.out ww hinv)
              simp only [List.cons.injEq, Value.slice.injEq, and_true, true_and] at e5
              obtain ⟨⟨rfl, rfl⟩, rfl, rfl⟩ := e5
              refine (copyTerms_ok x.body _ _ _ hbb).mono ?_
              rintro e w1 ⟨r, rfl, hb, hr⟩
              exact ⟨_, rfl, SlR.mono Tm.rep_lasts (by omega) hr (fun _ _ _ => trivial), hb⟩
            | 10, ho =>
              obtain rfl : _ = o := Option.some.inj ho
              have t67 : ac.tmps[67]? = some (f 6) := hdst 6 67 (by kernel_rfl) (by kernel_rfl)
              have p6 : (IsV (.bool false)) (f 6) ww := hpo 6 (by kernel_rfl)
              have t9 := hold 9 (by kernel_rfl)
              have g6 := t67
              rw [show f 6 = _ from p6] at g6
              refine Or.inl ⟨want1 (g := 6) (s := 67) (b := false) (c := false) rfl (by kernel_rfl) g6, ?_⟩
              clear t67 p6 g6
              clear hdst hpo hold ho
              clear hinv
              unfold Ans
              go_simp
              exact ⟨rfl, Below.refl _ _⟩
            | 11, ho =>
              obtain rfl : _ = o := Option.some.inj ho
              have t71 : ac.tmps[71]? = some (f 10) := hdst 10 71 (by kernel_rfl) (by kernel_rfl)
              have p10 : (IsV (.pointer (some ⟨wr.heap.size, 5, none⟩))) (f 10) ww := hpo 10 (by kernel_rfl)
              have t67 : ac.tmps[67]? = some (f 6) := hdst 6 67 (by kernel_rfl) (by kernel_rfl)
              have p6 : (IsV (.bool false)) (f 6) ww := hpo 6 (by kernel_rfl)
              have g6 := t67
              rw [show f 6 = _ from p6] at g6
              refine Or.inl ⟨want1 (g := 6) (s := 67) (b := false) (c := false) rfl (by kernel_rfl) g6, ?_⟩
              clear t67 p6 g6
              clear hdst hpo hold ho
              rw [show f 10 = _ from p10] at t71
              obtain ⟨x0, x1, x2, x3, x4, x5⟩ := HA0.out ww hinv
              unfold Ans
              go_simp
              exact ⟨rfl, Below.refl _ _⟩
            | 12, ho =>
              obtain rfl : _ = o := Option.some.inj ho
              have t70 : ac.tmps[70]? = some (f 9) := hdst 9 70 (by kernel_rfl) (by kernel_rfl)
              have p9 : (IsTms x.body) (f 9) ww := hpo 9 (by kernel_rfl)
              have t72 : ac.tmps[72]? = some (f 11) := hdst 11 72 (by kernel_rfl) (by kernel_rfl)
              have p11 : (IsV (.int .i64 x.vars)) (f 11) ww := hpo 11 (by kernel_rfl)
              have t67 : ac.tmps[67]? = some (f 6) := hdst 6 67 (by kernel_rfl) (by kernel_rfl)
              have p6 : (IsV (.bool false)) (f 6) ww := hpo 6 (by kernel_rfl)
              have g6 := t67
              rw [show f 6 = _ from p6] at g6
              refine Or.inl ⟨want1 (g := 6) (s := 67) (b := false) (c := false) rfl (by kernel_rfl) g6, ?_⟩
              clear t67 p6 g6
              clear hdst hpo hold ho
              rw [show f 11 = _ from p11] at t72
              have h9 := p9
              obtain ⟨a9, c9, _, _, e9, -⟩ := SlR.at p9
              rw [e9] at t70 h9
              clear e9 p9
              unfold Ans
              go_simp
              refine (goodQuery_ok x.body x.vars HXB2.out HXI.out _ _ _ h9).mono ?_
              rintro e w1 ⟨r, rfl, hb, b, rfl, hr⟩
              exact ⟨_, rfl, ⟨b, rfl, hr⟩, hb⟩
            | 13, ho =>
              obtain rfl : _ = o := Option.some.inj ho
              have t67 : ac.tmps[67]? = some (f 6) := hdst 6 67 (by kernel_rfl) (by kernel_rfl)
              have p6 : (IsV (.bool false)) (f 6) ww := hpo 6 (by kernel_rfl)
              have t9 := hold 9 (by kernel_rfl)
              have g6 := t67
              rw [show f 6 = _ from p6] at g6
              refine Or.inl ⟨want1 (g := 6) (s := 67) (b := false) (c := false) rfl (by kernel_rfl) g6, ?_⟩
              clear t67 p6 g6
              clear hdst hpo hold ho
              clear hinv
              unfold Ans
              go_simp
              exact ⟨rfl, Below.refl _ _⟩
            | 14, ho =>
              obtain rfl : _ = o := Option.some.inj ho
              have t74 : ac.tmps[74]? = some (f 13) := hdst 13 74 (by kernel_rfl) (by kernel_rfl)
              have p13 : (IsV (.pointer (some ⟨wr.heap.size, 4, none⟩))) (f 13) ww := hpo 13 (by kernel_rfl)
              have t67 : ac.tmps[67]? = some (f 6) := hdst 6 67 (by kernel_rfl) (by kernel_rfl)
              have p6 : (IsV (.bool false)) (f 6) ww := hpo 6 (by kernel_rfl)
              have g6 := t67
              rw [show f 6 = _ from p6] at g6
              refine Or.inl ⟨want1 (g := 6) (s := 67) (b := false) (c := false) rfl (by kernel_rfl) g6, ?_⟩
              clear t67 p6 g6
              clear hdst hpo hold ho
              rw [show f 13 = _ from p13] at t74
              obtain ⟨x0, x1, x2, x3, x4, x5⟩ := HA0.out ww hinv
              unfold Ans
              go_simp
              exact ⟨rfl, Below.refl _ _⟩
            | 15, ho =>
              obtain rfl : _ = o := Option.some.inj ho
              have t67 : ac.tmps[67]? = some (f 6) := hdst 6 67 (by kernel_rfl) (by kernel_rfl)
              have p6 : (IsV (.bool false)) (f 6) ww := hpo 6 (by kernel_rfl)
              have t9 := hold 9 (by kernel_rfl)
              have g6 := t67
              rw [show f 6 = _ from p6] at g6
              refine Or.inl ⟨want1 (g := 6) (s := 67) (b := false) (c := false) rfl (by kernel_rfl) g6, ?_⟩
              clear t67 p6 g6
              clear hdst hpo hold ho
              clear hinv
              unfold Ans
              go_simp
              exact ⟨rfl, Below.refl _ _⟩
            | 16, ho =>
              obtain rfl : _ = o := Option.some.inj ho
              have t76 : ac.tmps[76]? = some (f 15) := hdst 15 76 (by kernel_rfl) (by kernel_rfl)
              have p15 : (IsV (.pointer (some ⟨wr.heap.size, 5, none⟩))) (f 15) ww := hpo 15 (by kernel_rfl)
              have t67 : ac.tmps[67]? = some (f 6) := hdst 6 67 (by kernel_rfl) (by kernel_rfl)
              have p6 : (IsV (.bool false)) (f 6) ww := hpo 6 (by kernel_rfl)
              have g6 := t67
              rw [show f 6 = _ from p6] at g6
              refine Or.inl ⟨want1 (g := 6) (s := 67) (b := false) (c := false) rfl (by kernel_rfl) g6, ?_⟩
              clear t67 p6 g6
              clear hdst hpo hold ho
              rw [show f 15 = _ from p15] at t76
              obtain ⟨x0, x1, x2, x3, x4, x5⟩ := HA0.out ww hinv
              unfold Ans
              go_simp
              exact ⟨rfl, Below.refl _ _⟩
            | 17, ho =>
              obtain rfl : _ = o := Option.some.inj ho
              have t75 : ac.tmps[75]? = some (f 14) := hdst 14 75 (by kernel_rfl) (by kernel_rfl)
              have p14 : (IsV (.slice ba x.body.length bc)) (f 14) ww := hpo 14 (by kernel_rfl)
              have t77 : ac.tmps[77]? = some (f 16) := hdst 16 77 (by kernel_rfl) (by kernel_rfl)
              have p16 : (IsV (.int .i64 x.vars)) (f 16) ww := hpo 16 (by kernel_rfl)
              have t67 : ac.tmps[67]? = some (f 6) := hdst 6 67 (by kernel_rfl) (by kernel_rfl)
              have p6 : (IsV (.bool false)) (f 6) ww := hpo 6 (by kernel_rfl)
              have g6 := t67
              rw [show f 6 = _ from p6] at g6
              refine Or.inl ⟨want1 (g := 6) (s := 67) (b := false) (c := false) rfl (by kernel_rfl) g6, ?_⟩
              clear t67 p6 g6
              clear hdst hpo hold ho
              rw [show f 14 = _ from p14] at t75
              rw [show f 16 = _ from p16] at t77
              unfold Ans
              go_simp
              obtain ⟨_, _, _, _, e5, -, hbb, hiv⟩ := (HX.out ww hinv)
              simp only [List.cons.injEq, Value.slice.injEq, and_true, true_and] at e5
              obtain ⟨⟨rfl, rfl⟩, rfl, rfl⟩ := e5
              refine (isQuery_ok x.body x.vars HXB.out HXI.out _ _ _ hbb).mono ?_
              rintro e w1 ⟨r, rfl, hb, b, rfl, hr⟩
              exact ⟨_, rfl, ⟨b, rfl, hr⟩, hb⟩
            | 18, ho =>
              obtain rfl : _ = o := Option.some.inj ho
              have t73 : ac.tmps[73]? = some (f 12) := hdst 12 73 (by kernel_rfl) (by kernel_rfl)
              have p12 : (IsB (GoodQ x.body x.vars)) (f 12) ww := hpo 12 (by kernel_rfl)
              have t78 : ac.tmps[78]? = some (f 17) := hdst 17 78 (by kernel_rfl) (by kernel_rfl)
              have p17 : (IsB (GoodQ x.body x.vars)) (f 17) ww := hpo 17 (by kernel_rfl)
              have t67 : ac.tmps[67]? = some (f 6) := hdst 6 67 (by kernel_rfl) (by kernel_rfl)
              have p6 : (IsV (.bool false)) (f 6) ww := hpo 6 (by kernel_rfl)
              have g6 := t67
              rw [show f 6 = _ from p6] at g6
              refine Or.inl ⟨want1 (g := 6) (s := 67) (b := false) (c := false) rfl (by kernel_rfl) g6, ?_⟩
              clear t67 p6 g6
              clear hdst hpo hold ho
              obtain ⟨b1, e1, h1⟩ := p12
              obtain ⟨b2, e2, h2⟩ := p17
              obtain rfl : b1 = b2 := bool_of_iff h1 h2
              rw [e1] at t73
              rw [e2] at t78
              clear hinv e1 e2 h1 h2
              cases b1 <;> (unfold Ans; go_simp; exact ⟨rfl, Below.refl _ _⟩)
            | 19, ho =>
              obtain rfl : _ = o := Option.some.inj ho
              have t67 : ac.tmps[67]? = some (f 6) := hdst 6 67 (by kernel_rfl) (by kernel_rfl)
              have p6 : (IsV (.bool false)) (f 6) ww := hpo 6 (by kernel_rfl)
              have t79 : ac.tmps[79]? = some (f 18) := hdst 18 79 (by kernel_rfl) (by kernel_rfl)
              have p18 : (IsV (.bool false)) (f 18) ww := hpo 18 (by kernel_rfl)
              refine Or.inl ⟨want0 rfl, ?_⟩
              clear hdst hpo hold ho
              rw [show f 6 = _ from p6] at t67
              rw [show f 18 = _ from p18] at t79
              clear hinv
              unfold Ans
              go_simp
              exact ⟨rfl, Below.refl _ _⟩
            | i + 20, ho => simp at ho
        · intro f ww hinv hpo
          have p19 : f 19 = .bool false := hpo 19 (by decide)
          simp only [fillT, List.setIfInBounds_toArray, List.set_cons_succ, List.set_cons_zero]
          rw [p19]
          have HIB := hid hinv
          clear hinv hpo
          go_wp2_with fail
          go_roundw
          case rel => exact ⟨j + 1, by omega, by go_num, HB7.out.trans (HIB.out.mono HB7.out.size)⟩
          case measure => first | (simp [intOf]; done) | (simp [intOf]; omega)
      · have hlt' : ¬ (j : Int) < (l.length : Int) := by omega
        have HUU := hid (fun w' (hb : Below w.heap.size w w') => SlR.keeps Cl.rep_lasts HU.out (Keeps.of_below hb))
        go_wp2_with fail
        refine (progCopy_ok l _ _ _ (HUU.out _ HB.out)).mono ?_
        rintro e w3 ⟨r, rfl, hb3, hr3⟩
        have HB3 := hid (HB.out.trans (hb3.mono HB.out.size))
        have HR3 := hid hr3
        obtain ⟨a3, c3, b3, o3, rfl, -⟩ := SlR.at hr3
        clear hb3 hr3
        go_wp2_with fail
        refine (goodProgram_ok l (by have := HL.out; omega) _ _ _ HR3.out).mono ?_
        rintro e w4 ⟨r, rfl, hb4, g1, rfl, hg1⟩
        have HB4 := hid (HB3.out.trans (hb4.mono HB3.out.size))
        have HG1 := hid hg1
        clear hb4 hg1
        go_wp2_with fail
        refine (isProgram_ok l HL.out _ _ _ (HUU.out _ HB4.out)).mono ?_
        rintro e w5 ⟨r, rfl, hb5, g2, rfl, hg2⟩
        have HB5 := hid (HB4.out.trans (hb5.mono HB4.out.size))
        obtain rfl : g1 = g2 := bool_of_iff HG1.out hg2
        clear hb5 hg2
        cases g1
        all_goals
          go_wp2_with fail
          refine (terms_law _).mono ?_
          rintro e w6 ⟨r, rfl, hb6, rfl⟩
          have HB6 := hid (HB5.out.trans (hb6.mono HB5.out.size))
          clear hb6
          go_wp2_with fail
          go_ret
          exact ⟨_, rfl, HB6.out, rfl⟩
end Go.Proofs.YtlpmfkpefoegeabDoor
