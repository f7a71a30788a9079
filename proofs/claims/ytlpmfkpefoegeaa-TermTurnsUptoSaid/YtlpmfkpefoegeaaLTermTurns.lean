/-
  The walk of queristlaw.TermTurns.
-/
import Derived.Test.YtlpmfkpefoegeaaQAny
import Derived.Test.YtlpmfkpefoegeaaQSameT
import Derived.Test.YtlpmfkpefoegeaaQShifted
import Derived.Test.YtlpmfkpefoegeaaQTidy
import Derived.Test.YtlpmfkpefoegeaaQSameL
import Derived.Test.YtlpmfkpefoegeaaQTermsL
namespace Go.Proofs.Ytlpmfkpefoegeaa
set_option linter.unusedVariables false
set_option linter.unusedSimpArgs false
open Go.RowKit

/-- what a value is, in whatever world -/
def IsV (u : Value) : Value → World → Prop := fun v _ => v = u
/-- a term -/
def IsTm (t : Tm) : Value → World → Prop := fun v w => ∃ us, v = .agg us.toArray ∧ Tm.rep (fun _ => True) w t us
/-- a slice of terms -/
def IsTms (l : List Tm) : Value → World → Prop := fun v w => TmsR (fun _ => True) w l v
/-- the answer to a question -/
def IsB (p : Prop) : Value → World → Prop := fun v _ => ∃ t, v = .bool t ∧ (t = true ↔ p)

/-- it lasts as long as nothing old turns -/
def Stays (R : Value → World → Prop) : Prop := ∀ v w w', R v w → Below w.heap.size w w' → R v w'
theorem stays_V (u : Value) : Stays (IsV u) := fun _ _ _ h _ => h
theorem stays_B (p : Prop) : Stays (IsB p) := fun _ _ _ h _ => h
theorem stays_Tm (t : Tm) : Stays (IsTm t) := fun v w w' ⟨us, h1, h2⟩ hb => ⟨us, h1, Tm.rep_lasts.1 _ _ _ _ _ h2 (Keeps.of_below hb)⟩
theorem stays_Tms (l : List Tm) : Stays (IsTms l) := fun v w w' h hb => h.below hb
def posts (ps : List (Value → World → Prop)) (i : Nat) : Value → World → Prop := ps.getD i fun _ _ => True
theorem posts_stay {ps : List (Value → World → Prop)} (h : ∀ R ∈ ps, Stays R) (i : Nat) (v : Value) (w w' : World) (hp : posts ps i v w) (hb : Below w.heap.size w w') : posts ps i v w' := by
  unfold posts at *
  by_cases hi : i < ps.length
  · have e : ps.getD i (fun _ _ => True) = ps[i] := by simp [List.getD, hi]
    rw [e] at hp ⊢
    exact h _ (List.getElem_mem hi) v w w' hp hb
  · simp [List.getD, hi]

set_option maxHeartbeats 2000000 in
set_option maxHeartbeats 2000000 in
set_option maxHeartbeats 2000000 in
set_option maxHeartbeats 2000000 in
theorem termTurns_walk (a b : Tm) (l : List Tm) (n : Int) (hn : I64 n) (hnd : a.nodes ≤ 1048576 ∧ Tm.nodesL l ≤ 1048576) (A : Nat → Prop) (w : World) (va vb : List Value) (v : Value) (ha : Tm.rep A w a va) (hb : Tm.rep A w b vb) (hv : TmsR A w l v) :
    Calls Try.prog 5 #[.agg va.toArray, .agg vb.toArray, v, .int .i64 n] w (Pure w fun r _ => r = .bool true) := by
  obtain ⟨sa, sc, rfl, -⟩ := Tm.rep4 ha
  obtain ⟨sb, sd, rfl, -⟩ := Tm.rep4 hb
  have HTA := hid ha
  have HTB := hid hb
  have HTL := hid hv
  clear ha hb hv
  go_enter Try.func5, Try.ntmps5
  go_wp2_with fail
  have hA0 : ∀ (w' : World), Below ((w.alloc (.cells #[.int .i64 a.kind, .int .i64 a.n, .string a.s, .slice sa a.args.length sc] 26)).alloc (.cells #[.int .i64 b.kind, .int .i64 b.n, .string b.s, .slice sb b.args.length sd] 26)).heap.size
      ((w.alloc (.cells #[.int .i64 a.kind, .int .i64 a.n, .string a.s, .slice sa a.args.length sc] 26)).alloc (.cells #[.int .i64 b.kind, .int .i64 b.n, .string b.s, .slice sb b.args.length sd] 26)) w' →
      Below w.heap.size w w' ∧ (w'.cell? ⟨w.heap.size, 0, none⟩ = some (.int .i64 a.kind) ∧ w'.cell? ⟨w.heap.size, 1, none⟩ = some (.int .i64 a.n) ∧ w'.cell? ⟨w.heap.size, 2, none⟩ = some (.string a.s) ∧ w'.cell? ⟨w.heap.size, 3, none⟩ = some (.slice sa a.args.length sc)) ∧
      (w'.cell? ⟨w.heap.size + 1, 0, none⟩ = some (.int .i64 b.kind) ∧ w'.cell? ⟨w.heap.size + 1, 1, none⟩ = some (.int .i64 b.n) ∧ w'.cell? ⟨w.heap.size + 1, 2, none⟩ = some (.string b.s) ∧ w'.cell? ⟨w.heap.size + 1, 3, none⟩ = some (.slice sb b.args.length sd)) := by
    intro w' hb
    have h2 := heap2 w (.cells #[.int .i64 a.kind, .int .i64 a.n, .string a.s, .slice sa a.args.length sc] 26) (.cells #[.int .i64 b.kind, .int .i64 b.n, .string b.s, .slice sb b.args.length sd] 26)
    refine ⟨((Below.refl _ _).alloc (Nat.le_refl _) _ |>.alloc (by simp) _).trans (hb.mono (by simp; omega)), ?_, ?_⟩
    · obtain ⟨x0, x1, x2, x3, -⟩ := blk4 (blk_below h2.1 hb)
      exact ⟨x0, x1, x2, x3⟩
    · obtain ⟨x0, x1, x2, x3, -⟩ := blk4 (blk_below h2.2 hb)
      exact ⟨x0, x1, x2, x3⟩
  generalize hW : (w.alloc (.cells #[.int .i64 a.kind, .int .i64 a.n, .string a.s, .slice sa a.args.length sc] 26)).alloc (.cells #[.int .i64 b.kind, .int .i64 b.n, .string b.s, .slice sb b.args.length sd] 26) = W0 at hA0 ⊢
  have hsz : w.heap.size ≤ W0.heap.size := by subst hW; simp; omega
  have HA0 := hid hA0
  have HIN : Hid (∀ (t : Tm) (us : List Value) (w' : World), Tm.rep A w t us → Below W0.heap.size W0 w' → Tm.rep (fun _ => True) w' t us) :=
    hid fun t us w' h hb => Tm.rep_lasts.2.1 _ _ _ _ _ (Tm.rep_lasts.1 _ _ _ _ _ h (Keeps.of_below (HA0.out w' hb).1)) (fun _ _ _ => trivial)
  have HINL : Hid (∀ (t : List Tm) (u : Value) (w' : World), TmsR A w t u → Below W0.heap.size W0 w' → TmsR A w' t u) :=
    hid fun t us w' h hb => h.below (HA0.out w' hb).1
  clear hA0
  refine wp_region_each (Inv := fun w' => Below W0.heap.size W0 w') (Po := posts [IsV (.agg #[.int .i64 a.kind, .int .i64 a.n, .string a.s, .slice sa a.args.length sc]), IsV (.agg #[.int .i64 b.kind, .int .i64 b.n, .string b.s, .slice sb b.args.length sd]), IsB (a = b), IsV (.agg #[.int .i64 a.kind, .int .i64 a.n, .string a.s, .slice sa a.args.length sc]), IsV (.agg #[.int .i64 b.kind, .int .i64 b.n, .string b.s, .slice sb b.args.length sd]), IsB (a = b), IsV (.bool true), IsV (.bool true), IsV (.agg #[.int .i64 a.kind, .int .i64 a.n, .string a.s, .slice sa a.args.length sc]), IsTm a, IsV (.int .i64 n), IsTm (a.ren fun x => low x + low n), IsV (.agg #[.int .i64 a.kind, .int .i64 a.n, .string a.s, .slice sa a.args.length sc]), IsV (.int .i64 n), IsTm (a.ren fun x => low x + low n), IsV (.bool true), IsV (.bool true), IsV (.bool true), IsV v, IsTms l, IsTms (Tm.renSL seenF [] l).1, IsV v, IsTms (Tm.renSL seenF [] l).1, IsV (.bool true), IsV (.bool true), IsV (.bool true), IsV (.bool true), IsV (.bool true), IsV (.bool true)]) (Rl := fun w w' => Below w.heap.size w w') (by kernel_rfl) (by kernel_rfl) (by kernel_rfl) ((Below.refl _ _).drew) ?_ ?_ ?_ ?_
  · refine posts_stay fun R hR => ?_
    simp only [List.mem_cons, List.not_mem_nil, or_false] at hR
    rcases hR with rfl | rfl | rfl | rfl | rfl | rfl | rfl | rfl | rfl | rfl | rfl | rfl | rfl | rfl | rfl | rfl | rfl | rfl | rfl | rfl | rfl | rfl | rfl | rfl | rfl | rfl | rfl | rfl | rfl <;> first | exact stays_V _ | exact stays_B _ | exact stays_Tm _ | exact stays_Tms _
  · exact fun w1 w2 h h' => h.trans (h'.mono h.size)
  · intro i o ho f ac ww hinv hpo hdst hold
    match i, ho with
    | 0, ho =>
      obtain rfl : _ = o := Option.some.inj ho
      have t4 := hold 4 (by kernel_rfl)
      refine Or.inl ⟨want0 rfl, ?_⟩
      clear hdst hpo hold ho
      obtain ⟨hbw, ⟨x0, x1, x2, x3⟩, y0, y1, y2, y3⟩ := HA0.out ww hinv
      unfold Ans
      go_simp
      exact ⟨rfl, Below.refl _ _⟩
    | 1, ho =>
      obtain rfl : _ = o := Option.some.inj ho
      have t5 := hold 5 (by kernel_rfl)
      refine Or.inl ⟨want0 rfl, ?_⟩
      clear hdst hpo hold ho
      obtain ⟨hbw, ⟨x0, x1, x2, x3⟩, y0, y1, y2, y3⟩ := HA0.out ww hinv
      unfold Ans
      go_simp
      exact ⟨rfl, Below.refl _ _⟩
    | 2, ho =>
      obtain rfl : _ = o := Option.some.inj ho
      have t9 : ac.tmps[9]? = some (f 0) := hdst 0 9 (by kernel_rfl) (by kernel_rfl)
      have p0 : (IsV (.agg #[.int .i64 a.kind, .int .i64 a.n, .string a.s, .slice sa a.args.length sc])) (f 0) ww := hpo 0 (by kernel_rfl)
      have t10 : ac.tmps[10]? = some (f 1) := hdst 1 10 (by kernel_rfl) (by kernel_rfl)
      have p1 : (IsV (.agg #[.int .i64 b.kind, .int .i64 b.n, .string b.s, .slice sb b.args.length sd])) (f 1) ww := hpo 1 (by kernel_rfl)
      refine Or.inl ⟨want0 rfl, ?_⟩
      clear hdst hpo hold ho
      unfold Ans
      go_simp
      rw [show f 0 = _ from p0, show f 1 = _ from p1]
      refine (same_term_ok a b A ww [_, _, _, _] [_, _, _, _] (Tm.rep_lasts.1 _ _ _ _ _ HTA.out (Keeps.of_below (HA0.out ww hinv).1)) (Tm.rep_lasts.1 _ _ _ _ _ HTB.out (Keeps.of_below (HA0.out ww hinv).1))).mono ?_
      rintro e w1 ⟨r, rfl, hb, hr⟩
      exact ⟨r, rfl, hr, hb⟩
    | 3, ho =>
      obtain rfl : _ = o := Option.some.inj ho
      have t4 := hold 4 (by kernel_rfl)
      refine Or.inl ⟨want0 rfl, ?_⟩
      clear hdst hpo hold ho
      obtain ⟨hbw, ⟨x0, x1, x2, x3⟩, y0, y1, y2, y3⟩ := HA0.out ww hinv
      unfold Ans
      go_simp
      exact ⟨rfl, Below.refl _ _⟩
    | 4, ho =>
      obtain rfl : _ = o := Option.some.inj ho
      have t5 := hold 5 (by kernel_rfl)
      refine Or.inl ⟨want0 rfl, ?_⟩
      clear hdst hpo hold ho
      obtain ⟨hbw, ⟨x0, x1, x2, x3⟩, y0, y1, y2, y3⟩ := HA0.out ww hinv
      unfold Ans
      go_simp
      exact ⟨rfl, Below.refl _ _⟩
    | 5, ho =>
      obtain rfl : _ = o := Option.some.inj ho
      have t12 : ac.tmps[12]? = some (f 3) := hdst 3 12 (by kernel_rfl) (by kernel_rfl)
      have p3 : (IsV (.agg #[.int .i64 a.kind, .int .i64 a.n, .string a.s, .slice sa a.args.length sc])) (f 3) ww := hpo 3 (by kernel_rfl)
      have t13 : ac.tmps[13]? = some (f 4) := hdst 4 13 (by kernel_rfl) (by kernel_rfl)
      have p4 : (IsV (.agg #[.int .i64 b.kind, .int .i64 b.n, .string b.s, .slice sb b.args.length sd])) (f 4) ww := hpo 4 (by kernel_rfl)
      refine Or.inl ⟨want0 rfl, ?_⟩
      clear hdst hpo hold ho
      unfold Ans
      go_simp
      rw [show f 3 = _ from p3, show f 4 = _ from p4]
      refine (sameTerm_ok a b A ww [_, _, _, _] [_, _, _, _] (Tm.rep_lasts.1 _ _ _ _ _ HTA.out (Keeps.of_below (HA0.out ww hinv).1)) (Tm.rep_lasts.1 _ _ _ _ _ HTB.out (Keeps.of_below (HA0.out ww hinv).1))).mono ?_
      rintro e w1 ⟨r, rfl, hb, hr⟩
      exact ⟨r, rfl, hr, hb⟩
    | 6, ho =>
      obtain rfl : _ = o := Option.some.inj ho
      have t11 : ac.tmps[11]? = some (f 2) := hdst 2 11 (by kernel_rfl) (by kernel_rfl)
      have p2 : (IsB (a = b)) (f 2) ww := hpo 2 (by kernel_rfl)
      have t14 : ac.tmps[14]? = some (f 5) := hdst 5 14 (by kernel_rfl) (by kernel_rfl)
      have p5 : (IsB (a = b)) (f 5) ww := hpo 5 (by kernel_rfl)
      refine Or.inl ⟨want0 rfl, ?_⟩
      clear hdst hpo hold ho
      obtain ⟨r, e2, h2⟩ := p2
      obtain ⟨r', e5, h5⟩ := p5
      obtain rfl : r = r' := by rw [Bool.eq_iff_iff, h2, h5]
      rw [e2] at t11
      rw [e5] at t14
      unfold Ans
      go_simp
      exact ⟨by simp [posts, IsV], Below.refl _ _⟩
    | 7, ho =>
      obtain rfl : _ = o := Option.some.inj ho
      have t15 : ac.tmps[15]? = some (f 6) := hdst 6 15 (by kernel_rfl) (by kernel_rfl)
      have p6 : (IsV (.bool true)) (f 6) ww := hpo 6 (by kernel_rfl)
      refine Or.inl ⟨want0 rfl, ?_⟩
      clear hdst hpo hold ho
      unfold Ans
      go_simp
      exact ⟨p6, Below.refl _ _⟩
    | 8, ho =>
      obtain rfl : _ = o := Option.some.inj ho
      have t16 : ac.tmps[16]? = some (f 7) := hdst 7 16 (by kernel_rfl) (by kernel_rfl)
      have p7 : (IsV (.bool true)) (f 7) ww := hpo 7 (by kernel_rfl)
      have t4 := hold 4 (by kernel_rfl)
      have g7 := t16
      rw [show f 7 = .bool true from p7] at g7
      refine Or.inl ⟨want1 (g := 7) (s := 16) (b := true) (c := true) rfl (by kernel_rfl) g7, ?_⟩
      clear hdst hpo hold ho
      obtain ⟨hbw, ⟨x0, x1, x2, x3⟩, y0, y1, y2, y3⟩ := HA0.out ww hinv
      unfold Ans
      go_simp
      exact ⟨rfl, Below.refl _ _⟩
    | 9, ho =>
      obtain rfl : _ = o := Option.some.inj ho
      have t17 : ac.tmps[17]? = some (f 8) := hdst 8 17 (by kernel_rfl) (by kernel_rfl)
      have p8 : (IsV (.agg #[.int .i64 a.kind, .int .i64 a.n, .string a.s, .slice sa a.args.length sc])) (f 8) ww := hpo 8 (by kernel_rfl)
      have t16 : ac.tmps[16]? = some (f 7) := hdst 7 16 (by kernel_rfl) (by kernel_rfl)
      have p7 : (IsV (.bool true)) (f 7) ww := hpo 7 (by kernel_rfl)
      have g7 := t16
      rw [show f 7 = .bool true from p7] at g7
      refine Or.inl ⟨want1 (g := 7) (s := 16) (b := true) (c := true) rfl (by kernel_rfl) g7, ?_⟩
      clear hdst hpo hold ho
      unfold Ans
      go_simp
      rw [show f 8 = _ from p8]
      refine (copyTerm_ok a A ww [_, _, _, _] (Tm.rep_lasts.1 _ _ _ _ _ HTA.out (Keeps.of_below (HA0.out ww hinv).1))).mono ?_
      rintro e w1 ⟨r, rfl, hb, us, rfl, hr⟩
      exact ⟨_, rfl, ⟨us, rfl, Tm.rep_lasts.2.1 _ _ _ _ _ hr fun _ _ _ => trivial⟩, hb⟩
    | 10, ho =>
      obtain rfl : _ = o := Option.some.inj ho
      have t16 : ac.tmps[16]? = some (f 7) := hdst 7 16 (by kernel_rfl) (by kernel_rfl)
      have p7 : (IsV (.bool true)) (f 7) ww := hpo 7 (by kernel_rfl)
      have t3 := hold 3 (by kernel_rfl)
      have g7 := t16
      rw [show f 7 = .bool true from p7] at g7
      refine Or.inl ⟨want1 (g := 7) (s := 16) (b := true) (c := true) rfl (by kernel_rfl) g7, ?_⟩
      clear hdst hpo hold ho
      unfold Ans
      go_simp
      exact ⟨rfl, Below.refl _ _⟩
    | 11, ho =>
      obtain rfl : _ = o := Option.some.inj ho
      have t18 : ac.tmps[18]? = some (f 9) := hdst 9 18 (by kernel_rfl) (by kernel_rfl)
      have p9 : (IsTm a) (f 9) ww := hpo 9 (by kernel_rfl)
      have t19 : ac.tmps[19]? = some (f 10) := hdst 10 19 (by kernel_rfl) (by kernel_rfl)
      have p10 : (IsV (.int .i64 n)) (f 10) ww := hpo 10 (by kernel_rfl)
      have t16 : ac.tmps[16]? = some (f 7) := hdst 7 16 (by kernel_rfl) (by kernel_rfl)
      have p7 : (IsV (.bool true)) (f 7) ww := hpo 7 (by kernel_rfl)
      have g7 := t16
      rw [show f 7 = .bool true from p7] at g7
      refine Or.inl ⟨want1 (g := 7) (s := 16) (b := true) (c := true) rfl (by kernel_rfl) g7, ?_⟩
      clear hdst hpo hold ho
      obtain ⟨us, e9, h9⟩ := p9
      unfold Ans
      go_simp
      rw [show f 10 = _ from p10]
      refine (shift_ok a n _ ww _ hn h9).mono ?_
      rintro e w1 ⟨r, rfl, hb, us, rfl, hr⟩
      exact ⟨_, rfl, ⟨us, rfl, Tm.rep_lasts.2.1 _ _ _ _ _ hr fun _ _ _ => trivial⟩, hb⟩
    | 12, ho =>
      obtain rfl : _ = o := Option.some.inj ho
      have t16 : ac.tmps[16]? = some (f 7) := hdst 7 16 (by kernel_rfl) (by kernel_rfl)
      have p7 : (IsV (.bool true)) (f 7) ww := hpo 7 (by kernel_rfl)
      have t4 := hold 4 (by kernel_rfl)
      have g7 := t16
      rw [show f 7 = .bool true from p7] at g7
      refine Or.inl ⟨want1 (g := 7) (s := 16) (b := true) (c := true) rfl (by kernel_rfl) g7, ?_⟩
      clear hdst hpo hold ho
      obtain ⟨hbw, ⟨x0, x1, x2, x3⟩, y0, y1, y2, y3⟩ := HA0.out ww hinv
      unfold Ans
      go_simp
      exact ⟨rfl, Below.refl _ _⟩
    | 13, ho =>
      obtain rfl : _ = o := Option.some.inj ho
      have t16 : ac.tmps[16]? = some (f 7) := hdst 7 16 (by kernel_rfl) (by kernel_rfl)
      have p7 : (IsV (.bool true)) (f 7) ww := hpo 7 (by kernel_rfl)
      have t3 := hold 3 (by kernel_rfl)
      have g7 := t16
      rw [show f 7 = .bool true from p7] at g7
      refine Or.inl ⟨want1 (g := 7) (s := 16) (b := true) (c := true) rfl (by kernel_rfl) g7, ?_⟩
      clear hdst hpo hold ho
      unfold Ans
      go_simp
      exact ⟨rfl, Below.refl _ _⟩
    | 14, ho =>
      obtain rfl : _ = o := Option.some.inj ho
      have t21 : ac.tmps[21]? = some (f 12) := hdst 12 21 (by kernel_rfl) (by kernel_rfl)
      have p12 : (IsV (.agg #[.int .i64 a.kind, .int .i64 a.n, .string a.s, .slice sa a.args.length sc])) (f 12) ww := hpo 12 (by kernel_rfl)
      have t22 : ac.tmps[22]? = some (f 13) := hdst 13 22 (by kernel_rfl) (by kernel_rfl)
      have p13 : (IsV (.int .i64 n)) (f 13) ww := hpo 13 (by kernel_rfl)
      have t16 : ac.tmps[16]? = some (f 7) := hdst 7 16 (by kernel_rfl) (by kernel_rfl)
      have p7 : (IsV (.bool true)) (f 7) ww := hpo 7 (by kernel_rfl)
      have g7 := t16
      rw [show f 7 = .bool true from p7] at g7
      refine Or.inl ⟨want1 (g := 7) (s := 16) (b := true) (c := true) rfl (by kernel_rfl) g7, ?_⟩
      clear hdst hpo hold ho
      unfold Ans
      go_simp
      rw [show f 12 = _ from p12, show f 13 = _ from p13]
      refine (shifted_ok a n hn (by omega) A ww [_, _, _, _] (Tm.rep_lasts.1 _ _ _ _ _ HTA.out (Keeps.of_below (HA0.out ww hinv).1))).mono ?_
      rintro e w1 ⟨r, rfl, hb, us, rfl, hr⟩
      exact ⟨_, rfl, ⟨us, rfl, Tm.rep_lasts.2.1 _ _ _ _ _ hr fun _ _ _ => trivial⟩, hb⟩
    | 15, ho =>
      obtain rfl : _ = o := Option.some.inj ho
      have t20 : ac.tmps[20]? = some (f 11) := hdst 11 20 (by kernel_rfl) (by kernel_rfl)
      have p11 : (IsTm (a.ren fun x => low x + low n)) (f 11) ww := hpo 11 (by kernel_rfl)
      have t23 : ac.tmps[23]? = some (f 14) := hdst 14 23 (by kernel_rfl) (by kernel_rfl)
      have p14 : (IsTm (a.ren fun x => low x + low n)) (f 14) ww := hpo 14 (by kernel_rfl)
      have t16 : ac.tmps[16]? = some (f 7) := hdst 7 16 (by kernel_rfl) (by kernel_rfl)
      have p7 : (IsV (.bool true)) (f 7) ww := hpo 7 (by kernel_rfl)
      have g7 := t16
      rw [show f 7 = .bool true from p7] at g7
      refine Or.inl ⟨want1 (g := 7) (s := 16) (b := true) (c := true) rfl (by kernel_rfl) g7, ?_⟩
      clear hdst hpo hold ho
      obtain ⟨us, e11, h11⟩ := p11
      obtain ⟨us2, e14, h14⟩ := p14
      unfold Ans
      go_simp
      refine (sameTerm_ok _ _ _ ww _ _ h11 h14).mono ?_
      rintro e w1 ⟨r, rfl, hb, t, rfl, ht⟩
      obtain rfl : t = true := ht.2 rfl
      exact ⟨_, rfl, rfl, hb⟩
    | 16, ho =>
      obtain rfl : _ = o := Option.some.inj ho
      have t16 : ac.tmps[16]? = some (f 7) := hdst 7 16 (by kernel_rfl) (by kernel_rfl)
      have p7 : (IsV (.bool true)) (f 7) ww := hpo 7 (by kernel_rfl)
      have t24 : ac.tmps[24]? = some (f 15) := hdst 15 24 (by kernel_rfl) (by kernel_rfl)
      have p15 : (IsV (.bool true)) (f 15) ww := hpo 15 (by kernel_rfl)
      refine Or.inl ⟨want0 rfl, ?_⟩
      clear hdst hpo hold ho
      rw [show f 7 = _ from p7] at t16
      rw [show f 15 = _ from p15] at t24
      unfold Ans
      go_simp
      exact ⟨rfl, Below.refl _ _⟩
    | 17, ho =>
      obtain rfl : _ = o := Option.some.inj ho
      have t25 : ac.tmps[25]? = some (f 16) := hdst 16 25 (by kernel_rfl) (by kernel_rfl)
      have p16 : (IsV (.bool true)) (f 16) ww := hpo 16 (by kernel_rfl)
      refine Or.inl ⟨want0 rfl, ?_⟩
      clear hdst hpo hold ho
      unfold Ans
      go_simp
      exact ⟨p16, Below.refl _ _⟩
    | 18, ho =>
      obtain rfl : _ = o := Option.some.inj ho
      have t26 : ac.tmps[26]? = some (f 17) := hdst 17 26 (by kernel_rfl) (by kernel_rfl)
      have p17 : (IsV (.bool true)) (f 17) ww := hpo 17 (by kernel_rfl)
      have t2 := hold 2 (by kernel_rfl)
      have g17 := t26
      rw [show f 17 = .bool true from p17] at g17
      refine Or.inl ⟨want1 (g := 17) (s := 26) (b := true) (c := true) rfl (by kernel_rfl) g17, ?_⟩
      clear hdst hpo hold ho
      unfold Ans
      go_simp
      exact ⟨rfl, Below.refl _ _⟩
    | 19, ho =>
      obtain rfl : _ = o := Option.some.inj ho
      have t27 : ac.tmps[27]? = some (f 18) := hdst 18 27 (by kernel_rfl) (by kernel_rfl)
      have p18 : (IsV v) (f 18) ww := hpo 18 (by kernel_rfl)
      have t26 : ac.tmps[26]? = some (f 17) := hdst 17 26 (by kernel_rfl) (by kernel_rfl)
      have p17 : (IsV (.bool true)) (f 17) ww := hpo 17 (by kernel_rfl)
      have g17 := t26
      rw [show f 17 = .bool true from p17] at g17
      refine Or.inl ⟨want1 (g := 17) (s := 26) (b := true) (c := true) rfl (by kernel_rfl) g17, ?_⟩
      clear hdst hpo hold ho
      unfold Ans
      go_simp
      rw [show f 18 = _ from p18]
      refine (copyTerms_ok l A ww _ (HTL.out.below (HA0.out ww hinv).1)).mono ?_
      rintro e w1 ⟨r, rfl, hb, hr⟩
      exact ⟨_, rfl, SlR.mono Tm.rep_lasts (by omega) hr (fun _ _ _ => trivial), hb⟩
    | 20, ho =>
      obtain rfl : _ = o := Option.some.inj ho
      have t28 : ac.tmps[28]? = some (f 19) := hdst 19 28 (by kernel_rfl) (by kernel_rfl)
      have p19 : (IsTms l) (f 19) ww := hpo 19 (by kernel_rfl)
      have t26 : ac.tmps[26]? = some (f 17) := hdst 17 26 (by kernel_rfl) (by kernel_rfl)
      have p17 : (IsV (.bool true)) (f 17) ww := hpo 17 (by kernel_rfl)
      have g17 := t26
      rw [show f 17 = .bool true from p17] at g17
      refine Or.inl ⟨want1 (g := 17) (s := 26) (b := true) (c := true) rfl (by kernel_rfl) g17, ?_⟩
      clear hdst hpo hold ho
      unfold Ans
      go_simp
      refine (tidy_ok l (by omega) _ ww _ p19).mono ?_
      rintro e w1 ⟨r, rfl, hb, hr⟩
      exact ⟨_, rfl, SlR.mono Tm.rep_lasts (by omega) hr (fun _ _ _ => trivial), hb⟩
    | 21, ho =>
      obtain rfl : _ = o := Option.some.inj ho
      have t26 : ac.tmps[26]? = some (f 17) := hdst 17 26 (by kernel_rfl) (by kernel_rfl)
      have p17 : (IsV (.bool true)) (f 17) ww := hpo 17 (by kernel_rfl)
      have t2 := hold 2 (by kernel_rfl)
      have g17 := t26
      rw [show f 17 = .bool true from p17] at g17
      refine Or.inl ⟨want1 (g := 17) (s := 26) (b := true) (c := true) rfl (by kernel_rfl) g17, ?_⟩
      clear hdst hpo hold ho
      unfold Ans
      go_simp
      exact ⟨rfl, Below.refl _ _⟩
    | 22, ho =>
      obtain rfl : _ = o := Option.some.inj ho
      have t30 : ac.tmps[30]? = some (f 21) := hdst 21 30 (by kernel_rfl) (by kernel_rfl)
      have p21 : (IsV v) (f 21) ww := hpo 21 (by kernel_rfl)
      have t26 : ac.tmps[26]? = some (f 17) := hdst 17 26 (by kernel_rfl) (by kernel_rfl)
      have p17 : (IsV (.bool true)) (f 17) ww := hpo 17 (by kernel_rfl)
      have g17 := t26
      rw [show f 17 = .bool true from p17] at g17
      refine Or.inl ⟨want1 (g := 17) (s := 26) (b := true) (c := true) rfl (by kernel_rfl) g17, ?_⟩
      clear hdst hpo hold ho
      unfold Ans
      go_simp
      rw [show f 21 = _ from p21]
      refine (tidied_ok l (by omega) A ww _ (HTL.out.below (HA0.out ww hinv).1)).mono ?_
      rintro e w1 ⟨r, rfl, hb, hr⟩
      exact ⟨_, rfl, SlR.mono Tm.rep_lasts (by omega) hr (fun _ _ _ => trivial), hb⟩
    | 23, ho =>
      obtain rfl : _ = o := Option.some.inj ho
      have t29 : ac.tmps[29]? = some (f 20) := hdst 20 29 (by kernel_rfl) (by kernel_rfl)
      have p20 : (IsTms (Tm.renSL seenF [] l).1) (f 20) ww := hpo 20 (by kernel_rfl)
      have t31 : ac.tmps[31]? = some (f 22) := hdst 22 31 (by kernel_rfl) (by kernel_rfl)
      have p22 : (IsTms (Tm.renSL seenF [] l).1) (f 22) ww := hpo 22 (by kernel_rfl)
      have t26 : ac.tmps[26]? = some (f 17) := hdst 17 26 (by kernel_rfl) (by kernel_rfl)
      have p17 : (IsV (.bool true)) (f 17) ww := hpo 17 (by kernel_rfl)
      have g17 := t26
      rw [show f 17 = .bool true from p17] at g17
      refine Or.inl ⟨want1 (g := 17) (s := 26) (b := true) (c := true) rfl (by kernel_rfl) g17, ?_⟩
      clear hdst hpo hold ho
      unfold Ans
      go_simp
      refine (sameTerms_ok _ _ _ ww _ _ p20 p22).mono ?_
      rintro e w1 ⟨r, rfl, hb, t, rfl, ht⟩
      obtain rfl : t = true := ht.2 rfl
      exact ⟨_, rfl, rfl, hb⟩
    | 24, ho =>
      obtain rfl : _ = o := Option.some.inj ho
      have t26 : ac.tmps[26]? = some (f 17) := hdst 17 26 (by kernel_rfl) (by kernel_rfl)
      have p17 : (IsV (.bool true)) (f 17) ww := hpo 17 (by kernel_rfl)
      have t32 : ac.tmps[32]? = some (f 23) := hdst 23 32 (by kernel_rfl) (by kernel_rfl)
      have p23 : (IsV (.bool true)) (f 23) ww := hpo 23 (by kernel_rfl)
      refine Or.inl ⟨want0 rfl, ?_⟩
      clear hdst hpo hold ho
      rw [show f 17 = _ from p17] at t26
      rw [show f 23 = _ from p23] at t32
      unfold Ans
      go_simp
      exact ⟨rfl, Below.refl _ _⟩
    | 25, ho =>
      obtain rfl : _ = o := Option.some.inj ho
      have t33 : ac.tmps[33]? = some (f 24) := hdst 24 33 (by kernel_rfl) (by kernel_rfl)
      have p24 : (IsV (.bool true)) (f 24) ww := hpo 24 (by kernel_rfl)
      refine Or.inl ⟨want0 rfl, ?_⟩
      clear hdst hpo hold ho
      unfold Ans
      go_simp
      exact ⟨p24, Below.refl _ _⟩
    | 26, ho =>
      obtain rfl : _ = o := Option.some.inj ho
      have t34 : ac.tmps[34]? = some (f 25) := hdst 25 34 (by kernel_rfl) (by kernel_rfl)
      have p25 : (IsV (.bool true)) (f 25) ww := hpo 25 (by kernel_rfl)
      have g25 := t34
      rw [show f 25 = .bool true from p25] at g25
      refine Or.inl ⟨want1 (g := 25) (s := 34) (b := true) (c := true) rfl (by kernel_rfl) g25, ?_⟩
      clear hdst hpo hold ho
      unfold Ans
      go_simp
      refine (terms_law ww).mono ?_
      rintro e w1 ⟨r, rfl, hb, hr⟩
      exact ⟨_, rfl, hr, hb⟩
    | 27, ho =>
      obtain rfl : _ = o := Option.some.inj ho
      have t34 : ac.tmps[34]? = some (f 25) := hdst 25 34 (by kernel_rfl) (by kernel_rfl)
      have p25 : (IsV (.bool true)) (f 25) ww := hpo 25 (by kernel_rfl)
      have t35 : ac.tmps[35]? = some (f 26) := hdst 26 35 (by kernel_rfl) (by kernel_rfl)
      have p26 : (IsV (.bool true)) (f 26) ww := hpo 26 (by kernel_rfl)
      refine Or.inl ⟨want0 rfl, ?_⟩
      clear hdst hpo hold ho
      rw [show f 25 = _ from p25] at t34
      rw [show f 26 = _ from p26] at t35
      unfold Ans
      go_simp
      exact ⟨rfl, Below.refl _ _⟩
    | 28, ho =>
      obtain rfl : _ = o := Option.some.inj ho
      have t36 : ac.tmps[36]? = some (f 27) := hdst 27 36 (by kernel_rfl) (by kernel_rfl)
      have p27 : (IsV (.bool true)) (f 27) ww := hpo 27 (by kernel_rfl)
      refine Or.inl ⟨want0 rfl, ?_⟩
      clear hdst hpo hold ho
      unfold Ans
      go_simp
      exact ⟨p27, Below.refl _ _⟩
    | i + 29, ho => simp at ho
  · intro f ww hinv hpo
    have p28 : IsV (.bool true) (f 28) ww := hpo 28 (by decide)
    simp only [fillT]
    rw [show f 28 = _ from p28]
    go_simp
    go_wp2_with fail
    go_ret
    exact ⟨_, rfl, (HA0.out ww hinv).1, rfl⟩
end Go.Proofs.Ytlpmfkpefoegeaa
