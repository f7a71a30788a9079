/-
  The walk of queristkeep.TermTidy.
-/
import Derived.Test.YtlpmfkpefoegeaaPTidy
import Derived.Test.YtlpmfkpefoegeaaQTidy
import Derived.Test.YtlpmfkpefoegeaaQSameKL
import Derived.Test.YtlpmfkpefoegeaaQTermsK
namespace Go.Proofs.Ytlpmfkpefoegeaa
set_option linter.unusedVariables false
set_option linter.unusedSimpArgs false
open Go.RowKit

theorem renS_nodes : ∀ (t : Tm) (st : List Int), (t.renS seenF st).1.nodes = t.nodes := by
  intro t
  induction t using Tm.induct with
  | h k n s l ih =>
    intro st
    have hL : ∀ (r : List Tm), (∀ t ∈ r, t ∈ l) → ∀ st : List Int, Tm.nodesL (Tm.renSL seenF st r).1 = Tm.nodesL r := by
      intro r
      induction r with
      | nil => intro _ st; rfl
      | cons x r ihr =>
        intro hm st
        simp only [Tm.renSL, Tm.nodesL, ih x (hm x (List.mem_cons_self ..)), ihr (fun t ht => hm t (List.mem_cons_of_mem _ ht))]
    simp only [Tm.renS, Tm.nodes, hL l (fun _ h => h)]
theorem renSL_nodes (l : List Tm) : ∀ (st : List Int), Tm.nodesL (Tm.renSL seenF st l).1 = Tm.nodesL l := by
  induction l with
  | nil => intro st; rfl
  | cons x r ih => intro st; simp only [Tm.renSL, Tm.nodesL, renS_nodes, ih]
theorem ren_nodes (f : Int → Int) : ∀ (t : Tm), (t.ren f).nodes = t.nodes := by
  intro t
  induction t using Tm.induct with
  | h k n s l ih =>
    have hL : ∀ (r : List Tm), (∀ t ∈ r, t ∈ l) → Tm.nodesL (Tm.renL f r) = Tm.nodesL r := by
      intro r
      induction r with
      | nil => intro _; rfl
      | cons x r ihr =>
        intro hm
        simp only [Tm.renL, Tm.nodesL, ih x (hm x (List.mem_cons_self ..)), ihr (fun t ht => hm t (List.mem_cons_of_mem _ ht))]
    simp only [Tm.ren, Tm.nodes, hL l (fun _ h => h)]
theorem ren_nodesL (f : Int → Int) (l : List Tm) : Tm.nodesL (l.map (Tm.ren f)) = Tm.nodesL l := by
  induction l with
  | nil => rfl
  | cons x r ih => simp only [List.map_cons, Tm.nodesL, ren_nodes, ih]

/-- the numbers moved: tidied it is the same -/
theorem shift_tidy (l : List Tm) (n : Int) (h : ∀ t ∈ l, t.Good 1048576) : tidy (l.map (Tm.ren fun x => low x + low (n % 1000))) = tidy l := by
  refine tidy_map (p := fun x => 0 ≤ x ∧ x < 1048576) (fun a b ha hb he => ?_) l (fun t ht => (h t ht).vars)
  unfold low at he
  omega

set_option maxHeartbeats 2000000 in
theorem termTidy_walk (l : List Tm) (n : Int) (hn : I64 n) (hnd : Tm.nodesL l ≤ 1048576) (A : Nat → Prop) (w : World) (v : Value) (hv : TmsR A w l v) :
    Calls Try.prog 4 #[v, .int .i64 n] w (Pure w fun r _ => r = .bool true) := by
  obtain ⟨a, cap, b, off, rfl, hlc, hcm, hlb, ha, he⟩ := hv.at
  have HV := hid hv
  have HE := hid he
  have HA := hid ha
  have HND := hid hnd
  have b1 : 0 ≤ n % 1000 ∧ n % 1000 < 1000 := by omega
  have hd64 : I64 (n % 1000) := by unfold I64; omega
  have HD := hid hd64
  have i20 : I64 1048576 := by unfold I64; omega
  have I20 := hid i20
  clear hv he ha hnd hd64 i20
  go_enter Try.func4, Try.ntmps4
  go_wp2_with fail
  refine (tidy_ok l (by have := HND.out; omega) A w _ HV.out).mono ?_
  rintro e W1 ⟨va, rfl, hb0, hra⟩
  obtain ⟨aa, acap, -, -, rfl, -, -, -, -, -⟩ := hra.at
  have hal : (Tm.renSL seenF [] l).1.length = l.length := Tm.renSL_length ..
  rw [hal] at hra ⊢
  have HRA := hid hra
  have HB0 := hid hb0
  have hz0 := hb0.size
  clear hra hb0 hal
  go_wp2_with fail
  go_loopw [6, 7, 14] (fun v sm q wr => ∃ (j : Nat) (s : Bool), j ≤ l.length ∧ q = .int .i64 j ∧ sm = .bool s ∧ Below W1.heap.size W1 wr ∧ (s = true → ∀ x (hx : x < j) (hl : j ≤ l.length), (l[x]'(by omega)).Good 1048576) ∧
      OwnR wr W1.heap.size 26 4 Tm.rep (fun b => W1.heap.size ≤ b) ((l.take j).map (Tm.ren fun x => low x + low (n % 1000))) v) (fun _ _ q _ => l.length - (intOf q).toNat)
  case atStart => exact ⟨0, true, Nat.zero_le _, rfl, rfl, Below.refl _ _, fun _ x hx => by omega, by simpa using OwnR.nil ..⟩
  case round =>
    obtain ⟨j, sb, hj, rfl, rfl, hb, hgood, hown⟩ := hrel
    have HB := hid hb
    have HG := hid hgood
    have HO := hid hown
    have hz := hb.size
    clear hb hgood hown
    by_cases hlt : j < l.length
    · obtain ⟨rfl, hAb⟩ := HA.out (by omega)
      have hkw : Below w.heap.size w wr := HB0.out.trans (HB.out.mono hz0)
      obtain ⟨sa, sc, c0, c1, c2, c3, hr⟩ := tm_cells HE.out hAb (Keeps.of_below hkw) hlt
      have HR := hid hr
      have HKW := hid hkw
      clear hr hkw
      go_wp2_with fail
      generalize hW : wr.alloc (.cells #[.int .i64 l[j].kind, .int .i64 l[j].n, .string l[j].s, .slice sa l[j].args.length sc] 26) = W0
      obtain ⟨x0, x1, x2, x3, -⟩ := blk4 (show W0.drew.heap[wr.heap.size]? = _ by subst hW; exact blk_new _ _)
      refine wp_region_F (F := fun k w' => k = 1 → w'.cell? ⟨wr.heap.size, 0, none⟩ = some (.int .i64 l[j].kind) ∧ w'.cell? ⟨wr.heap.size, 1, none⟩ = some (.int .i64 l[j].n) ∧ w'.cell? ⟨wr.heap.size, 2, none⟩ = some (.string l[j].s) ∧ w'.cell? ⟨wr.heap.size, 3, none⟩ = some (.slice sa l[j].args.length sc)) (by kernel_rfl) ?_
      refine wpAnyF_take (i := 0) (v := ?_) rfl (by kernel_rfl) (by kernel_rfl) (by kernel_rfl) (fun _ _ _ h => h) (Or.inl ⟨by rfl, ?_⟩) (fun _ => ⟨x0, x1, x2, x3⟩) ?_
      rotate_left
      · (intro w' hw; clear hw; go_simp <;> with_reducible rfl)
      try simp only [Act.put, List.setIfInBounds_toArray, List.set_cons_zero, List.set_cons_succ]
      refine wpAnyF_take (i := 1) (v := ?_) rfl (by kernel_rfl) (by kernel_rfl) (by kernel_rfl) (fun _ _ _ h => h) (Or.inl ⟨by rfl, ?_⟩) (fun _ => ⟨x0, x1, x2, x3⟩) ?_
      rotate_left
      · (intro w' hw; obtain ⟨q0, q1, q2, q3⟩ := hw (by omega); go_simp <;> with_reducible rfl)
      try simp only [Act.put, List.setIfInBounds_toArray, List.set_cons_zero, List.set_cons_succ]
      refine wpAnyF_take (i := 2) (v := ?_) rfl (by kernel_rfl) (by kernel_rfl) (by kernel_rfl) (fun _ _ _ h => h) (Or.inl ⟨by rfl, ?_⟩) (fun _ => ⟨x0, x1, x2, x3⟩) ?_
      rotate_left
      · (intro w' hw; clear hw; go_simp <;> with_reducible rfl)
      try simp only [Act.put, List.setIfInBounds_toArray, List.set_cons_zero, List.set_cons_succ]
      refine wpAnyF_one (i := 3) (by kernel_rfl) (wpOp_run rfl (by rfl) ?_)
      go_simp
      refine (pick_ok n 1000 hn (by omega) (by omega) _).mono ?_
      rintro e w1 ⟨rfl, rfl⟩
      refine ⟨fun _ _ h => h, ?_⟩
      try simp only [Act.put, List.setIfInBounds_toArray, List.set_cons_zero, List.set_cons_succ]
      refine wpAnyF_one (i := 4) (by kernel_rfl) (wpOp_run rfl (by rfl) ?_)
      go_simp
      have hsW : W0.heap.size = wr.heap.size + 1 := by subst hW; simp
      have hKd : Keeps (fun _ => True) wr W0.drew := by subst hW; exact (Keeps.alloc _ _ _).trans (Keeps.drew _ _)
      refine (shift_ok l[j] (n % 1000) A _ [_, _, _, _] HD.out (Tm.rep_lasts.1 _ _ _ _ _ HR.out (hKd.mono fun _ _ _ => trivial))).mono ?_
      rintro e w1 ⟨v', rfl, hb1, us, rfl, hr⟩
      obtain ⟨sa', sc', rfl, -⟩ := Tm.rep4 hr
      have hsz := hb1.size
      simp only [World.size_drew] at hsz
      have hHO : OwnR W0.drew _ _ _ _ _ _ _ := HO.out.keeps Tm.rep_lasts hKd (fun _ _ => trivial) (fun _ _ => trivial)
      have HO1 := hid (hHO.below Tm.rep_lasts hb1)
      have HN := hid (fresh_elem Tm.rep_lasts hHO (Nat.le_refl _) (A := fun b => W1.heap.size ≤ b) (fun b hb => by simp only [World.size_drew] at hb; omega) hr)
      have HL := hid (show ((l.take j).map (Tm.ren fun x => low x + low (n % 1000))).length < 4194304 ∧ W1.heap.size ≤ w1.heap.size by simp; omega)
      have HBB : Hid (Below W1.heap.size W1 w1) := hid ((show Below W1.heap.size W1 W0.drew by subst hW; exact (HB.out.alloc (by omega) _).drew).trans (hb1.mono (by simp only [World.size_drew]; omega)))
      have HQ := hid (show w1.cell? ⟨wr.heap.size, 0, none⟩ = some (.int .i64 l[j].kind) ∧ w1.cell? ⟨wr.heap.size, 1, none⟩ = some (.int .i64 l[j].n) ∧ w1.cell? ⟨wr.heap.size, 2, none⟩ = some (.string l[j].s) ∧ w1.cell? ⟨wr.heap.size, 3, none⟩ = some (.slice sa l[j].args.length sc) from ⟨bc hb1 x0, bc hb1 x1, bc hb1 x2, bc hb1 x3⟩)
      have HR1 := hid (Tm.rep_lasts.1 _ _ w1 _ _ HR.out ((hKd.mono fun _ _ _ => trivial).trans (Keeps.of_below hb1)))
      clear hr hb1 hHO hKd
      refine ⟨fun _ _ _ _ => HQ.out, ?_⟩
      refine wpAnyF_one (i := 5) (by kernel_rfl) (wpOp_run rfl (by rfl) ?_)
      go_simp
      refine ⟨fun _ _ _ _ => ?_, ?_⟩
      · obtain ⟨q0, q1, q2, q3⟩ := HQ.out
        have ka := Keeps.alloc (fun _ => True) w1 (.cells #[.int .i64 (Tm.ren (fun x => low x + low (n % 1000)) l[j]).kind, .int .i64 (Tm.ren (fun x => low x + low (n % 1000)) l[j]).n, .string (Tm.ren (fun x => low x + low (n % 1000)) l[j]).s, .slice sa' (Tm.ren (fun x => low x + low (n % 1000)) l[j]).args.length sc'] 26)
        exact ⟨ka.cell trivial q0, ka.cell trivial q1, ka.cell trivial q2, ka.cell trivial q3⟩
      refine wpAnyF_one (i := 6) (by kernel_rfl) (wpOp_run rfl (by rfl) ?_)
      refine wp_app1 (.tmp 18) (.tmp 23) 23 rfl W1.heap.size 26 4 56 tyTerm Tm.rep_lasts _ _ rfl HO1.out (Tm.ren (fun x => low x + low (n % 1000)) l[j]) [_, _, _, _] rfl rfl HN.out HL.out ?_
      intro v2 w2 hown2 hgrew
      have hlt2 := HO.out.lt
      have hk2 := hgrew.keeps (A := fun b => ownB u6 ≠ some b) (fun _ h => h)
      have hka := (Keeps.alloc (fun b => ownB u6 ≠ some b) w1 (.cells #[.int .i64 (Tm.ren (fun x => low x + low (n % 1000)) l[j]).kind, .int .i64 (Tm.ren (fun x => low x + low (n % 1000)) l[j]).n, .string (Tm.ren (fun x => low x + low (n % 1000)) l[j]).s, .slice sa' (Tm.ren (fun x => low x + low (n % 1000)) l[j]).args.length sc'] 26)).trans hk2
      have n2 : ownB u6 ≠ some wr.heap.size := fun e => by have := (hlt2 _ e).2; omega
      have HBB2 := hid (hgrew.below (HBB.out.alloc (by omega) _) (by simp; omega) (fun b hb => by have := (hlt2 b hb).1; omega))
      have HO2 := hid hown2
      have hz2 := hgrew.size
      simp only [World.size_alloc] at hz2
      have HQ2 := hid (show w2.cell? ⟨wr.heap.size, 0, none⟩ = some (.int .i64 l[j].kind) ∧ w2.cell? ⟨wr.heap.size, 1, none⟩ = some (.int .i64 l[j].n) ∧ w2.cell? ⟨wr.heap.size, 2, none⟩ = some (.string l[j].s) ∧ w2.cell? ⟨wr.heap.size, 3, none⟩ = some (.slice sa l[j].args.length sc) from by
        obtain ⟨q0, q1, q2, q3⟩ := HQ.out
        exact ⟨hka.cell n2 q0, hka.cell n2 q1, hka.cell n2 q2, hka.cell n2 q3⟩)
      have HR2 : Hid (Tm.rep (fun b => A b ∧ b < w.heap.size) w2 l[j] [.int .i64 l[j].kind, .int .i64 l[j].n, .string l[j].s, .slice sa l[j].args.length sc]) := by
        have hw2 : Below w.heap.size w w2 := HB0.out.trans (HBB2.out.mono hz0)
        obtain ⟨vs0, hl0, hrep0, hrow0⟩ := HE.out j _ (List.getElem?_eq_getElem hlt)
        obtain ⟨sa0, sc0, rfl, -⟩ := Tm.rep4 hrep0
        obtain ⟨-, -, -, d3⟩ := rowAt4 (RowAt.keeps hAb hrow0 (Keeps.of_below (A := A) HKW.out))
        have hsame : Value.slice sa l[j].args.length sc = Value.slice sa0 l[j].args.length sc0 := Option.some.inj (c3.symm.trans d3)
        rw [hsame]
        exact Tm.rep_lasts.1 _ _ _ _ _ (Tm.rep_lasts.2.1 _ (fun b => A b ∧ b < w.heap.size) _ _ _ hrep0 (fun b hb h => ⟨h, hb⟩)) (Keeps.of_below hw2)
      refine ⟨fun _ _ _ _ => HQ2.out, ?_⟩
      clear hown2 hka hk2 hgrew
      try simp only [Act.put, List.setIfInBounds_toArray, List.set_cons_zero, List.set_cons_succ]
      refine wpAnyF_one (i := 7) (by kernel_rfl) (wpOp_run rfl (by rfl) ?_)
      go_simp
      refine ⟨fun _ _ h => h, wpAnyF_done (by kernel_rfl) ?_ _⟩
      have HTK : Hid (l.take (j + 1) = l.take j ++ [l[j]]) := List.take_succ_eq_append_getElem hlt
      have hres := HO2.out
      rw [show (List.map (Tm.ren fun x => low x + low (n % 1000)) (l.take j) ++ [(Tm.ren (fun x => low x + low (n % 1000)) l[j])]) = (l.take (j + 1)).map (Tm.ren fun x => low x + low (n % 1000)) by rw [HTK.out, List.map_append]; rfl] at hres
      have HRES := hid hres
      clear hres x0 x1 x2 x3 c0 c1 c2 c3
      obtain ⟨y0, y1, y2, y3⟩ := HQ2.out
      cases sb with
      | false =>
        go_wp2_with fail
        go_roundw
        case rel => exact ⟨j + 1, false, by omega, by go_num, rfl, HBB2.out, (fun h => by cases h), HRES.out⟩
        case measure => simp [intOf]; omega
      | true =>
        go_wp2_with fail
        refine (good_ok l[j] 1048576 _ _ [_, _, _, _] I20.out HR2.out).mono ?_
        rintro e w3 ⟨v3, rfl, hb3, r, rfl, hr3⟩
        have HB3 := hid (HBB2.out.trans (hb3.mono (by omega)))
        have HRES3 := hid (HRES.out.below Tm.rep_lasts hb3)
        have HR3 := hid hr3
        clear hb3 hr3 y0 y1 y2 y3
        go_wp2_with fail
        go_roundw
        case rel =>
          refine ⟨j + 1, r, by omega, by go_num, rfl, HB3.out, fun h x hx _ => ?_, HRES3.out⟩
          by_cases hxj : x = j
          · subst hxj; exact HR3.out.1 h
          · exact HG.out (by first | rfl | trivial) x (by omega) hj
        case measure => simp [intOf]; omega
    · have : j = l.length := by omega
      subst this
      obtain ⟨ma, mcap, hmv, -⟩ := HO.out.val
      have hml : ((l.take l.length).map (Tm.ren fun x => low x + low (n % 1000))).length = l.length := by simp
      rw [hml] at hmv
      subst hmv
      go_wp2_with fail
      have hO := HO.out
      rw [List.take_length] at hO
      have HMV := hid (hO.sl (A := fun b => W1.heap.size ≤ b) Tm.rep_lasts (by simpa using hlb) (fun b hb => hb))
      have HRAr := hid (TmsR.below HRA.out HB.out)
      have HBr := hid (HB0.out.trans (HB.out.mono hz0))
      have hn1 : Tm.nodesL (Tm.renSL seenF [] l).1 = Tm.nodesL l := renSL_nodes l []
      have hn2 : Tm.nodesL (l.map (Tm.ren fun x => low x + low (n % 1000))) = Tm.nodesL l := ren_nodesL _ l
      have HN1 := hid hn1
      have HN2 := hid hn2
      clear hO hn1 hn2
      refine (tidy_ok _ (by have := HND.out; rw [HN1.out]; omega) _ wr _ HRAr.out).mono ?_
      rintro e w1 ⟨v1, rfl, hb1, hr1⟩
      obtain ⟨a1, cap1, -, -, rfl, -, -, -, -, -⟩ := hr1.at
      have hl1 : (Tm.renSL seenF [] (Tm.renSL seenF [] l).1).1.length = l.length := by rw [Tm.renSL_length, Tm.renSL_length]
      rw [hl1] at hr1 ⊢
      have HRA1 := hid (TmsR.below HRAr.out hb1)
      have HMV1 := hid (TmsR.below HMV.out hb1)
      have HR1 := hid hr1
      have HBs := hid (HBr.out.trans (hb1.mono HBr.out.size))
      clear hr1 hb1 hl1
      go_wp2_with fail
      refine (sames_ok _ _ (fun _ => True) w1 _ _ (SlR.mono Tm.rep_lasts (by omega) HRA1.out (fun _ _ _ => trivial)) (SlR.mono Tm.rep_lasts (by omega) HR1.out (fun _ _ _ => trivial))).mono ?_
      rintro e w2 ⟨v2, rfl, hb2, r, rfl, hr⟩
      obtain rfl : r = true := hr.2 (tidy_tidy l).symm
      have HRA2 := hid (TmsR.below HRA1.out hb2)
      have HMV2 := hid (TmsR.below HMV1.out hb2)
      have HBt := hid (HBs.out.trans (hb2.mono HBs.out.size))
      clear hr hb2
      cases sb with
      | false =>
        go_wp2_with fail
        refine (terms_keep w2).mono ?_
        rintro e w3 ⟨v3, rfl, hb3, rfl⟩
        have HBu := hid (HBt.out.trans (hb3.mono HBt.out.size))
        clear hb3
        go_wp2_with fail
        go_ret
        exact ⟨_, rfl, HBu.out, rfl⟩
      | true =>
        have hgood : ∀ t ∈ l, t.Good 1048576 := fun t ht => by
          obtain ⟨x, hx, rfl⟩ := List.mem_iff_getElem.1 ht
          exact HG.out (by first | rfl | trivial) x hx (Nat.le_refl _)
        have HGA := hid hgood
        clear hgood
        go_wp2_with fail
        refine (tidy_ok _ (by have := HND.out; rw [HN2.out]; omega) _ w2 _ HMV2.out).mono ?_
        rintro e w3 ⟨v3, rfl, hb3, hr3⟩
        obtain ⟨a3, cap3, -, -, rfl, -, -, -, -, -⟩ := hr3.at
        have hl3 : (Tm.renSL seenF [] (l.map (Tm.ren fun x => low x + low (n % 1000)))).1.length = l.length := by rw [Tm.renSL_length, List.length_map]
        rw [hl3] at hr3 ⊢
        have HRA3 := hid (TmsR.below HRA2.out hb3)
        have HR3 := hid hr3
        have HBu := hid (HBt.out.trans (hb3.mono HBt.out.size))
        clear hr3 hb3 hl3
        go_wp2_with fail
        refine (sames_ok _ _ (fun _ => True) w3 _ _ (SlR.mono Tm.rep_lasts (by omega) HRA3.out (fun _ _ _ => trivial)) (SlR.mono Tm.rep_lasts (by omega) HR3.out (fun _ _ _ => trivial))).mono ?_
        rintro e w4 ⟨v4, rfl, hb4, r, rfl, hr⟩
        obtain rfl : r = true := hr.2 (shift_tidy l n (fun t ht => HGA.out t ht)).symm
        have HBv := hid (HBu.out.trans (hb4.mono HBu.out.size))
        clear hr hb4
        go_wp2_with fail
        refine (terms_keep w4).mono ?_
        rintro e w5 ⟨v5, rfl, hb5, rfl⟩
        have HBw := hid (HBv.out.trans (hb5.mono HBv.out.size))
        clear hb5
        go_wp2_with fail
        go_ret
        exact ⟨_, rfl, HBw.out, rfl⟩
end Go.Proofs.Ytlpmfkpefoegeaa
