/-
  Copies of clauses and of programs, of their own memory.
  Copies of programs, of their own memory.
  Plain law: how far the prover's numbers go.
-/
import Derived.Test.YtlpmfkpefoegeabDoorQUbind
import Derived.Test.YtlpmfkpefoegeabDoorROpenC
import Derived.Test.YtlpmfkpefoegeabDoorQReg
import Derived.Test.YtlpmfkpefoegeabDoorPProve2
namespace Go.Proofs.YtlpmfkpefoegeabDoor
set_option linter.unusedVariables false
set_option linter.unusedSimpArgs false
open Go.RowKit
def IsTmN (base : Nat) (t : Tm) : Value → World → Prop := fun v w => ∃ us, v = .agg us.toArray ∧ Tm.rep (fun b => base ≤ b) w t us
def IsTmsN (base : Nat) (l : List Tm) : Value → World → Prop := fun v w => TmsR (fun b => base ≤ b) w l v
theorem stays_TmN (base : Nat) (t : Tm) : Stays (IsTmN base t) := fun v w w' ⟨us, h1, h2⟩ hb => ⟨us, h1, Tm.rep_lasts.1 _ _ _ _ _ h2 (Keeps.of_below hb)⟩
theorem stays_TmsN (base : Nat) (l : List Tm) : Stays (IsTmsN base l) := fun v w w' h hb => h.below hb
set_option maxHeartbeats 2000000 in
theorem clauseCopy_ok (c : Cl) (A : Nat → Prop) (w : World) (vs : List Value) (hc : Cl.rep A w c vs) :
    Calls Tryd.prog 23 #[.agg vs.toArray] w (Pure w fun v w' => ∃ us, v = .agg us.toArray ∧ Cl.rep (New w) w' c us) := by
  obtain ⟨h, l, v⟩ := c
  obtain ⟨pa, pac, pb, pbc, rfl, hh, hb, hi⟩ := hc
  simp only at hh hb hi
  have HH := hid hh
  have HBD := hid hb
  have HI := hid hi
  clear hh hb hi
  go_enter Tryd.func23, Tryd.ntmps23
  go_wp2_with fail
  generalize hW : (w.alloc (.cells #[.int .i64 h.kind, .int .i64 h.n, .string h.s, .slice pa h.args.length pac, .slice pb l.length pbc, .int .i64 v] 39)).alloc (.cells #[.int .i64 0, .int .i64 0, .string ⟨#[]⟩, .slice none 0 0, .slice none 0 0, .int .i64 0] 39) = W0
  have hA0 : ∀ w', Below W0.heap.size W0 w' → Below w.heap.size w w' ∧ RowAt w' w.heap.size 0 [.int .i64 h.kind, .int .i64 h.n, .string h.s, .slice pa h.args.length pac] ∧ w'.cell? ⟨w.heap.size, 4, none⟩ = some (.slice pb l.length pbc) ∧ w'.heap[w.heap.size]? = some (.cells #[.int .i64 h.kind, .int .i64 h.n, .string h.s, .slice pa h.args.length pac, .slice pb l.length pbc, .int .i64 v] 39 (0, 0)) ∧ w'.heap[w.heap.size + 1]? = some (.cells #[.int .i64 0, .int .i64 0, .string ⟨#[]⟩, .slice none 0 0, .slice none 0 0, .int .i64 0] 39 (0, 0)) := by
    intro w' hb
    subst hW
    have h2 := heap2 w (.cells #[.int .i64 h.kind, .int .i64 h.n, .string h.s, .slice pa h.args.length pac, .slice pb l.length pbc, .int .i64 v] 39) (.cells #[.int .i64 0, .int .i64 0, .string ⟨#[]⟩, .slice none 0 0, .slice none 0 0, .int .i64 0] 39)
    have h3 := blk_below h2.1 hb
    have h4 := blk_below h2.2 hb
    exact ⟨below_pure (below_pure (hb.mono (by simp))), by intro j u hj; match j, hj with | 0, hj => exact (blk_cell h3 0).trans hj | 1, hj => exact (blk_cell h3 1).trans hj | 2, hj => exact (blk_cell h3 2).trans hj | 3, hj => exact (blk_cell h3 3).trans hj | j + 4, hj => simp at hj, (blk_cell h3 4).trans rfl, h3, h4⟩
  have HA0 := hid hA0
  have hsz : W0.heap.size = w.heap.size + 2 := by subst hW; simp
  have hsz' : w.heap.size + 2 ≤ W0.heap.size := by omega
  have HSZ := hid hsz
  clear hA0 hW hsz
  refine wp_region_front 7 (Inv := fun w' => Below W0.heap.size W0 w') (Po := posts [IsV (.pointer (some ⟨w.heap.size, 0, none⟩)), IsV (.agg #[.int .i64 h.kind, .int .i64 h.n, .string h.s, .slice pa h.args.length pac]), IsTmN W0.heap.size h, IsV (.pointer (some ⟨w.heap.size, 4, none⟩)), IsV (.slice pb l.length pbc), IsTmsN W0.heap.size l, IsV (.pointer (some ⟨w.heap.size, 0, none⟩))]) (Rl := fun w w' => Below w.heap.size w w') (by kernel_rfl) (by kernel_rfl) (by kernel_rfl) (by kernel_rfl) ((Below.refl _ _).drew) ?_ ?_ ?_ ?_
  · refine posts_stay fun R hR => ?_
    simp only [List.mem_cons, List.not_mem_nil, or_false] at hR
    rcases hR with rfl | rfl | rfl | rfl | rfl | rfl | rfl <;> first | exact stays_V _ | exact stays_any | exact stays_B _ | exact stays_Tm _ | exact stays_Tms _ | exact stays_Cs _ | exact stays_Ns _ | exact stays_Bs _ | exact stays_Hp _ | exact stays_OC _ _ | exact stays_ON _ _ | exact stays_TmN _ _ | exact stays_TmsN _ _
  · exact fun w1 w2 h h' => h.trans (h'.mono h.size)
  · intro i o ho f ac ww hinv hpo hdst hold
    match i, ho with
      | 0, ho =>
        obtain rfl : _ = o := Option.some.inj ho
        have t1 := hold 1 (by kernel_rfl)
        refine Or.inl ⟨want0 rfl, ?_⟩
        clear hdst hpo hold ho
        clear hinv
        unfold Ans
        go_simp
        exact ⟨rfl, Below.refl _ _⟩
      | 1, ho =>
        obtain rfl : _ = o := Option.some.inj ho
        have t3 : ac.tmps[3]? = some (f 0) := hdst 0 3 (by kernel_rfl) (by kernel_rfl)
        have p0 : (IsV (.pointer (some ⟨w.heap.size, 0, none⟩))) (f 0) ww := hpo 0 (by kernel_rfl)
        refine Or.inl ⟨want0 rfl, ?_⟩
        clear hdst hpo hold ho
        rw [show f 0 = _ from p0] at t3
        obtain ⟨-, q1, q2, q3, -⟩ := HA0.out ww hinv
        obtain ⟨r0, r1, r2, r3, r4, r5, rf⟩ := blk6 q3
        clear q3
        unfold Ans
        go_simp
        exact ⟨rfl, Below.refl _ _⟩
      | 2, ho =>
        obtain rfl : _ = o := Option.some.inj ho
        have t4 : ac.tmps[4]? = some (f 1) := hdst 1 4 (by kernel_rfl) (by kernel_rfl)
        have p1 : (IsV (.agg #[.int .i64 h.kind, .int .i64 h.n, .string h.s, .slice pa h.args.length pac])) (f 1) ww := hpo 1 (by kernel_rfl)
        refine Or.inl ⟨want0 rfl, ?_⟩
        clear hdst hpo hold ho
        rw [show f 1 = _ from p1] at t4
        unfold Ans
        go_simp
        refine (copyTerm_ok h A _ _ (Tm.rep_lasts.1 _ _ _ _ _ HH.out (Keeps.of_below (HA0.out ww hinv).1))).mono ?_
        rintro e w1 ⟨r, rfl, hb, us, rfl, hr⟩
        exact ⟨_, rfl, ⟨us, rfl, Tm.rep_lasts.2.1 _ _ _ _ _ hr (fun b _ hb => Nat.le_trans hinv.size hb)⟩, hb⟩
      | 3, ho =>
        obtain rfl : _ = o := Option.some.inj ho
        have t1 := hold 1 (by kernel_rfl)
        refine Or.inl ⟨want0 rfl, ?_⟩
        clear hdst hpo hold ho
        clear hinv
        unfold Ans
        go_simp
        exact ⟨rfl, Below.refl _ _⟩
      | 4, ho =>
        obtain rfl : _ = o := Option.some.inj ho
        have t6 : ac.tmps[6]? = some (f 3) := hdst 3 6 (by kernel_rfl) (by kernel_rfl)
        have p3 : (IsV (.pointer (some ⟨w.heap.size, 4, none⟩))) (f 3) ww := hpo 3 (by kernel_rfl)
        refine Or.inl ⟨want0 rfl, ?_⟩
        clear hdst hpo hold ho
        rw [show f 3 = _ from p3] at t6
        obtain ⟨-, q1, q2, q3, -⟩ := HA0.out ww hinv
        obtain ⟨r0, r1, r2, r3, r4, r5, rf⟩ := blk6 q3
        clear q3
        unfold Ans
        go_simp
        exact ⟨rfl, Below.refl _ _⟩
      | 5, ho =>
        obtain rfl : _ = o := Option.some.inj ho
        have t7 : ac.tmps[7]? = some (f 4) := hdst 4 7 (by kernel_rfl) (by kernel_rfl)
        have p4 : (IsV (.slice pb l.length pbc)) (f 4) ww := hpo 4 (by kernel_rfl)
        refine Or.inl ⟨want0 rfl, ?_⟩
        clear hdst hpo hold ho
        rw [show f 4 = _ from p4] at t7
        unfold Ans
        go_simp
        refine (copyTerms_ok l A _ _ (SlR.keeps Tm.rep_lasts HBD.out (Keeps.of_below (HA0.out ww hinv).1))).mono ?_
        rintro e w1 ⟨r, rfl, hb, hr⟩
        exact ⟨_, rfl, SlR.mono Tm.rep_lasts (by omega) hr (fun b _ hb => Nat.le_trans hinv.size hb), hb⟩
      | 6, ho =>
        obtain rfl : _ = o := Option.some.inj ho
        have t1 := hold 1 (by kernel_rfl)
        refine Or.inl ⟨want0 rfl, ?_⟩
        clear hdst hpo hold ho
        clear hinv
        unfold Ans
        go_simp
        exact ⟨rfl, Below.refl _ _⟩
      | i + 7, ho => simp at ho
  · intro f ww hinv hpo
    have p2 : (IsTmN W0.heap.size h) (f 2) ww := hpo 2 (by decide)
    have p5 : (IsTmsN W0.heap.size l) (f 5) ww := hpo 5 (by decide)
    have p6 : f 6 = .pointer (some ⟨w.heap.size, 0, none⟩) := hpo 6 (by decide)
    obtain ⟨us, e2, hr⟩ := p2
    obtain ⟨a2, c2, b2, o2, e5, -⟩ := SlR.at p5
    have HR2 := hid hr
    have HR5 := hid p5
    obtain ⟨sa, sc, rfl, -⟩ := Tm.rep4 hr
    obtain ⟨b3, x0, x1, b4, b5⟩ := HA0.out ww hinv
    obtain ⟨y0, y1, y2, y3, y4, y5, yf⟩ := blk6 b4
    obtain ⟨z0, z1, z2, z3, z4, z5, zf⟩ := blk6 b5
    simp only [fillT, List.take_succ_cons, List.take_zero, List.setIfInBounds_toArray, List.set_cons_succ, List.set_cons_zero]
    rw [e2, e5, p6]
    rw [e5] at HR5
    have HBB := hid b3
    have hz : w.heap.size + 2 ≤ ww.heap.size := by have := hinv.size; omega
    have hcs := cell_set
    clear hr p5 e2 e5 p6 hinv hpo b3 x0 x1 b4 b5
    refine wpAny_only (i := 7) (by kernel_rfl) (wpOp_run rfl (by rfl) ?_)
    go_simp
    refine wpAny_only (i := 8) (by kernel_rfl) (wpOp_run rfl (by rfl) ?_)
    go_simp
    refine wpAny_only (i := 9) (by kernel_rfl) (wpOp_run rfl (by rfl) ?_)
    go_simp
    refine wpAny_all (by kernel_rfl) ?_ _
    go_wp2_with fail
    have HCH := hid (show Ch (fun b => b = w.heap.size ∨ b = w.heap.size + 1) ww (((((((((((ww.setCell ⟨w.heap.size, 0, none⟩ (.int .i64 h.kind)).setCell ⟨w.heap.size, 1, none⟩ (.int .i64 h.n)).setCell ⟨w.heap.size, 2, none⟩ (.string h.s)).setCell ⟨w.heap.size, 3, none⟩ (.slice sa h.args.length sc)).setCell ⟨w.heap.size, 4, none⟩ (.slice a2 l.length c2)).setCell ⟨w.heap.size + 1, 0, none⟩ (.int .i64 h.kind)).setCell ⟨w.heap.size + 1, 1, none⟩ (.int .i64 h.n)).setCell ⟨w.heap.size + 1, 2, none⟩ (.string h.s)).setCell ⟨w.heap.size + 1, 3, none⟩ (.slice sa h.args.length sc)).setCell ⟨w.heap.size + 1, 4, none⟩ (.slice a2 l.length c2)).setCell ⟨w.heap.size + 1, 5, none⟩ (.int .i64 v)) from ((((((((((((((((((((((Ch.refl _ _).setCell (p := ⟨w.heap.size, 0, none⟩) (Or.inl (Or.inl rfl)) (.int .i64 h.kind))).setCell (p := ⟨w.heap.size, 1, none⟩) (Or.inl (Or.inl rfl)) (.int .i64 h.n))).setCell (p := ⟨w.heap.size, 2, none⟩) (Or.inl (Or.inl rfl)) (.string h.s))).setCell (p := ⟨w.heap.size, 3, none⟩) (Or.inl (Or.inl rfl)) (.slice sa h.args.length sc))).setCell (p := ⟨w.heap.size, 4, none⟩) (Or.inl (Or.inl rfl)) (.slice a2 l.length c2))).setCell (p := ⟨w.heap.size + 1, 0, none⟩) (Or.inl (Or.inr rfl)) (.int .i64 h.kind))).setCell (p := ⟨w.heap.size + 1, 1, none⟩) (Or.inl (Or.inr rfl)) (.int .i64 h.n))).setCell (p := ⟨w.heap.size + 1, 2, none⟩) (Or.inl (Or.inr rfl)) (.string h.s))).setCell (p := ⟨w.heap.size + 1, 3, none⟩) (Or.inl (Or.inr rfl)) (.slice sa h.args.length sc))).setCell (p := ⟨w.heap.size + 1, 4, none⟩) (Or.inl (Or.inr rfl)) (.slice a2 l.length c2))).setCell (p := ⟨w.heap.size + 1, 5, none⟩) (Or.inl (Or.inr rfl)) (.int .i64 v)))
    refine bodyPost_ret (v := .agg #[.int .i64 h.kind, .int .i64 h.n, .string h.s, .slice sa h.args.length sc, .slice a2 l.length c2, .int .i64 v]) (by simp [results, Tryd.results23, go_sem, hcs, z0, z1, z2, z3, z4, z5, zf, y0, y1, y2, y3, y4, y5, yf]) rfl ⟨_, rfl, ?_, _, rfl, sa, sc, a2, c2, rfl, ?_, ?_, HI.out⟩
    · exact HBB.out.trans ⟨HCH.out.os, HCH.out.tape, HCH.out.output, HCH.out.size, fun k hk => HCH.out.block k (by omega) (by omega)⟩
    · have HK := hid (HCH.out.keeps (A := fun b => W0.heap.size ≤ b) (fun b _ h => by omega))
      exact Tm.rep_lasts.2.1 _ _ _ _ _ (Tm.rep_lasts.1 _ _ _ _ _ HR2.out HK.out) (fun b _ hb => Nat.le_trans (by omega) hb)
    · have HK := hid (HCH.out.keeps (A := fun b => W0.heap.size ≤ b) (fun b _ h => by omega))
      exact SlR.mono Tm.rep_lasts (by omega) (SlR.keeps Tm.rep_lasts HR5.out HK.out) (fun b _ hb => Nat.le_trans (by omega) hb)
end Go.Proofs.YtlpmfkpefoegeabDoor

namespace Go.Proofs.YtlpmfkpefoegeabDoor
set_option linter.unusedVariables false
set_option linter.unusedSimpArgs false
open Go.RowKit
theorem tyClause : ElemTy Tryd.prog 32 39 6 88 :=
  .mk' (z := .agg #[.int .i64 0, .int .i64 0, .string ByteArray.empty, .slice none 0 0, .slice none 0 0, .int .i64 0]) Tryd.underlying32 (by kernel_rfl) rfl (by omega) (by omega)
set_option maxHeartbeats 1000000 in
theorem progCopy_ok (l : List Cl) (A : Nat → Prop) (w : World) (v : Value) (hv : ClsR A w l v) :
    Calls Tryd.prog 29 #[v] w (Pure w fun v' w' => ClsR (New w) w' l v') := by
  obtain ⟨a, cap, b, off, rfl, hlc, hcm, hlb, ha, he⟩ := hv.at
  have HE := hid he
  have HA := hid ha
  clear hv he ha
  go_enter Tryd.func29, Tryd.ntmps29
  go_wp2_with fail
  go_loopw [3, 8] (fun v i wr => ∃ k : Nat, k ≤ l.length ∧ i = .int .i64 k ∧ Below w.heap.size w wr ∧ OwnR wr w.heap.size 39 6 Cl.rep (New w) (l.take k) v) (fun _ i _ => l.length - (intOf i).toNat)
  case atStart => exact ⟨0, Nat.zero_le _, rfl, Below.refl _ _, by simpa using OwnR.nil ..⟩
  case round =>
    obtain ⟨k, hk, rfl, hb, hown⟩ := hrel
    have hz := hb.size
    have HO := hid hown
    have HB := hid hb
    clear hown hb
    by_cases hlt : k < l.length
    · obtain ⟨rfl, hAb⟩ := HA.out (by omega)
      obtain ⟨sa, sc, ba, bc, c0, c1, c2, c3, c4, c5, hr⟩ := cl_cells HE.out hAb (Keeps.of_below HB.out) hlt
      have HC := hid (clauseCopy_ok l[k] _ (wr.alloc _) _ (Cl.rep_lasts.1 _ _ _ _ _ hr (Keeps.alloc _ _ (.cells (#[.int .i64 l[k].head.kind, .int .i64 l[k].head.n, .string l[k].head.s, .slice sa l[k].head.args.length sc, .slice ba l[k].body.length bc, .int .i64 l[k].vars] : Array Value) 39))))
      clear hr
      go_wp2_with fail
      refine (HC.out).mono ?_
      rintro e w1 ⟨v, rfl, hb1, us, rfl, hr⟩
      have hsz := hb1.size
      simp only [World.size_alloc] at hsz
      have hr0 := hr
      obtain ⟨sa', sc', ba', bc', rfl, -⟩ := hr0
      have HO1 := hid ((HO.out.alloc Cl.rep_lasts _).below Cl.rep_lasts hb1)
      have HN := hid (fresh_elem Cl.rep_lasts HO.out (by simp) (A := New w) (fun b hb => by simp [New] at hb ⊢; omega) hr)
      have HL := hid (show (l.take k).length < 4194304 ∧ w.heap.size ≤ w1.heap.size by simp; omega)
      have HB1 := hid ((HB.out.alloc hz _).trans (hb1.mono (by simp; omega)))
      clear hr hb1 HC
      go_wp2_with (at_builtin; refine wpList_app1 rfl (.tmp 12) (.tmp 15) 32 rfl w.heap.size 39 6 88 tyClause Cl.rep_lasts u3 (l.take k) rfl HO1.out l[k] [_, _, _, _, _, _] rfl rfl HN.out HL.out ?_; intro v' w2 hown2 hgrew)
      go_roundw
      case rel =>
        refine ⟨k + 1, by omega, by go_num, hgrew.below (HB1.out.alloc (by omega) _) (by simp; omega) (fun b hb => (HO.out.lt b hb).1), ?_⟩
        rw [List.take_succ_eq_append_getElem hlt]; exact hown2
      case measure => simp [intOf]; omega
    · have : k = l.length := by omega
      subst this
      go_wp2_with fail
      go_ret
      have hO := HO.out
      rw [List.take_length] at hO
      exact ⟨_, rfl, HB.out, hO.sl Cl.rep_lasts hlb (fun b hb => hb)⟩
end Go.Proofs.YtlpmfkpefoegeabDoor

namespace Go.Proofs.YtlpmfkpefoegeabDoor
set_option linter.unusedVariables false
set_option linter.unusedSimpArgs false
def Pv.pot (p : Pv) : Int := p.vars + 8 * ((p.fuel + (12 - p.out.length) : Nat) : Int)
structure Bnd (d e : Int) (p p' : Pv) : Prop where
  vars : p.vars ≤ p'.vars
  fuel : p'.fuel ≤ p.fuel
  out : p.out.length ≤ p'.out.length
  calls : p'.calls + p'.fuel ≤ p.calls + p.fuel
  pot : p'.pot ≤ p.pot + d
  on : p'.ended = false → p'.out.length ≤ 11 ∧ p'.pot ≤ p.pot + e
theorem Bnd.refl {p : Pv} (h : p.out.length ≤ 11) : Bnd 0 0 p p := ⟨Int.le_refl _, Nat.le_refl _, Nat.le_refl _, Nat.le_refl _, by omega, fun _ => ⟨h, by omega⟩⟩
theorem Bnd.put (p : Pv) (kind : Int) (e : Int) : Bnd 0 e p (p.put kind) := ⟨Int.le_refl _, Nat.le_refl _, by simp [Pv.put], Nat.le_refl _, by simp [Pv.put, Pv.pot]; omega, fun h => by simp [Pv.put] at h⟩
theorem Bnd.mono {d e d' e' : Int} {p p' : Pv} (h : Bnd d e p p') (h1 : d ≤ d') (h2 : e ≤ e') : Bnd d' e' p p' := ⟨h.vars, h.fuel, h.out, h.calls, by have := h.pot; omega, fun x => ⟨(h.on x).1, by have := (h.on x).2; omega⟩⟩
theorem Bnd.trans {a b d e : Int} {p p' p'' : Pv} (h : Bnd a b p p') (hp : p'.ended = false) (h' : Bnd d e p' p'') : Bnd (b + d) (b + e) p p'' :=
  ⟨Int.le_trans h.vars h'.vars, Nat.le_trans h'.fuel h.fuel, Nat.le_trans h.out h'.out, Nat.le_trans h'.calls h.calls, by have := h'.pot; have := (h.on hp).2; omega, fun x => ⟨(h'.on x).1, by have := (h'.on x).2; have := (h.on hp).2; omega⟩⟩
def BndPr (f : Nat) (pr : List Td → Env → Pv → Int × Pv) : Prop := ∀ td E p, p.ended = false → p.out.length ≤ 11 → p.fuel ≤ f → Bnd 0 (-8) p (pr td E p).2
theorem loopR_bnd {f : Nat} {pr : List Td → Env → Pv → Int × Pv} (h : BndPr f pr) (t : Tm) (rest : List Td) (E : Env) (call : Nat) : ∀ (cs : List Cl) (p : Pv), (∀ c ∈ cs, 0 ≤ c.vars ∧ c.vars ≤ 8) → p.ended = false → p.out.length ≤ 11 → p.fuel ≤ f →
    Bnd 8 0 p (loopR pr t rest E call cs p).2
  | [], p, _, hp, ho, hf => (Bnd.refl ho).mono (by omega) (by omega)
  | c :: cs, p, hc, hp, ho, hf => by
    obtain ⟨hc0, hc8⟩ := hc c (by simp)
    have hcs : ∀ c ∈ cs, 0 ≤ c.vars ∧ c.vars ≤ 8 := fun x hx => hc x (by simp [hx])
    rw [loopR]
    simp only
    split
    · exact (Bnd.put p 4 0).mono (by omega) (by omega)
    · split
      · exact loopR_bnd h t rest E call cs p hcs hp ho hf
      · have h1 := h (bodyT call p.vars c.body rest) (uniS 400 [(shiftF c.head p.vars, t)] E).env { p with vars := p.vars + c.vars } hp ho hf
        generalize pr (bodyT call p.vars c.body rest) (uniS 400 [(shiftF c.head p.vars, t)] E).env { p with vars := p.vars + c.vars } = r at h1 ⊢
        have h2 : Bnd 8 0 p r.2 := ⟨by have := h1.vars; simp only at this; omega, h1.fuel, h1.out, h1.calls, by have := h1.pot; simp only [Pv.pot] at this ⊢; omega, fun x => ⟨(h1.on x).1, by have := (h1.on x).2; simp only [Pv.pot] at this ⊢; omega⟩⟩
        split
        · exact h2
        · rename_i hne
          have hne' : r.2.ended = false := by simpa using hne
          split
          · exact h2
          · split
            · exact h2
            · have h3 := loopR_bnd h t rest E call cs r.2 hcs hne' (h2.on hne').1 (Nat.le_trans h2.fuel hf)
              exact (h2.trans hne' h3).mono (by omega) (by omega)
theorem simpleR_bnd {f : Nat} {pr : List Td → Env → Pv → Int × Pv} (h : BndPr f pr) (g : Td) (rest : List Td) (E : Env) (p : Pv) (hp : p.ended = false) (ho : p.out.length ≤ 11) (hf : p.fuel ≤ f) : Bnd 0 0 p (simpleR pr g rest E p).2 := by
  have up : ∀ E, Bnd 0 0 p (pr rest E p).2 := fun E => (h rest E p hp ho hf).mono (by omega) (by omega)
  unfold simpleR
  repeat' split
  all_goals first | exact up _ | exact Bnd.refl ho | exact Bnd.put _ _ _ | skip
  all_goals simp only
  all_goals repeat' split
  all_goals first | exact up _ | exact Bnd.refl ho | exact Bnd.put _ _ _
theorem tellR_bnd (q : Nat) (E : Env) (p : Pv) (hp : p.ended = false) (ho : p.out.length ≤ 11) : Bnd 0 (-8) p (tellR q E p).2 := by
  unfold tellR
  split
  · exact Bnd.put _ _ _
  · simp only
    split
    · exact ⟨Int.le_refl _, Nat.le_refl _, by simp [Pv.put], Nat.le_refl _, by simp [Pv.put, Pv.pot]; omega, fun h => by simp [Pv.put] at h⟩
    · rename_i l m hfl hlt
      simp only [List.length_append, List.length_singleton] at hlt
      refine ⟨Int.le_refl _, Nat.le_refl _, by simp, Nat.le_refl _, by simp [Pv.pot]; omega, fun _ => ⟨by simp; omega, by simp [Pv.pot]; omega⟩⟩
theorem mineR_mem {P : List Cl} {t : Tm} {k : Nat} {c : Cl} (h : c ∈ mineR P t k) : c ∈ P := by
  unfold mineR at h
  exact List.mem_of_mem_drop (List.mem_filter.1 h).1
theorem proveR_bnd {P : List Cl} {q : Nat} (hP : ∀ c ∈ P, 0 ≤ c.vars ∧ c.vars ≤ 8) : ∀ (k f : Nat), f < k → BndPr f (proveR P q k)
  | 0, f, h => absurd h (Nat.not_lt_zero _)
  | k + 1, f, h => fun td E p hp ho hf => by
    cases td with
    | nil => rw [proveR]; exact tellR_bnd q E p hp ho
    | cons g rest =>
      rw [proveR]
      split
      · exact Bnd.put _ _ _
      · rename_i hf0
        have ih := proveR_bnd (q := q) hP k (p.fuel - 1) (by omega)
        have h8 : ∀ p' : Pv, Bnd 8 0 { p with fuel := p.fuel - 1 } p' → Bnd 0 (-8) p p' := fun p' h => ⟨h.vars, by have := h.fuel; simp only at this; omega, h.out, by have := h.calls; simp only at this; omega, by have := h.pot; simp only [Pv.pot] at this ⊢; omega, fun x => ⟨(h.on x).1, by have := (h.on x).2; simp only [Pv.pot] at this ⊢; omega⟩⟩
        simp only
        split
        · exact h8 _ ((simpleR_bnd ih g rest E { p with fuel := p.fuel - 1 } hp ho (Nat.le_refl _)).mono (by omega) (by omega))
        · split
          · exact h8 _ ((Bnd.put _ _ 0).mono (by omega) (by omega))
          · have h3 := loopR_bnd ih g.t rest E (p.calls + 1) (mineR P g.t 0) { p with fuel := p.fuel - 1, calls := p.calls + 1 } (fun c hc => hP c (mineR_mem hc)) hp ho (Nat.le_refl _)
            exact ⟨h3.vars, by have := h3.fuel; simp only at this; omega, h3.out, by have := h3.calls; simp only at this; omega, by have := h3.pot; simp only [Pv.pot] at this ⊢; omega, fun x => ⟨(h3.on x).1, by have := (h3.on x).2; simp only [Pv.pot] at this ⊢; omega⟩⟩
end Go.Proofs.YtlpmfkpefoegeabDoor
