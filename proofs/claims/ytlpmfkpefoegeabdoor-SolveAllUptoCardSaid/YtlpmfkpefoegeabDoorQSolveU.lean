/-
  The solver: unify.
-/
import Derived.Test.YtlpmfkpefoegeabDoorQSolveB
import Derived.StillTailTactics
namespace Go.Proofs.YtlpmfkpefoegeabDoor
set_option linter.unusedVariables false
set_option linter.unusedSimpArgs false
open Go.RowKit
noncomputable def uniT (k : Nat) (E : Env) (x y : Tm) : US :=
  if x.kind = 0 ∧ y.kind = 0 then
    (if x.n = y.n then ⟨true, E, k⟩ else ⟨true, E ++ [(max x.n y.n, tvar (min x.n y.n))], k⟩)
  else if x.kind = 0 ∨ y.kind = 0 then
    let v := if y.kind = 0 then y.n else x.n
    let z := if y.kind = 0 then x else y
    let p := inS E v k [z]
    if p.1 = true ∨ p.2 < 0 then ⟨false, E, p.2⟩ else ⟨true, E ++ [(v, z)], ((min k p.2.toNat : Nat) : Int)⟩
  else if ¬ (x.kind = y.kind ∧ x.n = y.n ∧ x.s = y.s ∧ x.args.length = y.args.length) then ⟨false, E, k⟩
  else uniS k (x.args.zip y.args) E
theorem uniS_one (k : Nat) (a b : Tm) (E : Env) : uniS (k + 1) [(a, b)] E = uniT k E (slook E a) (slook E b) := by
  rw [uniS]
  simp only [uniS_nil, List.append_nil]
  rfl
def SUniPost (base : Nat) (P : List Cl) (q g mb xb : Nat) (pv tv cv ov : Value) (s : Sv) (w : World) (u : US) (e : Ending) (w' : World) : Prop :=
  e = .returned (.bool u.ok) ∧ SBind base P q g mb xb pv tv cv ov { s with env := u.env } w w' ∧ WkAt xb u.work w'
def SUniOK (base : Nat) (P : List Cl) (q g mb xb : Nat) (pv cv ov : Value) (N : Int) (k : Nat) : Prop := ∀ (tv : Value) (s : Sv) (a b : Tm) (w : World) (us vs : List Value), SvI base P q g mb xb pv tv cv ov s w → WkAt xb k w → EnvOk N s.env → a.In N → b.In N →
  Tm.rep (SA g mb xb tv cv ov) w a us → Tm.rep (SA g mb xb tv cv ov) w b vs → s.env.length + k ≤ 1000000 →
  Calls Tryd.prog 121 #[.pointer (some ⟨g, 0, none⟩), .agg us.toArray, .agg vs.toArray, .pointer (some ⟨xb, 0, none⟩)] w (SUniPost base P q g mb xb pv tv cv ov s w (uniS k [(a, b)] s.env))
theorem toList_neS {s s' : ByteArray} (h : ¬ s = s') : ¬ s.toList = s'.toList := by
  intro e
  rw [ByteArray.toList_eq, ByteArray.toList_eq] at e
  apply h
  cases s; cases s'
  simp only [ByteArray.mk.injEq]
  exact Array.toList_inj.1 e
theorem SvI.box_free {base : Nat} {P : List Cl} {q g mb xb : Nat} {pv tv cv ov : Value} {s : Sv} {w : World} (h : SvI base P q g mb xb pv tv cv ov s w) {c : Array Value} {k : Nat} (hk : w.heap[k]? = some (.cells c 31 (0, 0))) : ¬ SM g mb tv cv ov k := by
  rintro (e | e | e | e | e)
  · subst e; exact absurd (blk_ty hk h.box) (by decide)
  · subst e
    obtain ⟨L, ⟨es, clock, hm, _⟩, _⟩ := h.env
    rw [hm] at hk; simp at hk
  · obtain ⟨c', hc⟩ := own_ty h.trail.1 e; exact absurd (blk_ty hk hc) (by decide)
  · obtain ⟨c', hc⟩ := h.chc.ty e; exact absurd (blk_ty hk hc) (by decide)
  · obtain ⟨c', hc⟩ := h.out.ty e; exact absurd (blk_ty hk hc) (by decide)
section
variable {base : Nat} {P : List Cl} {q g mb xb : Nat} {pv cv ov : Value} {N : Int}
set_option maxHeartbeats 1000000 in
theorem sunify_zero (hx : xb ≠ g) : SUniOK base P q g mb xb pv cv ov N 0 := by
  intro tv s a b w us vs h hw hE ha hb hva hvb hlen
  obtain ⟨aa, aca, rfl, -⟩ := Tm.rep4 hva
  obtain ⟨ba, bca, rfl, -⟩ := Tm.rep4 hvb
  obtain ⟨x0, xf, xl⟩ := hw.cell
  have HW := hid hw
  have HU := hid h
  have hcs := cell_set
  rw [show ((0 : Nat) : Int) = 0 from rfl] at x0
  clear hva hvb ha hb h hw hE hlen
  go_enter Tryd.func121, Tryd.ntmps121
  go_wp2_with fail
  go_ret
  rw [uniS_zero]
  have hc : Ch (fun b => b = xb) w (((w.setCell ⟨xb, 0, none⟩ (.int .i64 (-1))).alloc (.cells #[.int .i64 a.kind, .int .i64 a.n, .string a.s, .slice aa a.args.length aca] 31)).alloc (.cells #[.int .i64 b.kind, .int .i64 b.n, .string b.s, .slice ba b.args.length bca] 31)) := ((ch_wk _ _ _ _).alloc _).alloc _
  exact ⟨rfl, SBind.of_ch (HU.out.ch hx hc) hc, blk_alloc (blk_alloc (HW.out.set (k' := -1)) _) _⟩
set_option maxRecDepth 100000 in
set_option maxHeartbeats 8000000 in
theorem sunify_succ (hx : xb ≠ g) (k : Nat) (hk4 : k ≤ 400) (ih : ∀ m, m ≤ k → SUniOK base P q g mb xb pv cv ov N m) : SUniOK base P q g mb xb pv cv ov N (k + 1) := by
  intro tv s a b w us vs h hw hE ha hb hva hvb hlen
  have HU := hid h
  have HE := hid hE
  have HTA := hid ha
  have HTB := hid hb
  have IH := hid ih
  have HX := hid hx
  have HLEN := hid hlen
  obtain ⟨aa, aca, rfl, -⟩ := Tm.rep4 hva
  obtain ⟨ba, bca, rfl, -⟩ := Tm.rep4 hvb
  obtain ⟨A, hA⟩ : ∃ A : Nat → Prop, A = fun b => SA g mb xb tv cv ov b ∧ b < w.heap.size := ⟨_, rfl⟩
  have HA := hid (show ∀ b, A b → SA g mb xb tv cv ov b ∧ b < w.heap.size by rw [hA]; exact fun b h => h)
  have HVA0 := hid (show Tm.rep A w a _ by rw [hA]; exact Tm.rep_lasts.2.1 _ _ _ _ _ hva fun b hb h => ⟨h, hb⟩)
  have HVB0 := hid (show Tm.rep A w b _ by rw [hA]; exact Tm.rep_lasts.2.1 _ _ _ _ _ hvb fun b hb h => ⟨h, hb⟩)
  have HEN0 := hid (show EnvR A w mb s.env by rw [hA]; exact h.envAt)
  obtain ⟨x0, xf, xl⟩ := hw.cell
  have HW := hid hw
  have hcs := cell_set
  obtain ⟨hl1, hl2, hl3⟩ := h.lt
  have hk0 : (0 : Int) ≤ (k : Int) := Int.natCast_nonneg _
  have hk400 : (k : Int) ≤ 400 := by omega
  rw [show ((k + 1 : Nat) : Int) = (k : Int) + 1 by omega] at x0
  have HONE := hid (uniS_one k a b s.env)
  have HXI := hid (slook_in HE.out HTA.out)
  have HYI := hid (slook_in HE.out HTB.out)
  have HXS := hid (slook_idem HE.out HTA.out)
  have HYS := hid (slook_idem HE.out HTB.out)
  have HXF := hid (slook_free HE.out HTA.out)
  have HYF := hid (slook_free HE.out HTB.out)
  clear h hE ha hb hva hvb hw ih hA hlen
  go_enter Tryd.func121, Tryd.ntmps121
  go_wp2_with fail
  obtain ⟨W0, hW0⟩ : ∃ W0, W0 = ((w.setCell ⟨xb, 0, none⟩ (.int .i64 (k : Int))).alloc (.cells #[.int .i64 a.kind, .int .i64 a.n, .string a.s, .slice aa a.args.length aca] 31)).alloc (.cells #[.int .i64 b.kind, .int .i64 b.n, .string b.s, .slice ba b.args.length bca] 31) := ⟨_, rfl⟩
  have HCW := hid (show Ch (fun b => b = xb) w W0 by rw [hW0]; exact ((ch_wk _ _ _ _).alloc _).alloc _)
  have HA5 := hid (show W0.heap[w.heap.size]? = some (.cells #[.int .i64 a.kind, .int .i64 a.n, .string a.s, .slice aa a.args.length aca] 31 (0, 0)) by
    rw [hW0]
    have := (heap2 (w.setCell ⟨xb, 0, none⟩ (.int .i64 (k : Int))) (.cells #[.int .i64 a.kind, .int .i64 a.n, .string a.s, .slice aa a.args.length aca] 31) (.cells #[.int .i64 b.kind, .int .i64 b.n, .string b.s, .slice ba b.args.length bca] 31)).1
    simpa using this)
  have HA6 := hid (show W0.heap[w.heap.size + 1]? = some (.cells #[.int .i64 b.kind, .int .i64 b.n, .string b.s, .slice ba b.args.length bca] 31 (0, 0)) by
    rw [hW0]
    have := (heap2 (w.setCell ⟨xb, 0, none⟩ (.int .i64 (k : Int))) (.cells #[.int .i64 a.kind, .int .i64 a.n, .string a.s, .slice aa a.args.length aca] 31) (.cells #[.int .i64 b.kind, .int .i64 b.n, .string b.s, .slice ba b.args.length bca] 31)).2
    simpa using this)
  have HWK := hid (show WkAt xb k W0 by rw [hW0]; exact blk_alloc (blk_alloc (HW.out.set (k' := (k : Int))) _) _)
  have hW0z : w.heap.size + 2 ≤ W0.heap.size := by rw [hW0]; simp
  have HUW := hid (HU.out.ch HX.out HCW.out)
  have HKW := hid (HCW.out.keeps (A := fun b => b ≠ xb) fun b _ hb e => hb e)
  have HVA := hid (Tm.rep_lasts.1 _ _ _ _ _ HVA0.out (HKW.out.mono fun b _ hb => (HA.out b hb).1.2))
  have HVB := hid (Tm.rep_lasts.1 _ _ _ _ _ HVB0.out (HKW.out.mono fun b _ hb => (HA.out b hb).1.2))
  have HENV := hid (HEN0.out.keeps HKW.out (fun b hb => (HA.out b hb).1.2) (fun e => by
    rcases HU.out.nx with h | h
    · exact HX.out h
    · exact h (e ▸ .inr (.inl rfl))))
  rw [← hW0]
  have HA0 : Hid (∀ w', Below W0.heap.size W0 w' → w'.cell? ⟨w.heap.size, 0, none⟩ = some (.int .i64 a.kind) ∧ w'.cell? ⟨w.heap.size, 1, none⟩ = some (.int .i64 a.n) ∧ w'.cell? ⟨w.heap.size, 2, none⟩ = some (.string a.s) ∧ w'.cell? ⟨w.heap.size, 3, none⟩ = some (.slice aa a.args.length aca) ∧
      w'.cell? ⟨w.heap.size + 1, 0, none⟩ = some (.int .i64 b.kind) ∧ w'.cell? ⟨w.heap.size + 1, 1, none⟩ = some (.int .i64 b.n) ∧ w'.cell? ⟨w.heap.size + 1, 2, none⟩ = some (.string b.s) ∧ w'.cell? ⟨w.heap.size + 1, 3, none⟩ = some (.slice ba b.args.length bca)) := hid fun w' hb => by
    obtain ⟨z0, z1, z2, z3, -⟩ := blk4 (blk_below HA5.out hb)
    obtain ⟨y0, y1, y2, y3, -⟩ := blk4 (blk_below HA6.out hb)
    exact ⟨z0, z1, z2, z3, y0, y1, y2, y3⟩
  clear x0 xf hW0
  obtain ⟨x, hxx⟩ : ∃ x, x = slook s.env a := ⟨_, rfl⟩
  obtain ⟨y, hyy⟩ : ∃ y, y = slook s.env b := ⟨_, rfl⟩
  rw [← hxx] at HONE HXI HXS HXF
  rw [← hyy] at HONE HYI HYS HYF
  have HXX := hid hxx
  have HYY := hid hyy
  clear hxx hyy
  refine wp_region_F (F := fun k w' => (k = 1 → w'.heap[w.heap.size]? = some (.cells #[.int .i64 a.kind, .int .i64 a.n, .string a.s, .slice aa a.args.length aca] 31 (0, 0))) ∧ (k = 4 → w'.heap[w.heap.size + 1]? = some (.cells #[.int .i64 b.kind, .int .i64 b.n, .string b.s, .slice ba b.args.length bca] 31 (0, 0)))) (by kernel_rfl) ?_
  have HF : ∀ k, (k = 1 → W0.drew.heap[w.heap.size]? = some (.cells #[.int .i64 a.kind, .int .i64 a.n, .string a.s, .slice aa a.args.length aca] 31 (0, 0))) ∧ (k = 4 → W0.drew.heap[w.heap.size + 1]? = some (.cells #[.int .i64 b.kind, .int .i64 b.n, .string b.s, .slice ba b.args.length bca] 31 (0, 0))) := fun k => ⟨fun _ => HA5.out, fun _ => HA6.out⟩
  refine wpAnyF_take (i := 0) (v := ?_) rfl (by kernel_rfl) (by kernel_rfl) (by kernel_rfl) (fun _ _ _ h => h) (Or.inl ⟨by rfl, ?_⟩) (HF 0) ?_
  rotate_left
  · (intro w' hw; clear hw; go_simp <;> with_reducible rfl)
  try simp only [Act.put, List.setIfInBounds_toArray, List.set_cons_zero, List.set_cons_succ]
  refine wpAnyF_take (i := 1) (v := .agg #[.int .i64 a.kind, .int .i64 a.n, .string a.s, .slice aa a.args.length aca]) rfl (by kernel_rfl) (by kernel_rfl) (by kernel_rfl) (fun _ _ _ h => h) (Or.inl ⟨by rfl, ?_⟩) (HF 1) ?_
  · (intro w' hw; obtain ⟨q0, q1, q2, q3, -⟩ := blk4 (hw.1 rfl); clear hw; go_simp)
  try simp only [Act.put, List.setIfInBounds_toArray, List.set_cons_zero, List.set_cons_succ]
  refine wpAnyF_take (i := 3) (v := ?_) rfl (by kernel_rfl) (by kernel_rfl) (by kernel_rfl) (fun _ _ _ h => h) (Or.inl ⟨by rfl, ?_⟩) (HF 3) ?_
  rotate_left
  · (intro w' hw; clear hw; go_simp <;> with_reducible rfl)
  try simp only [Act.put, List.setIfInBounds_toArray, List.set_cons_zero, List.set_cons_succ]
  refine wpAnyF_take (i := 4) (v := .agg #[.int .i64 b.kind, .int .i64 b.n, .string b.s, .slice ba b.args.length bca]) rfl (by kernel_rfl) (by kernel_rfl) (by kernel_rfl) (fun _ _ _ h => h) (Or.inl ⟨by rfl, ?_⟩) (HF 4) ?_
  · (intro w' hw; obtain ⟨q0, q1, q2, q3, -⟩ := blk4 (hw.2 rfl); clear hw; go_simp)
  try simp only [Act.put, List.setIfInBounds_toArray, List.set_cons_zero, List.set_cons_succ]
  refine wpAnyF_one (i := 2) (by kernel_rfl) (wpOp_run rfl (by rfl) ?_)
  go_simp
  refine (slook_ok a A _ _ (HUW.out.below ((Below.refl _ _).drew)) HE.out HTA.out (HENV.out.keeps (Keeps.drew (fun _ => True) _) (fun _ _ => trivial) trivial) (Tm.rep_lasts.1 _ _ _ _ _ HVA.out (Keeps.drew _ _))).mono ?_
  rintro e w1 ⟨r, rfl, hb1, hr1⟩
  rw [← HXX.out] at hr1
  obtain ⟨us, rfl, hr2⟩ := hr1
  have HB1 := hid (show Below W0.heap.size W0 w1 from ((Below.refl _ W0).drew).trans hb1)
  have HRX1 := hid hr2
  obtain ⟨xa, xc, rfl, -, -, -, hxc1, hxc2, hxc3, -⟩ := Tm.rep4 hr2
  have HR15 := hid (blk_below HA5.out HB1.out)
  have HR16 := hid (blk_below HA6.out HB1.out)
  clear hb1 hr2
  refine ⟨fun k _ _ => ⟨fun _ => HR15.out, fun _ => HR16.out⟩, ?_⟩
  refine wpAnyF_one (i := 5) (by kernel_rfl) (wpOp_run rfl (by rfl) ?_)
  go_simp
  refine (slook_ok b A _ _ (HUW.out.below HB1.out) HE.out HTB.out (HENV.out.keeps (Keeps.of_below (A := fun _ => True) HB1.out) (fun _ _ => trivial) trivial) (Tm.rep_lasts.1 _ _ _ _ _ HVB.out (Keeps.of_below HB1.out))).mono ?_
  rintro e ww ⟨r, rfl, hb2, hr1⟩
  rw [← HYY.out] at hr1
  obtain ⟨us', rfl, hr5⟩ := hr1
  have hinv : Below W0.heap.size W0 ww := HB1.out.trans (hb2.mono HB1.out.size)
  have HRX := hid (Tm.rep_lasts.1 _ _ _ _ _ HRX1.out (Keeps.of_below hb2))
  have HRY := hid hr5
  obtain ⟨ya, yc, rfl, -, -, -, hyc1, hyc2, hyc3, -⟩ := Tm.rep4 hr5
  have HX5 := hid (blk_below HA5.out hinv)
  have HX6 := hid (blk_below HA6.out hinv)
  have HWW := hid (show WkAt xb k ww from blk_below HWK.out hinv)
  have HUV := hid (HUW.out.below hinv)
  have HCC := hid (HCW.out.then_below hinv)
  have hz := hinv.size
  obtain ⟨x0, x1, x2, x3, xf⟩ := blk4 HX5.out
  obtain ⟨y0, y1, y2, y3, yf⟩ := blk4 HX6.out
  have hzw : w.heap.size + 1 < ww.heap.size := by omega
  have hzw0 : w.heap.size < ww.heap.size := by omega
  clear hr5 hinv hb2
  refine ⟨fun k _ _ => ⟨fun _ => HX5.out, fun _ => HX6.out⟩, ?_⟩
  refine wpAnyF_one (i := 6) (by kernel_rfl) (wpOp_run rfl (by rfl) ?_)
  go_simp
  refine ⟨fun k hk _ => ⟨fun h => absurd (hk.symm.trans (by subst h; kernel_rfl : waits _ 6 k = true)) (by decide), fun _ => (set4_other _ _ _ _ _ _ _ (by omega)).trans HX6.out⟩, ?_⟩
  refine wpAnyF_one (i := 7) (by kernel_rfl) (wpOp_run rfl (by rfl) ?_)
  go_simp
  refine ⟨fun k hk _ => ⟨fun h => absurd (hk.symm.trans (by subst h; kernel_rfl : waits _ 7 k = true)) (by decide), fun h => absurd (hk.symm.trans (by subst h; kernel_rfl : waits _ 7 k = true)) (by decide)⟩, ?_⟩
  refine wpAnyF_done (by kernel_rfl) ?_ _
  -- both boxes
  generalize hW3 : ((((((((ww.setCell ⟨w.heap.size, 0, none⟩ (.int .i64 x.kind)).setCell ⟨w.heap.size, 1, none⟩ (.int .i64 x.n)).setCell ⟨w.heap.size, 2, none⟩ (.string x.s)).setCell ⟨w.heap.size, 3, none⟩ (.slice xa x.args.length xc)).setCell ⟨w.heap.size + 1, 0, none⟩ (.int .i64 y.kind)).setCell ⟨w.heap.size + 1, 1, none⟩ (.int .i64 y.n)).setCell ⟨w.heap.size + 1, 2, none⟩ (.string y.s)).setCell ⟨w.heap.size + 1, 3, none⟩ (.slice ya y.args.length yc)) = w3
  have hk3 : Keeps (fun b => b ≠ w.heap.size ∧ b ≠ w.heap.size + 1) ww w3 := by
    subst hW3; exact (keeps_set4 _ _ (fun h => h.1 rfl) _ _ _ _).trans (keeps_set4 _ _ (fun h => h.2 rfl) _ _ _ _)
  have HB5 := hid (show w3.heap[w.heap.size]? = some (.cells #[.int .i64 x.kind, .int .i64 x.n, .string x.s, .slice xa x.args.length xc] 31 (0, 0)) by
    subst hW3; exact (set4_other _ _ _ _ _ _ _ (by omega)).trans (set4 HX5.out))
  have HB6 := hid (show w3.heap[w.heap.size + 1]? = some (.cells #[.int .i64 y.kind, .int .i64 y.n, .string y.s, .slice ya y.args.length yc] 31 (0, 0)) by
    subst hW3; exact set4 ((set4_other _ _ _ _ _ _ _ (by omega)).trans HX6.out))
  have HC3 := hid (show Ch (fun b => b = xb) w w3 by subst hW3; exact ch_set4 (ch_set4 HCC.out (.inr (Nat.le_refl _)) _ _ _ _) (.inr (by omega)) _ _ _ _)
  have HW3 := hid (show WkAt xb k w3 from blk_keeps HWW.out hk3 (by omega))
  have HU3 := hid (HU.out.ch HX.out HC3.out)
  have HKA := hid (hk3.mono (A' := A) fun b _ hb => by have := (HA.out b hb).2; omega)
  have HRX3 := hid (Tm.rep_lasts.1 _ _ _ _ _ HRX.out HKA.out)
  have HRY3 := hid (Tm.rep_lasts.1 _ _ _ _ _ HRY.out HKA.out)
  have hz3 := hk3.size
  have hzz : w.heap.size + 1 < w3.heap.size := by omega
  have hzz0 : w.heap.size < w3.heap.size := by omega
  clear x0 x1 x2 x3 xf y0 y1 y2 y3 yf hW3 hk3
  obtain ⟨c50, c51, c52, c53, c5f⟩ := blk4 HB5.out
  obtain ⟨c60, c61, c62, c63, c6f⟩ := blk4 HB6.out
  obtain ⟨k0, kf, kl⟩ := HW3.out.cell
  have hxn : I64 x.n := by obtain ⟨_, _, _, _, h, _⟩ := Tm.rep4 HRX3.out; exact h
  have hyn : I64 y.n := by obtain ⟨_, _, _, _, h, _⟩ := Tm.rep4 HRY3.out; exact h
  have HXN := hid hxn
  have HYN := hid hyn
  have hne0 : xb ≠ w.heap.size := by omega
  have hne1 : xb ≠ w.heap.size + 1 := by omega
  have HSX := hid (Tm.rep_lasts.2.1 _ (SA g mb xb tv cv ov) _ _ _ HRX3.out fun b _ hb => (HA.out b hb).1)
  have HSY := hid (Tm.rep_lasts.2.1 _ (SA g mb xb tv cv ov) _ _ _ HRY3.out fun b _ hb => (HA.out b hb).1)
  have hvar : ∀ (n : Int) (W : World), I64 n → Tm.rep (SA g mb xb tv cv ov) W (tvar n) [.int .i64 0, .int .i64 n, .string ⟨#[]⟩, .slice none 0 0] := fun n W hn => by
    show Tm.rep _ _ (.mk 0 n ByteArray.empty []) [.int .i64 0, .int .i64 n, .string ByteArray.empty, .slice none 0 0]
    rw [Tm.rep_iff]
    exact ⟨by unfold I64; omega, hn, by simp, _, rfl, SlR.nil ..⟩
  have HVAR := hid hvar
  have hstep : ∀ {s' : Sv} {w6 : World}, SBind base P q g mb xb pv tv cv ov s' w3 w6 → SBind base P q g mb xb pv tv cv ov s' w w6 := fun h => SBind.trans (HC3.out.mono fun x _ e => .inr e) (fun b h => .inl h) h
  have HSTEP := @hstep
  clear hxn hyn hvar hstep HX5 HX6 HWW HUV HCC HRX HRY HRX1 HB1 HR15 HR16 HXX HYY HKA HF
  have hlen' : s.env.length + 1 ≤ 1000000 := by have := HLEN.out; omega
  have HL1 := hid hlen'
  clear hlen'
  -- one is bound
  have hbnd : ∀ (v : Int) (z : Tm) (zs : List Value) (W : World), I64 v → SvI base P q g mb xb pv tv cv ov s W → eget s.env v = none → Tm.rep (SA g mb xb tv cv ov) W z zs → Calls Tryd.prog 143 #[.pointer (some ⟨g, 0, none⟩), .int .i64 v, .agg zs.toArray] W (SBindPost base P q g mb xb pv tv cv ov { s with env := s.env ++ [(v, z)] } W) :=
    fun v z zs W h1 h2 h3 h4 => sbind_ok v h1 z zs h2 h3 HL1.out h4
  have HBND := hid hbnd
  clear hbnd
  by_cases hk : x.kind = 0
  · by_cases hk2 : y.kind = 0
    · -- both are variables
      have HR := hid (show uniS (k + 1) [(a, b)] s.env = if x.n = y.n then ⟨true, s.env, k⟩ else ⟨true, s.env ++ [(max x.n y.n, tvar (min x.n y.n))], k⟩ by
        rw [HONE.out, uniT, if_pos ⟨hk, hk2⟩])
      have HFX := hid (HXF.out hk)
      have HFY := hid (HYF.out hk2)
      rw [hk] at c50
      rw [hk2] at c60
      clear hk hk2 HONE
      rcases Int.lt_trichotomy x.n y.n with hxy | hxy | hxy
      · have hxy' : (x.n != y.n) = true := by simp; omega
        have hm1 : max x.n y.n = y.n := by omega
        have hm2 : min x.n y.n = x.n := by omega
        have hres := hid (show uniS (k + 1) [(a, b)] s.env = ⟨true, s.env ++ [(y.n, tvar x.n)], k⟩ by rw [HR.out, if_neg (by omega), hm1, hm2])
        go_wp2_with fail
        refine (HBND.out y.n (tvar x.n) [_, _, _, _] w3 HYN.out HU3.out HFY.out (HVAR.out x.n w3 HXN.out)).mono ?_
        rintro e w6 ⟨r, rfl, hst, hxq⟩
        have HST := hid hst
        have HWQ := hid (show WkAt xb k w6 from (hxq HX.out).trans HW3.out)
        clear hst hxq k0 kf
        go_wp2_with fail
        go_ret
        rw [hres.out]
        exact ⟨rfl, HSTEP HST.out, HWQ.out⟩
      · rw [← hxy] at c61
        have hres := hid (show uniS (k + 1) [(a, b)] s.env = ⟨true, s.env, k⟩ by rw [HR.out, if_pos hxy])
        clear hxy
        go_wp2_with fail
        go_ret
        rw [hres.out]
        exact ⟨rfl, SBind.of_ch HU3.out HC3.out, HW3.out⟩
      · have hxy' : (x.n != y.n) = true := by simp; omega
        have hm1 : max x.n y.n = x.n := by omega
        have hm2 : min x.n y.n = y.n := by omega
        have hres := hid (show uniS (k + 1) [(a, b)] s.env = ⟨true, s.env ++ [(x.n, tvar y.n)], k⟩ by rw [HR.out, if_neg (by omega), hm1, hm2])
        go_wp2_with fail
        refine (HBND.out x.n (tvar y.n) [_, _, _, _] w3 HXN.out HU3.out HFX.out (HVAR.out y.n w3 HYN.out)).mono ?_
        rintro e w6 ⟨r, rfl, hst, hxq⟩
        have HST := hid hst
        have HWQ := hid (show WkAt xb k w6 from (hxq HX.out).trans HW3.out)
        clear hst hxq k0 kf
        go_wp2_with fail
        go_ret
        rw [hres.out]
        exact ⟨rfl, HSTEP HST.out, HWQ.out⟩
    · have hk2' : (y.kind == 0) = false := by simpa using hk2
      have HR := hid (show uniS (k + 1) [(a, b)] s.env = (if (inS s.env x.n k [y]).1 = true ∨ (inS s.env x.n k [y]).2 < 0 then ⟨false, s.env, (inS s.env x.n k [y]).2⟩ else ⟨true, s.env ++ [(x.n, y)], ((min k (inS s.env x.n k [y]).2.toNat : Nat) : Int)⟩) by
        rw [HONE.out, uniT, if_neg (fun h => hk2 h.2), if_pos (.inl hk)]
        simp only [if_neg hk2])
      have HFX := hid (HXF.out hk)
      have HBB5 := hid (show w3.heap[w.heap.size]? = some (.cells #[.int .i64 0, .int .i64 x.n, .string x.s, .slice xa x.args.length xc] 31 (0, 0)) by rw [← hk]; exact HB5.out)
      have HBB6 := hid HB6.out
      rw [hk] at c50
      clear hk hk2 HONE HB5 HB6
      go_wp2_with fail
      refine (sin_ok x.n HXN.out HX.out HE.out k hk4 y w3 _ HU3.out HW3.out HYI.out HSY.out).mono ?_
      rintro e w5 ⟨rfl, hch5, hw5⟩
      have HC5 := hid (HC3.out.trans hch5 (fun _ h => .inl h))
      have HW5 := hid hw5
      have HU5 := hid (HU.out.ch HX.out HC5.out)
      have hsz5 := hch5.size
      have HY5 := hid (Tm.rep_lasts.1 _ _ _ _ _ HSY.out (hch5.keeps (A := SA g mb xb tv cv ov) fun b _ hb e => hb.2 e))
      have HB55 := hid (show w5.heap[w.heap.size]? = _ from (hch5.block _ (by omega) (fun e => hne0 e.symm)).trans HBB5.out)
      have HB56 := hid (show w5.heap[w.heap.size + 1]? = _ from (hch5.block _ (by omega) (fun e => hne1 e.symm)).trans HBB6.out)
      obtain ⟨d50, d51, d52, d53, d5f⟩ := blk4 HB55.out
      obtain ⟨d60, d61, d62, d63, d6f⟩ := blk4 HB56.out
      obtain ⟨r0, rf, rl⟩ := hw5.cell
      have hple := inS_le s.env x.n k [y]
      have htru := inS_true s.env x.n k [y]
      generalize inS s.env x.n k [y] = p at *
      obtain ⟨pf, pw⟩ := p
      simp only at hple htru r0
      obtain ⟨hp1, hp2⟩ := hple
      have HTRU := hid htru
      clear hch5 hw5 htru c50 c51 c52 c53 c5f c60 c61 c62 c63 c6f k0 kf
      cases pf with
      | true =>
        have hpw : 0 ≤ pw := HTRU.out rfl
        have hres := hid (show uniS (k + 1) [(a, b)] s.env = ⟨false, s.env, pw⟩ by rw [HR.out, if_pos (.inl rfl)])
        go_wp2_with fail
        go_ret
        rw [hres.out]
        exact ⟨rfl, SBind.of_ch HU5.out HC5.out, HW5.out⟩
      | false =>
        by_cases hpw : pw < 0
        · have hres := hid (show uniS (k + 1) [(a, b)] s.env = ⟨false, s.env, pw⟩ by rw [HR.out, if_pos (.inr hpw)])
          go_wp2_with fail
          go_ret
          rw [hres.out]
          exact ⟨rfl, SBind.of_ch HU5.out HC5.out, HW5.out⟩
        · obtain ⟨pm, rfl⟩ := Int.eq_ofNat_of_zero_le (show 0 ≤ pw by omega)
          have hres := hid (show uniS (k + 1) [(a, b)] s.env = ⟨true, s.env ++ [(x.n, y)], (pm : Int)⟩ by
            rw [HR.out, if_neg (by simp), show min k (pm : Int).toNat = pm by simp; omega])
          go_wp2_with fail
          refine (HBND.out x.n y [_, _, _, _] w5 HXN.out HU5.out HFX.out HY5.out).mono ?_
          rintro e w6 ⟨r, rfl, hst, hxq⟩
          have HST := hid (SBind.trans (HC5.out.mono fun x _ e => .inr e) (fun b h => .inl h) hst)
          have HWQ := hid (show WkAt xb pm w6 from (hxq HX.out).trans HW5.out)
          clear hst hxq r0 rf
          go_wp2_with fail
          go_ret
          rw [hres.out]
          exact ⟨rfl, HST.out, HWQ.out⟩
  · have hk' : (x.kind == 0) = false := by simpa using hk
    by_cases hk2 : y.kind = 0
    · have HR := hid (show uniS (k + 1) [(a, b)] s.env = (if (inS s.env y.n k [x]).1 = true ∨ (inS s.env y.n k [x]).2 < 0 then ⟨false, s.env, (inS s.env y.n k [x]).2⟩ else ⟨true, s.env ++ [(y.n, x)], ((min k (inS s.env y.n k [x]).2.toNat : Nat) : Int)⟩) by
        rw [HONE.out, uniT, if_neg (fun h => hk h.1), if_pos (.inr hk2)]
        simp only [if_pos hk2])
      have HFY := hid (HYF.out hk2)
      rw [hk2] at c60
      have HK2 := hid hk2
      clear hk hk2 HONE
      go_wp2_with fail
      generalize hW4 : ((((((((w3.setCell ⟨w.heap.size, 0, none⟩ (.int .i64 0)).setCell ⟨w.heap.size, 1, none⟩ (.int .i64 y.n)).setCell ⟨w.heap.size, 2, none⟩ (.string y.s)).setCell ⟨w.heap.size, 3, none⟩ (.slice ya y.args.length yc)).setCell ⟨w.heap.size + 1, 0, none⟩ (.int .i64 x.kind)).setCell ⟨w.heap.size + 1, 1, none⟩ (.int .i64 x.n)).setCell ⟨w.heap.size + 1, 2, none⟩ (.string x.s)).setCell ⟨w.heap.size + 1, 3, none⟩ (.slice xa x.args.length xc)) = w4
      have hk4' : Keeps (fun b => b ≠ w.heap.size ∧ b ≠ w.heap.size + 1) w3 w4 := by
        subst hW4; exact (keeps_set4 _ _ (fun h => h.1 rfl) _ _ _ _).trans (keeps_set4 _ _ (fun h => h.2 rfl) _ _ _ _)
      have HBB5 := hid (show w4.heap[w.heap.size]? = some (.cells #[.int .i64 0, .int .i64 y.n, .string y.s, .slice ya y.args.length yc] 31 (0, 0)) by
        subst hW4; exact (set4_other _ _ _ _ _ _ _ (by omega)).trans (set4 HB5.out))
      have HBB6 := hid (show w4.heap[w.heap.size + 1]? = some (.cells #[.int .i64 x.kind, .int .i64 x.n, .string x.s, .slice xa x.args.length xc] 31 (0, 0)) by
        subst hW4; exact set4 ((set4_other _ _ _ _ _ _ _ (by omega)).trans HB6.out))
      have HC4 := hid (show Ch (fun b => b = xb) w w4 by subst hW4; exact ch_set4 (ch_set4 HC3.out (.inr (Nat.le_refl _)) _ _ _ _) (.inr (by omega)) _ _ _ _)
      have HW4 := hid (show WkAt xb k w4 from blk_keeps HW3.out hk4' (by omega))
      have HU4 := hid (HU.out.ch HX.out HC4.out)
      have HS4 := hid (Tm.rep_lasts.2.1 _ (SA g mb xb tv cv ov) _ _ _ (Tm.rep_lasts.1 _ _ _ _ _ HRX3.out (hk4'.mono (A' := A) fun b _ hb => by have := (HA.out b hb).2; omega)) fun b _ hb => (HA.out b hb).1)
      obtain ⟨e50, e51, e52, e53, e5f⟩ := blk4 HBB5.out
      obtain ⟨e60, e61, e62, e63, e6f⟩ := blk4 HBB6.out
      obtain ⟨l0, lf, ll⟩ := HW4.out.cell
      have hz4 := hk4'.size
      clear hW4 hk4' c50 c51 c52 c53 c5f c60 c61 c62 c63 c6f k0 kf kl
      go_wp2_with fail
      refine (sin_ok y.n HYN.out HX.out HE.out k hk4 x w4 _ HU4.out HW4.out HXI.out HS4.out).mono ?_
      rintro e w5 ⟨rfl, hch5, hw5⟩
      have HC5 := hid (HC4.out.trans hch5 (fun _ h => .inl h))
      have HW5 := hid hw5
      have HU5 := hid (HU.out.ch HX.out HC5.out)
      have hsz5 := hch5.size
      have HY5 := hid (Tm.rep_lasts.1 _ _ _ _ _ HS4.out (hch5.keeps (A := SA g mb xb tv cv ov) fun b _ hb e => hb.2 e))
      have HB55 := hid (show w5.heap[w.heap.size]? = _ from (hch5.block _ (by omega) (fun e => hne0 e.symm)).trans HBB5.out)
      have HB56 := hid (show w5.heap[w.heap.size + 1]? = _ from (hch5.block _ (by omega) (fun e => hne1 e.symm)).trans HBB6.out)
      obtain ⟨d50, d51, d52, d53, d5f⟩ := blk4 HB55.out
      obtain ⟨d60, d61, d62, d63, d6f⟩ := blk4 HB56.out
      obtain ⟨r0, rf, rl⟩ := hw5.cell
      have hple := inS_le s.env y.n k [x]
      have htru := inS_true s.env y.n k [x]
      generalize inS s.env y.n k [x] = p at *
      obtain ⟨pf, pw⟩ := p
      simp only at hple htru r0
      obtain ⟨hp1, hp2⟩ := hple
      have HTRU := hid htru
      clear hch5 hw5 htru e50 e51 e52 e53 e5f e60 e61 e62 e63 e6f l0 lf
      cases pf with
      | true =>
        have hpw : 0 ≤ pw := HTRU.out rfl
        have hres := hid (show uniS (k + 1) [(a, b)] s.env = ⟨false, s.env, pw⟩ by rw [HR.out, if_pos (.inl rfl)])
        go_wp2_with fail
        go_ret
        rw [hres.out]
        exact ⟨rfl, SBind.of_ch HU5.out HC5.out, HW5.out⟩
      | false =>
        by_cases hpw : pw < 0
        · have hres := hid (show uniS (k + 1) [(a, b)] s.env = ⟨false, s.env, pw⟩ by rw [HR.out, if_pos (.inr hpw)])
          go_wp2_with fail
          go_ret
          rw [hres.out]
          exact ⟨rfl, SBind.of_ch HU5.out HC5.out, HW5.out⟩
        · obtain ⟨pm, rfl⟩ := Int.eq_ofNat_of_zero_le (show 0 ≤ pw by omega)
          have hres := hid (show uniS (k + 1) [(a, b)] s.env = ⟨true, s.env ++ [(y.n, x)], (pm : Int)⟩ by
            rw [HR.out, if_neg (by simp), show min k (pm : Int).toNat = pm by simp; omega])
          go_wp2_with fail
          refine (HBND.out y.n x [_, _, _, _] w5 HYN.out HU5.out HFY.out HY5.out).mono ?_
          rintro e w6 ⟨r, rfl, hst, hxq⟩
          have HST := hid (SBind.trans (HC5.out.mono fun x _ e => .inr e) (fun b h => .inl h) hst)
          have HWQ := hid (show WkAt xb pm w6 from (hxq HX.out).trans HW5.out)
          clear hst hxq r0 rf
          go_wp2_with fail
          go_ret
          rw [hres.out]
          exact ⟨rfl, HST.out, HWQ.out⟩
    · have hk2' : (y.kind == 0) = false := by simpa using hk2
      have HR := hid (show uniS (k + 1) [(a, b)] s.env = if ¬ (x.kind = y.kind ∧ x.n = y.n ∧ x.s = y.s ∧ x.args.length = y.args.length) then ⟨false, s.env, k⟩ else uniS k (x.args.zip y.args) s.env by
        rw [HONE.out, uniT, if_neg (fun h => hk h.1), if_neg (fun h => h.elim hk hk2)])
      clear hk hk2 HONE
      by_cases e1 : x.kind = y.kind
      rotate_left
      · have hres := hid (show uniS (k + 1) [(a, b)] s.env = ⟨false, s.env, k⟩ by rw [HR.out, if_pos (fun h => e1 h.1)])
        have e1' : (x.kind != y.kind) = true := by simpa using e1
        clear e1
        go_wp2_with fail
        go_ret
        rw [hres.out]
        exact ⟨rfl, SBind.of_ch HU3.out HC3.out, HW3.out⟩
      rw [← e1] at c60
      have E1 := hid e1
      clear e1 hk2'
      by_cases e2 : x.n = y.n
      rotate_left
      · have hres := hid (show uniS (k + 1) [(a, b)] s.env = ⟨false, s.env, k⟩ by rw [HR.out, if_pos (fun h => e2 h.2.1)])
        have e2' : (x.n != y.n) = true := by simpa using e2
        clear e2
        go_wp2_with fail
        go_ret
        rw [hres.out]
        exact ⟨rfl, SBind.of_ch HU3.out HC3.out, HW3.out⟩
      rw [← e2] at c61
      have E2 := hid e2
      clear e2
      by_cases e3 : x.s = y.s
      rotate_left
      · have hres := hid (show uniS (k + 1) [(a, b)] s.env = ⟨false, s.env, k⟩ by rw [HR.out, if_pos (fun h => e3 h.2.2.1)])
        have e3' := toList_neS e3
        clear e3
        go_wp2_with fail
        go_ret
        rw [hres.out]
        exact ⟨rfl, SBind.of_ch HU3.out HC3.out, HW3.out⟩
      rw [← e3] at c62
      have E3 := hid e3
      clear e3
      by_cases e4 : x.args.length = y.args.length
      rotate_left
      · have hres := hid (show uniS (k + 1) [(a, b)] s.env = ⟨false, s.env, k⟩ by rw [HR.out, if_pos (fun h => e4 h.2.2.2)])
        have e4' : ((x.args.length : Int) != (y.args.length : Int)) = true := by simp; omega
        clear e4
        go_wp2_with fail
        go_ret
        rw [hres.out]
        exact ⟨rfl, SBind.of_ch HU3.out HC3.out, HW3.out⟩
      have hres0 := hid (show uniS (k + 1) [(a, b)] s.env = uniS k (x.args.zip y.args) s.env by rw [HR.out, if_neg (by simp [E1.out, E2.out, E3.out, e4])])
      have HAX := hid (show TmsR A w3 x.args (.slice xa x.args.length xc) by obtain ⟨_, _, e, -, -, -, -, -, -, h⟩ := Tm.rep4 HRX3.out; simp only [List.cons.injEq, Value.slice.injEq, and_true, true_and] at e; obtain ⟨rfl, rfl⟩ := e; exact h)
      have HAY := hid (show TmsR A w3 y.args (.slice ya y.args.length yc) by obtain ⟨_, _, e, -, -, -, -, -, -, h⟩ := Tm.rep4 HRY3.out; simp only [List.cons.injEq, Value.slice.injEq, and_true, true_and] at e; obtain ⟨rfl, rfl⟩ := e; exact h)
      have hyc1' := hyc1
      rw [← e4] at c63 hyc1'
      have E4 := hid e4
      clear e4 hyc1 HR
      unfold maxLen at hxc2 hyc2
      go_wp2_with fail
      obtain ⟨_, _, eb, eo, e9, -, -, -, hea, hee⟩ := HAX.out.at
      simp only [Value.slice.injEq, true_and] at e9
      obtain ⟨rfl, rfl⟩ := e9
      obtain ⟨_, _, fb, fo, e9, -, -, -, hfa, hfe⟩ := HAY.out.at
      simp only [Value.slice.injEq, true_and] at e9
      obtain ⟨rfl, rfl⟩ := e9
      have HEA := hid hea
      have HEE := hid hee
      have HFA := hid hfa
      have HFE := hid hfe
      rw [← E4.out] at HB6
      clear hea hee hfa hfe
      go_loopw [9, 109] (fun _ i wr => ∃ (j m : Nat) (E' : Env) (tv' : Value), j ≤ x.args.length ∧ i = .int .i64 (j : Int) ∧ m ≤ k ∧ uniS k ((x.args.zip y.args).take j) s.env = ⟨true, E', (m : Int)⟩ ∧ SvI base P q g mb xb pv tv' cv ov { s with env := E' } wr ∧ WkAt xb m wr ∧ Ch (fun b => SM g mb tv cv ov b ∨ b = xb) w wr ∧ (∀ b, ownB tv' = some b → ownB tv = some b ∨ w.heap.size ≤ b) ∧ w3.heap.size ≤ wr.heap.size ∧
          wr.heap[w.heap.size]? = some (.cells #[.int .i64 x.kind, .int .i64 x.n, .string x.s, .slice xa x.args.length xc] 31 (0, 0)) ∧ wr.heap[w.heap.size + 1]? = some (.cells #[.int .i64 y.kind, .int .i64 y.n, .string y.s, .slice ya x.args.length yc] 31 (0, 0))) (fun _ i _ => x.args.length - (intOf i).toNat)
      case atStart => exact ⟨0, k, s.env, tv, Nat.zero_le _, rfl, Nat.le_refl _, by rw [List.take_zero, uniS_nil], HU3.out, HW3.out, HC3.out.mono fun x _ e => .inr e, fun b h => .inl h, Nat.le_refl _, HB5.out, HB6.out⟩
      case round =>
        obtain ⟨j, m, E', tv', hj, rfl, hm, htk, hsv, hwk, hch, hown, hsz, hb5, hb6⟩ := hrel
        have HTK := hid htk
        have HSV := hid hsv
        have HWK4 := hid hwk
        have HCH := hid hch
        have HOW := hid hown
        have HB54 := hid hb5
        have HB64 := hid hb6
        obtain ⟨q0, qf, ql⟩ := hwk.cell
        obtain ⟨p50, p51, p52, p53, p5f⟩ := blk4 hb5
        obtain ⟨p60, p61, p62, p63, p6f⟩ := blk4 hb6
        have HLZ := hid (show (x.args.zip y.args).length = x.args.length by rw [List.length_zip, ← E4.out]; exact Nat.min_self _)
        clear htk hsv hwk hch hown hb5 hb6
        by_cases hlt : j < x.args.length
        · have hlty : j < y.args.length := by have := E4.out; omega
          obtain ⟨rfl, hAb⟩ := HEA.out (by omega)
          obtain ⟨rfl, hAb'⟩ := HFA.out (by have := E4.out; omega)
          have hkA : Keeps A w3 wr := ⟨hsz, fun b hb ha => by
            have h1 := HA.out b ha
            rw [HCH.out.block b h1.2 (fun e => e.elim h1.1.1 h1.1.2), HC3.out.block b h1.2 h1.1.2]⟩
          obtain ⟨sa, sc, g0, g1, g2, g3, hr3⟩ := tm_cells HEE.out hAb hkA hlt
          obtain ⟨sa', sc', i0, i1, i2, i3, hr4⟩ := tm_cells HFE.out hAb' hkA hlty
          have hmv := (sa_mid HCH.out HOW.out (fun b h => .inl h) (fun b h => .inl h)).2
          have HR3 := hid (Tm.rep_lasts.2.1 _ (SA g mb xb tv' cv ov) _ _ _ hr3 fun b _ h => hmv b (HA.out b h))
          have HR4 := hid (Tm.rep_lasts.2.1 _ (SA g mb xb tv' cv ov) _ _ _ hr4 fun b _ h => hmv b (HA.out b h))
          have hz0 : (x.args.zip y.args)[j]? = some (x.args[j], y.args[j]) := by rw [List.getElem?_zip_eq_some]; exact ⟨List.getElem?_eq_getElem hlt, List.getElem?_eq_getElem hlty⟩
          have hjz : j < (x.args.zip y.args).length := by rw [HLZ.out]; exact hlt
          have hzj : (x.args.zip y.args)[j] = (x.args[j], y.args[j]) := by rw [List.getElem?_eq_getElem hjz] at hz0; exact Option.some.inj hz0
          have hsplit : x.args.zip y.args = (x.args.zip y.args).take j ++ ([(x.args[j], y.args[j])] ++ (x.args.zip y.args).drop (j + 1)) := by
            conv => lhs; rw [← List.take_append_drop j (x.args.zip y.args), List.drop_eq_getElem_cons hjz, hzj]
            rfl
          have HSP := hid (show uniS k (x.args.zip y.args) s.env = uniS m ([(x.args[j], y.args[j])] ++ (x.args.zip y.args).drop (j + 1)) E' by
            conv => lhs; rw [hsplit]
            rw [uniS_app, HTK.out, if_pos rfl]
            simp)
          have HNX := hid (show uniS k ((x.args.zip y.args).take (j + 1)) s.env = uniS m [(x.args[j], y.args[j])] E' by
            rw [List.take_succ_eq_append_getElem hjz, hzj, uniS_app, HTK.out, if_pos rfl]
            simp)
          have HEO := hid (show EnvOk N E' by
            have := (uniS_env k ((x.args.zip y.args).take j) s.env HE.out (fun p hp => by
              have := List.of_mem_zip (List.mem_of_mem_take hp)
              exact ⟨HXI.out.arg this.1, HYI.out.arg this.2⟩)).1
            rw [HTK.out] at this
            exact this)
          have HLE := hid (show E'.length + m ≤ 1000000 by
            have := uniS_len k ((x.args.zip y.args).take j) s.env (by rw [HTK.out])
            rw [HTK.out] at this
            have h2 := HLEN.out
            simp only [Int.toNat_natCast] at this
            omega)
          have hj0 : (0 : Int) ≤ (j : Int) := Int.natCast_nonneg _
          have hj1 : (j : Int) < (x.args.length : Int) := by omega
          clear hsplit hr3 hr4 hkA hmv hz0 hzj hjz
          go_wp2_with fail
          go_still_tail 12, (by kernel_rfl)
          change wpList _ _ _ _ _ wr.drew
          have HCALL := hid (IH.out m hm tv' { s with env := E' } x.args[j] y.args[j] wr.drew _ _ (HSV.out.below ((Below.refl _ _).drew)) (show WkAt xb m wr.drew from HWK4.out) HEO.out (HXI.out.arg (List.getElem_mem hlt)) (HYI.out.arg (List.getElem_mem hlty)) (Tm.rep_lasts.1 _ _ _ _ _ HR3.out (Keeps.drew _ _)) (Tm.rep_lasts.1 _ _ _ _ _ HR4.out (Keeps.drew _ _)) HLE.out)
          have HNB5 := hid (HSV.out.box_free HB54.out)
          have HNB6 := hid (HSV.out.box_free HB64.out)
          have HBD5 := hid (show wr.drew.heap[w.heap.size]? = _ from HB54.out)
          have HBD6 := hid (show wr.drew.heap[w.heap.size + 1]? = _ from HB64.out)
          have HCD := hid (HCH.out.drew)
          have hszd : w3.heap.size ≤ wr.drew.heap.size := hsz
          generalize wr.drew = wd at *
          clear g0 g1 g2 g3 i0 i1 i2 i3 p50 p51 p52 p53 p5f p60 p61 p62 p63 p6f q0 qf ql
          go_wp2_with fail
          refine (HCALL.out).mono ?_
          rintro e w5 ⟨rfl, ⟨tv5, hsv5, hch5, how5⟩, hwk5⟩
          have HSV5 := hid hsv5
          have HWK5 := hid hwk5
          have hxlt : w.heap.size < wd.heap.size := blk_lt HBD5.out
          have hxlt1 : w.heap.size + 1 < wd.heap.size := blk_lt HBD6.out
          have HB55 := hid ((hch5.block _ hxlt (fun e => e.elim HNB5.out (fun e => hne0 e.symm))).trans HBD5.out)
          have HB65 := hid ((hch5.block _ hxlt1 (fun e => e.elim HNB6.out (fun e => hne1 e.symm))).trans HBD6.out)
          have hs5 := hch5.size
          have HSB := hid (SBind.trans HCD.out (fun b hb => HOW.out b hb) (⟨tv5, hsv5, hch5.mono fun _ _ h => h, how5⟩ : SBind base P q g mb xb pv tv' cv ov _ wd w5))
          have HOW5 := hid (show ∀ b, ownB tv5 = some b → ownB tv = some b ∨ w.heap.size ≤ b from fun b hb => (how5 b hb).elim (fun h => HOW.out b h) (fun h => .inr (by omega)))
          have HCH5 := hid (show Ch (fun b => SM g mb tv cv ov b ∨ b = xb) w w5 from HCD.out.trans hch5 (fun b hb => by
            rcases hb with (e | e | e | e | e) | e
            · exact .inl (.inl (.inl e))
            · exact .inl (.inl (.inr (.inl e)))
            · rcases HOW.out b e with h | h
              · exact .inl (.inl (.inr (.inr (.inl h))))
              · exact .inr h
            · exact .inl (.inl (.inr (.inr (.inr (.inl e)))))
            · exact .inl (.inl (.inr (.inr (.inr (.inr e)))))
            · exact .inl (.inr e)))
          have happ := uniS_app m [(x.args[j], y.args[j])] ((x.args.zip y.args).drop (j + 1)) E'
          have hwrk := uniS_work m [(x.args[j], y.args[j])] E'
          obtain ⟨u5, hu5⟩ : ∃ u5, u5 = uniS m [(x.args[j], y.args[j])] E' := ⟨_, rfl⟩
          rw [← hu5] at happ hwrk HSV5 HWK5 HNX HSB ⊢
          have HAPP := hid happ
          obtain ⟨uo, ue, uw⟩ := u5
          simp only at hwrk
          obtain ⟨hwr1, hwr2, hwr3⟩ := hwrk
          have HWR3 := hid hwr3
          clear hsv5 hwk5 hch5 how5 happ hu5 hwr3
          cases uo with
          | false =>
            have hres := hid (show uniS (k + 1) [(a, b)] s.env = ⟨false, ue, uw⟩ by rw [hres0.out, HSP.out, HAPP.out, if_neg (by simp)])
            go_wp2_with fail
            go_ret
            rw [hres.out]
            exact ⟨rfl, HSB.out, HWK5.out⟩
          | true =>
            obtain ⟨pm, hpm⟩ := Int.eq_ofNat_of_zero_le (HWR3.out rfl)
            have HPM := hid hpm
            clear hpm
            go_wp2_with fail
            go_roundw
            case rel =>
              have hpm := HPM.out
              subst hpm
              exact ⟨j + 1, pm, ue, tv5, by omega, by go_num, by omega, HNX.out, HSV5.out, HWK5.out, HCH5.out, HOW5.out, by omega, HB55.out, HB65.out⟩
            case measure => simp [intOf]; omega
        · have hje : j = x.args.length := by omega
          have hres := hid (show uniS (k + 1) [(a, b)] s.env = ⟨true, E', (m : Int)⟩ by
            have := HTK.out
            rw [List.take_of_length_le (by rw [HLZ.out]; omega)] at this
            rw [hres0.out, this])
          clear hje
          go_wp2_with fail
          go_ret
          rw [hres.out]
          exact ⟨rfl, ⟨tv', HSV.out, HCH.out, HOW.out⟩, HWK4.out⟩
theorem sunify_ok (hx : xb ≠ g) : ∀ k, k ≤ 400 → SUniOK base P q g mb xb pv cv ov N k := by
  intro k
  induction k using Nat.strongRecOn with
  | _ k ih =>
    intro hk
    cases k with
    | zero => exact sunify_zero hx
    | succ k => exact sunify_succ hx k (by omega) fun m hm => ih m (by omega) (by omega)
end
end Go.Proofs.YtlpmfkpefoegeabDoor
