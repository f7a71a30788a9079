/-
  The machine: push.
-/
import Derived.Test.YtlpmfkpefoegeabQRound
namespace Go.Proofs.Ytlpmfkpefoegeab
set_option linter.unusedVariables false
set_option linter.unusedSimpArgs false
open Go.RowKit Go.Shelf
attribute [local go_sem] Oper.semAt_some
def pushL (base : Int) (bar : Nat) (l : List Int) (st : List Gm × Int) : List Gm × Int := l.foldl (fun st a => (st.1 ++ [⟨base + a, bar, st.2⟩], (st.1.length : Int))) st
theorem pushM_eq (base : Int) (bar : Nat) (gs : List Gm) (nx : Int) : ∀ (zs : List Int), pushM base bar zs gs nx = pushL base bar zs.reverse (gs, nx)
  | [] => rfl
  | a :: r => by
    rw [pushM, List.reverse_cons, pushL, List.foldl_append]
    have := pushM_eq base bar gs nx r
    unfold pushL at this
    rw [← this]
    rfl
theorem pushL_snoc (base : Int) (bar : Nat) (l : List Int) (a : Int) (st : List Gm × Int) : pushL base bar (l ++ [a]) st = ((pushL base bar l st).1 ++ [⟨base + a, bar, (pushL base bar l st).2⟩], ((pushL base bar l st).1.length : Int)) := by
  unfold pushL; rw [List.foldl_append]; rfl
theorem pushL_len (base : Int) (bar : Nat) : ∀ (l : List Int) (st : List Gm × Int), (pushL base bar l st).1.length = st.1.length + l.length
  | [], st => rfl
  | a :: r, st => by
    have := pushL_len base bar r (st.1 ++ [⟨base + a, bar, st.2⟩], (st.1.length : Int))
    unfold pushL at this ⊢
    rw [List.foldl_cons, this]
    simp only [List.length_append, List.length_cons, List.length_nil]; omega
theorem pushL_nx (base : Int) (bar : Nat) (l : List Int) (st : List Gm × Int) (h : I64 st.2) (hl : st.1.length + l.length ≤ 1000000) : I64 (pushL base bar l st).2 := by
  rcases List.eq_nil_or_concat l with rfl | ⟨r, a, rfl⟩
  · exact h
  · rw [List.concat_eq_append] at hl ⊢
    rw [pushL_snoc]
    have := pushL_len base bar r st
    simp only [List.length_append, List.length_singleton] at hl
    unfold I64
    simp only
    omega
theorem tyGls : ElemTy Try.prog 104 130 3 24 := .mk' (z := .agg #[.int .i64 0, .int .i64 0, .int .i64 0]) Try.underlying104 (by kernel_rfl) rfl (by omega) (by omega)
section
variable {base : Nat} {P : List Cl} {q g : Nat} {pv hc ht : Value} {o : Mo} {m : Mv} {w : World}
structure PuI (base n0 n2 n3 n4 B q g : Nat) (pv hc ht : Value) (o : Mo) (m : Mv) (base0 : Int) (bar : Nat) (nx : Int) (w : World) (pre : List (Nat × Sm)) (gv2 : Value) (W : World) : Prop where
  box : W.heap[g]? = some (.cells #[pv, hc, ht, gv2, o.cv, .int .i64 m.now, .int .i64 (q : Int), .int .i64 m.query, .int .i64 (m.fuel : Int), o.ov] 107 (0, 0))
  own : OwnG W base (pushL base0 bar (pre.map fun x => x.2.1) (m.goals, nx)).1 gv2
  grow : ∀ b, ownB gv2 = some b → ownB o.gv = some b ∨ B ≤ b
  ch : Ch (fun b => b = g ∨ ownB o.gv = some b) w W
  size : B ≤ W.heap.size
  x0 : Boxed W n0 102 (.pointer (some ⟨g, 0, none⟩))
  x2 : Boxed W n2 3 (.int .i64 base0)
  x3 : Boxed W n3 3 (.int .i64 (bar : Int))
  x4 : Boxed W n4 3 (.int .i64 (pushL base0 bar (pre.map fun x => x.2.1) (m.goals, nx)).2)
def PuE (base n0 n2 n3 n4 B q g : Nat) (pv hc ht : Value) (o : Mo) (m : Mv) (base0 : Int) (bar : Nat) (nx : Int) (w : World) (pre : List (Nat × Sm)) (W : World) : Prop := ∃ gv2, PuI base n0 n2 n3 n4 B q g pv hc ht o m base0 bar nx w pre gv2 W
theorem PuI.move {n0 n2 n3 n4 B : Nat} {base0 nx : Int} {bar : Nat} {pre : List (Nat × Sm)} {gv2 : Value} {W W' : World} {row : Option Nat} (h : PuI base n0 n2 n3 n4 B q g pv hc ht o m base0 bar nx w pre gv2 W) (hB : w.heap.size ≤ B)
    (hg : W.grownBy W' row) (hr : ∀ r, row = some r → B ≤ r ∧ ∃ o : Obj, W.heap[r]? = some o ∧ o.isCells = false) : PuI base n0 n2 n3 n4 B q g pv hc ht o m base0 bar nx w pre gv2 W' := by
  have hk : ∀ {k : Nat} {c : Array Value} {E : TypeId} {fr : Nat × Nat}, W.heap[k]? = some (.cells c E fr) → W'.heap[k]? = some (.cells c E fr) := fun {k c E fr} hc => by
    refine (hg.block k (blk_lt hc) fun e => ?_).trans hc
    obtain ⟨_, o', ho', hn⟩ := hr k e.symm
    rw [hc] at ho'; cases ho'; cases hn
  refine ⟨hk h.box, h.own.kept fun k hk' => ?_, h.grow, h.ch.grown hg (fun k e => .inr (by have := (hr k e).1; omega)), Nat.le_trans h.size hg.size, hk h.x0, hk h.x2, hk h.x3, hk h.x4⟩
  obtain ⟨c, hc⟩ := own_ty h.own.1 hk'
  rw [hk hc, hc]
set_option maxRecDepth 100000 in
set_option maxHeartbeats 8000000 in
theorem mpush_ok (cv gv : Value) (bv bh : Int) (zs : List Int) (base0 : Int) (bar : Nat) (nx : Int) (hgv : NumsR (fun b => b < base ∧ b ≠ g) w zs gv) (hz : ∀ a ∈ zs, 0 ≤ a ∧ a ≤ 1000000) (hb0 : 0 ≤ base0) (hb1 : base0 ≤ 1000000) (hbar : bar ≤ 1000000) (hnx : I64 nx)
    (hfit : m.goals.length + zs.length ≤ 6000) (h : MvI base P q g pv hc ht o m w) :
    Calls Try.prog 51 #[.pointer (some ⟨g, 0, none⟩), .agg #[cv, .int .i64 bv, .int .i64 bh, gv], .int .i64 base0, .int .i64 (bar : Int), .int .i64 nx] w
      (fun e w' => e = .returned (.int .i64 (pushM base0 bar zs m.goals nx).2) ∧ MaStep base P q g pv o { m with goals := (pushM base0 bar zs m.goals nx).1 } w w') := by
  obtain ⟨zz, rfl⟩ : ∃ zz : List Sm, zs = zz.map (·.1) := ⟨zs.pmap (fun a h => ⟨a, h⟩) hz, by simp [List.map_pmap]⟩
  rw [pushM_eq]
  have HU := hid h
  have HNX := hid hnx
  rw [List.length_map] at hfit
  have HFIT := hid hfit
  obtain ⟨hl1, hl2⟩ := h.lt
  have hgb := h.bg.1
  have HAP := hid h.apart
  obtain ⟨ga, gcap, gb, goff, rfl, hgc1, hgc2, hgc3, hga, hge⟩ := SlR.at hgv
  rw [List.length_map] at hga hgc1
  simp only [List.length_map] at *
  have HGA := hid hga
  have HGC := hid (fun (W : World) (hk : Keeps (fun b => b < base ∧ b ≠ g) w W) (j : Nat) (hj : j < zz.length) => (show W.cell? ⟨gb, goff + j, none⟩ = some (.int .i64 zz[j].1) from by
    have h1 := num_cell hge (hga (by omega)).2 hk (k := j) (by simpa using hj)
    simpa using h1.1))
  clear h hgv hz hnx hga hge hfit
  refine (callsIn_wide (n := 3)).1 ?_
  refine callsIn_of_wp_marks Try.func51 rfl trivial ?_ rfl
  simp only [Try.ntmps51, List.size_toArray, List.length_cons, List.length_nil, Nat.reduceAdd, Nat.reduceSub, Array.replicate_succ, Array.replicate_zero, List.push_toArray, List.append_toArray, List.nil_append, List.cons_append]
  gi_wp2_with (refine ⟨trivial, ?_⟩; gi_at_call 65; refine (backward_in Fence.wide _ trivial rfl _ _ _ _).mono ?_; rintro e w' ⟨rfl, rfl⟩)
  obtain ⟨pa, pc, ga2, gc2, ca, cc, oa, oc, ha, hac, hb, hbc, rfl, hvg, hvc, hvo, rfl, rfl, -⟩ := HU.out.vals
  obtain ⟨W1, hW1⟩ : ∃ W1, W1 = (((((w.alloc (.cells #[.pointer (some ⟨g, 0, none⟩)] 102)).alloc (.cells #[cv, .int .i64 bv, .int .i64 bh, .slice ga zz.length gcap] 32)).alloc (.cells #[.int .i64 base0] 3)).alloc (.cells #[.int .i64 (bar : Int)] 3)).alloc (.cells #[.int .i64 nx] 3)).alloc (.cells #[.slice ga zz.length gcap] 28) := ⟨_, rfl⟩
  try rw [← hW1]
  obtain ⟨n2, hn2⟩ : ∃ n2, n2 = w.heap.size + 1 + 1 := ⟨_, rfl⟩
  obtain ⟨n3, hn3⟩ : ∃ n3, n3 = w.heap.size + 1 + 1 + 1 := ⟨_, rfl⟩
  obtain ⟨n4, hn4⟩ : ∃ n4, n4 = w.heap.size + 1 + 1 + 1 + 1 := ⟨_, rfl⟩
  obtain ⟨n5, hn5⟩ : ∃ n5, n5 = w.heap.size + 1 + 1 + 1 + 1 + 1 := ⟨_, rfl⟩
  have HB1 := hid (show Below w.heap.size w W1 by rw [hW1]; exact ((((((Below.refl _ _).alloc (Nat.le_refl _) _).alloc (by simp only [World.size_alloc]; omega) _).alloc (by simp only [World.size_alloc]; omega) _).alloc (by simp only [World.size_alloc]; omega) _).alloc (by simp only [World.size_alloc]; omega) _).alloc (by simp only [World.size_alloc]; omega) _)
  have HSZ := hid (show W1.heap.size = w.heap.size + 6 by rw [hW1]; simp only [World.size_alloc])
  have X0 := hid (show Boxed W1 w.heap.size 102 (.pointer (some ⟨g, 0, none⟩)) by rw [hW1]; exact blk_alloc (blk_alloc (blk_alloc (blk_alloc (blk_alloc (blk_new w _) _) _) _) _) _)
  have X2 := hid (show Boxed W1 n2 3 (.int .i64 base0) by rw [hW1, hn2]; have := blk_new ((w.alloc (.cells #[.pointer (some ⟨g, 0, none⟩)] 102)).alloc (.cells #[cv, .int .i64 bv, .int .i64 bh, .slice ga zz.length gcap] 32)) (.cells #[.int .i64 base0] 3); simp only [World.size_alloc] at this; exact blk_alloc (blk_alloc (blk_alloc this _) _) _)
  have X3 := hid (show Boxed W1 n3 3 (.int .i64 (bar : Int)) by rw [hW1, hn3]; have := blk_new (((w.alloc (.cells #[.pointer (some ⟨g, 0, none⟩)] 102)).alloc (.cells #[cv, .int .i64 bv, .int .i64 bh, .slice ga zz.length gcap] 32)).alloc (.cells #[.int .i64 base0] 3)) (.cells #[.int .i64 (bar : Int)] 3); simp only [World.size_alloc] at this; exact blk_alloc (blk_alloc this _) _)
  have X4 := hid (show Boxed W1 n4 3 (.int .i64 nx) by rw [hW1, hn4]; have := blk_new ((((w.alloc (.cells #[.pointer (some ⟨g, 0, none⟩)] 102)).alloc (.cells #[cv, .int .i64 bv, .int .i64 bh, .slice ga zz.length gcap] 32)).alloc (.cells #[.int .i64 base0] 3)).alloc (.cells #[.int .i64 (bar : Int)] 3)) (.cells #[.int .i64 nx] 3); simp only [World.size_alloc] at this; exact blk_alloc this _)
  have X5 := hid (show Boxed W1 n5 28 (.slice ga zz.length gcap) by rw [hW1, hn5]; have := blk_new (((((w.alloc (.cells #[.pointer (some ⟨g, 0, none⟩)] 102)).alloc (.cells #[cv, .int .i64 bv, .int .i64 bh, .slice ga zz.length gcap] 32)).alloc (.cells #[.int .i64 base0] 3)).alloc (.cells #[.int .i64 (bar : Int)] 3)).alloc (.cells #[.int .i64 nx] 3)) (.cells #[.slice ga zz.length gcap] 28); simp only [World.size_alloc] at this; exact this)
  rw [← hn5, ← hn4, ← hn3, ← hn2]
  have HN := hid (show n2 = w.heap.size + 2 ∧ n3 = w.heap.size + 3 ∧ n4 = w.heap.size + 4 ∧ n5 = w.heap.size + 5 from ⟨by omega, by omega, by omega, by omega⟩)
  have HH5 := hid (show n5 < W1.heap.size by rw [HSZ.out]; omega)
  clear hW1 hn2 hn3 hn4 hn5
  have hI0 : OwnFrom W1.heap.size (PuE base w.heap.size n2 n3 n4 W1.heap.size q g (.slice pa P.length pc) (.slice ha m.h.cells.length hac) (.slice hb m.h.trail.length hbc) o m base0 bar nx w) :=
    fun s W W' row ⟨gv2, hs⟩ hg hr => ⟨gv2, hs.move HB1.out.size hg hr⟩
  refine wpIn_rangeFunc_ownG (F := Fence.wide) rfl (by omega) (gf := 80) (lb := #[.pointer (some ⟨n5, 0, none⟩)]) rfl trivial (enters_of Try.func80 (by kernel_rfl) rfl)
    (backward_stops Fence.wide 2 trivial rfl (by omega) n5 gb goff gcap ga zz (by have := HFIT.out; omega) (fun b => (b < base ∧ b ≠ g) ∨ b = n5) (.inr rfl) (fun h0 => ⟨(HGA.out h0).1, .inl (HGA.out h0).2⟩) W1 X5.out.cell (fun j hj => HGC.out W1 (Keeps.of_below HB1.out) j hj))
    (fun h k => h.trans k) (keepsD_b (fun b hb => by rcases hb with hb | rfl; have := HB1.out.size; omega; exact HH5.out)) (Below.refl _ _) (fun _ => rfl)
    (PuE base w.heap.size n2 n3 n4 W1.heap.size q g (.slice pa P.length pc) (.slice ha m.h.cells.length hac) (.slice hb m.h.trail.length hbc) o m base0 bar nx w) (fun _ _ _ => False) hI0 (fun _ _ _ _ _ hs _ _ => hs)
    ⟨o.gv, blk_below HU.out.box HB1.out, HU.out.goals.below HB1.out, fun b hb => .inl hb, Ch.of_below HB1.out, Nat.le_refl _, X0.out, X2.out, X3.out, X4.out⟩
    (fun x => { tmps := #[.pointer (some ⟨g, 0, none⟩), .agg #[cv, .int .i64 bv, .int .i64 bh, .slice ga zz.length gcap], .int .i64 base0, .int .i64 (bar : Int), .int .i64 nx, .pointer (some ⟨w.heap.size, 0, none⟩), .pointer (some ⟨w.heap.size + 1, 0, none⟩), .pointer (some ⟨n2, 0, none⟩), .pointer (some ⟨n3, 0, none⟩), .pointer (some ⟨n4, 0, none⟩), .int .i64 0, undef, .int .i64 x.2.1, .pointer (some ⟨w.heap.size + 1, 3, none⟩), .slice ga zz.length gcap, .func (.func 80) #[] #[.pointer (some ⟨n5, 0, none⟩)], .int .i64 (x.1 : Int), .int .i64 x.2.1, undef, undef, undef, undef, undef, undef, undef, undef, undef, undef, undef, undef, undef, undef, undef, undef, undef, undef, undef, undef, undef, undef], defers := [] }) ?assign ?body ?done ?stop
  case assign =>
    intro l x W K hK
    gi_wp2
    exact hK
  case body =>
    rintro l pre ⟨xi, a, ha0, ha1⟩ W ⟨gv2, hs⟩ hlen
    obtain ⟨st, hst⟩ : ∃ st, st = pushL base0 bar (pre.map fun x => x.2.1) (m.goals, nx) := ⟨_, rfl⟩
    have HST := hid hst
    have HSL := hid (show st.1.length = m.goals.length + pre.length by rw [hst, pushL_len, List.length_map])
    have hfit := HFIT.out
    have hst6 : st.1.length ≤ 5999 := by rw [HSL.out]; omega
    have HSN := hid (show I64 st.2 by rw [hst]; exact pushL_nx _ _ _ _ HNX.out (by rw [List.length_map]; simp only; omega))
    have hown := hs.own
    have hx4 := hs.x4
    rw [← hst] at hown hx4
    have HOWN := hid hown
    have HS := hid hs
    obtain ⟨va, vc, hv, hvl, hvm⟩ := OwnF.val hown
    subst hv
    have hbx := hs.box
    rw [hvc, hvo] at hbx
    obtain ⟨b0, b1, b2, b3, b4, b5, b6, b7, b8, b9, bf⟩ := box10 hbx
    have HX0 := hid hs.x0
    have HX2 := hid hs.x2
    have HX3 := hid hs.x3
    have HX4 := hid hx4
    have HBX := hid hbx
    have hsz1 := hs.size
    have hwz := HSZ.out
    have hgl : g < W.heap.size := blk_lt hbx
    have hN := HN.out
    have hng : ownB (.slice va st.1.length vc) ≠ some g := fun e => by
      rcases HS.out.grow g e with e | e
      · exact HAP.out.gg e
      · omega
    have HNG := hid hng
    have hnb : ∀ k, w.heap.size ≤ k → k < W1.heap.size → ownB (.slice va st.1.length vc) ≠ some k := fun k h1 h2 e => by
      rcases HS.out.grow k e with e | e
      · have := (HU.out.goals.lt k e).2; omega
      · omega
    have HNB := hid hnb
    unfold maxLen at hvm
    clear hst hs hown hx4 hbx hng hnb hN
    dsimp only
    gi_wp2_with fail
    have HF : ∀ {k : Nat}, ((k ≤ 10 → Boxed W.drew w.heap.size 102 (.pointer (some ⟨g, 0, none⟩)) ∧ Boxed W.drew n2 3 (.int .i64 base0) ∧ Boxed W.drew n3 3 (.int .i64 (bar : Int)) ∧ Boxed W.drew n4 3 (.int .i64 st.2)) ∧ (k = 4 → W.drew.cell? ⟨g, 3, none⟩ = some (.slice va st.1.length vc))) := fun {k} => ⟨fun _ => ⟨HX0.out, HX2.out, HX3.out, HX4.out⟩, fun _ => b3⟩
    refine wp_region_round (FF := fun k w' => (k ≤ 10 → Boxed w' w.heap.size 102 (.pointer (some ⟨g, 0, none⟩)) ∧ Boxed w' n2 3 (.int .i64 base0) ∧ Boxed w' n3 3 (.int .i64 (bar : Int)) ∧ Boxed w' n4 3 (.int .i64 st.2)) ∧ (k = 4 → w'.cell? ⟨g, 3, none⟩ = some (.slice va st.1.length vc))) (by kernel_rfl) (by kernel_rfl) (fun ⟨_, _, h⟩ => h) ?_
    clear b0 b1 b2 b3 b4 b5 b6 b7 b8 b9 bf
    refine wpTk (i := 0) (v := ?_) rfl (Or.inl ⟨by rfl, ?_⟩) HF ?_
    rotate_left
    · (intro w' hw; obtain ⟨q0, q2, q3, q4⟩ := hw.1 (by decide); have f0 := q0.cell; have f2 := q2.cell; have f3 := q3.cell; have f4 := q4.cell; clear q0 q2 q3 q4; clear hw; go_simp <;> with_reducible rfl)
    try simp only [Act.put, List.setIfInBounds_toArray, List.set_cons_zero, List.set_cons_succ]
    refine wpTk (i := 1) (v := ?_) rfl (Or.inl ⟨by rfl, ?_⟩) HF ?_
    rotate_left
    · (intro w' hw; obtain ⟨q0, q2, q3, q4⟩ := hw.1 (by decide); have f0 := q0.cell; have f2 := q2.cell; have f3 := q3.cell; have f4 := q4.cell; clear q0 q2 q3 q4; clear hw; go_simp <;> with_reducible rfl)
    try simp only [Act.put, List.setIfInBounds_toArray, List.set_cons_zero, List.set_cons_succ]
    refine wpTk (i := 2) (v := ?_) rfl (Or.inl ⟨by rfl, ?_⟩) HF ?_
    rotate_left
    · (intro w' hw; clear hw; go_simp <;> with_reducible rfl)
    try simp only [Act.put, List.setIfInBounds_toArray, List.set_cons_zero, List.set_cons_succ]
    refine wpTk (i := 3) (v := ?_) rfl (Or.inl ⟨by rfl, ?_⟩) HF ?_
    rotate_left
    · (intro w' hw; clear hw; go_simp <;> with_reducible rfl)
    try simp only [Act.put, List.setIfInBounds_toArray, List.set_cons_zero, List.set_cons_succ]
    refine wpTk (i := 4) (v := ?_) rfl (Or.inl ⟨by rfl, ?_⟩) HF ?_
    rotate_left
    · (intro w' hw; have f5 := hw.2 rfl; clear hw; go_simp <;> with_reducible rfl)
    try simp only [Act.put, List.setIfInBounds_toArray, List.set_cons_zero, List.set_cons_succ]
    refine wpTk (i := 5) (v := ?_) rfl (Or.inl ⟨by rfl, ?_⟩) HF ?_
    rotate_left
    · (intro w' hw; obtain ⟨q0, q2, q3, q4⟩ := hw.1 (by decide); have f0 := q0.cell; have f2 := q2.cell; have f3 := q3.cell; have f4 := q4.cell; clear q0 q2 q3 q4; clear hw; go_simp <;> with_reducible rfl)
    try simp only [Act.put, List.setIfInBounds_toArray, List.set_cons_zero, List.set_cons_succ]
    refine wpTk (i := 6) (v := ?_) rfl (Or.inl ⟨by rfl, ?_⟩) HF ?_
    rotate_left
    · (intro w' hw; clear hw; go_simp <;> with_reducible rfl)
    try simp only [Act.put, List.setIfInBounds_toArray, List.set_cons_zero, List.set_cons_succ]
    refine wpTk (i := 7) (v := .int .i64 (base0 + a)) rfl (Or.inl ⟨by rfl, ?_⟩) HF ?_
    · (intro w' hw; clear hw; go_simp; exact IntWalk.i64_in _ (by omega))
    try simp only [Act.put, List.setIfInBounds_toArray, List.set_cons_zero, List.set_cons_succ]
    refine wpTk (i := 8) (v := ?_) rfl (Or.inl ⟨by rfl, ?_⟩) HF ?_
    rotate_left
    · (intro w' hw; obtain ⟨q0, q2, q3, q4⟩ := hw.1 (by decide); have f0 := q0.cell; have f2 := q2.cell; have f3 := q3.cell; have f4 := q4.cell; clear q0 q2 q3 q4; clear hw; go_simp <;> with_reducible rfl)
    try simp only [Act.put, List.setIfInBounds_toArray, List.set_cons_zero, List.set_cons_succ]
    refine wpTk (i := 9) (v := ?_) rfl (Or.inl ⟨by rfl, ?_⟩) HF ?_
    rotate_left
    · (intro w' hw; obtain ⟨q0, q2, q3, q4⟩ := hw.1 (by decide); have f0 := q0.cell; have f2 := q2.cell; have f3 := q3.cell; have f4 := q4.cell; clear q0 q2 q3 q4; clear hw; go_simp <;> with_reducible rfl)
    try simp only [Act.put, List.setIfInBounds_toArray, List.set_cons_zero, List.set_cons_succ]
    refine wpTk (i := 10) (v := ?_) rfl (Or.inl ⟨by rfl, ?_⟩) HF ?_
    rotate_left
    · (intro w' hw; clear hw; go_simp <;> with_reducible rfl)
    try simp only [Act.put, List.setIfInBounds_toArray, List.set_cons_zero, List.set_cons_succ]
    refine wpAnyF_one (i := 11) (by kernel_rfl) (wpOp_run rfl (by rfl) ?_)
    go_simp
    refine ⟨fun k _ hF => ⟨fun hle => ⟨(hF.1 hle).1.alloc _, (hF.1 hle).2.1.alloc _, (hF.1 hle).2.2.1.alloc _, (hF.1 hle).2.2.2.alloc _⟩, fun e => bc ((Below.refl _ _).alloc (Nat.le_refl _) _) (hF.2 e)⟩, ?_⟩
    refine wpAnyF_one (i := 12) (by kernel_rfl) (wpOp_run rfl (by rfl) ?_)
    refine wp_app1 (.tmp 22) (.tmp 29) 104 rfl base 130 3 24 tyGls (flatR_lasts gmV_one) (A := fun _ => True) (.slice va st.1.length vc) st.1 rfl ((HOWN.out.ownR gmV_len (fun _ => True)).below (flatR_lasts gmV_one) ((Below.refl _ _).drew)) ⟨base0 + a, bar, st.2⟩ [.int .i64 (base0 + a), .int .i64 (bar : Int), .int .i64 st.2] (by rfl) rfl ⟨⟨by unfold I64; simp only; omega, HSN.out, hbar⟩, rfl⟩ ⟨by omega, by simp only [World.size_drew]; omega⟩ ?_
    intro v2 w2 hown2 hgrew
    have HG2 := hid hgrew
    have hMV : ∀ {k : Nat} {c : Array Value} {E : TypeId} {fr : Nat × Nat}, ownB (.slice va st.1.length vc) ≠ some k → W.heap[k]? = some (.cells c E fr) → w2.heap[k]? = some (.cells c E fr) := fun {k c E fr} hne hc => by
      refine (HG2.out.grown.block k ?_ (fun e => hne e.symm)).trans (blk_alloc (show W.drew.heap[k]? = _ from hc) _)
      have := blk_lt hc
      simp only [World.size_alloc, World.size_drew]; omega
    have hw1 := HSZ.out
    obtain ⟨hN2, hN3, hN4, hN5⟩ := HN.out
    have HE0 := hid (HNB.out w.heap.size (Nat.le_refl _) (by omega))
    have HE2 := hid (HNB.out n2 (by omega) (by omega))
    have HE3 := hid (HNB.out n3 (by omega) (by omega))
    have HE4 := hid (HNB.out n4 (by omega) (by omega))
    have HY0 := hid (show Boxed w2 w.heap.size 102 (.pointer (some ⟨g, 0, none⟩)) from hMV HE0.out HX0.out)
    have HY2 := hid (show Boxed w2 n2 3 (.int .i64 base0) from hMV HE2.out HX2.out)
    have HY3 := hid (show Boxed w2 n3 3 (.int .i64 (bar : Int)) from hMV HE3.out HX3.out)
    have HY4 := hid (show Boxed w2 n4 3 (.int .i64 st.2) from hMV HE4.out HX4.out)
    have HYB := hid (hMV HNG.out HBX.out)
    have HO2 := hid (OwnF.of_ownR hown2)
    obtain ⟨va2, vc2, hv2, hvl2, hvm2⟩ := OwnF.val HO2.out
    rw [show (st.1 ++ [(⟨base0 + a, bar, st.2⟩ : Gm)]).length = st.1.length + 1 by simp] at hv2 hvl2
    subst hv2
    have hgb2 : g < w2.heap.size := blk_lt HYB.out
    have HOG2 := hid (show ∀ b, ownB (.slice va2 (st.1.length + 1) vc2) = some b → ownB (.slice va st.1.length vc) = some b ∨ W.heap.size ≤ b from fun b hb => by
      rcases hgrew.block with e | e
      · exact .inl (e ▸ hb)
      · have h9 : W.drew.heap.size + 1 ≤ b := by have := e b hb; simpa only [World.size_alloc] using this
        exact .inr (Nat.le_of_succ_le h9))
    unfold maxLen at hvm2
    refine ⟨fun k _ hF => ⟨fun hle => ⟨(hF.1 hle).1.kept hgrew.grown (fun e => HE0.out e.symm), (hF.1 hle).2.1.kept hgrew.grown (fun e => HE2.out e.symm), (hF.1 hle).2.2.1.kept hgrew.grown (fun e => HE3.out e.symm), (hF.1 hle).2.2.2.kept hgrew.grown (fun e => HE4.out e.symm)⟩, fun _ => (blk_cell HYB.out 3).trans rfl⟩, ?_⟩
    clear hown2 hgrew hMV HF hN2 hN3 hN4 hN5
    simp only [Act.put, List.setIfInBounds_toArray, List.set_cons_zero, List.set_cons_succ]
    obtain ⟨k0, k1, k2, k3, k4, k5, k6, k7, k8, k9, kf⟩ := box10 HYB.out
    refine wpAnyF_one (i := 13) (by kernel_rfl) (wpOp_run rfl (by rfl) ?_)
    go_simp
    refine ⟨fun k _ hF => hF, ?_⟩
    refine wpAnyF_one (i := 14) (by kernel_rfl) (wpOp_run rfl (by rfl) ?_)
    go_simp
    refine ⟨fun k _ hF => hF, ?_⟩
    refine wpAnyF_one (i := 15) (by kernel_rfl) (wpOp_run rfl (by rfl) ?_)
    go_simp
    have hgne : ∀ k, w.heap.size ≤ k → g ≠ k := fun k hk e => by omega
    have HGN := hid hgne
    have hS : ∀ {k : Nat} {o : Obj}, k ≠ g → w2.heap[k]? = some o → (w2.setCell ⟨g, 3, none⟩ (.slice va2 (st.1.length + 1) vc2)).heap[k]? = some o := fun hne h => (Below.heap_setCell _ _ _ _ hne).trans h
    obtain ⟨hN2, hN3, hN4, hN5⟩ := HN.out
    refine ⟨fun k hk hF => ⟨fun hle => ⟨hS (fun e => hgne _ (Nat.le_refl _) e.symm) (hF.1 hle).1, hS (fun e => hgne n2 (by omega) e.symm) (hF.1 hle).2.1, hS (fun e => hgne n3 (by omega) e.symm) (hF.1 hle).2.2.1, hS (fun e => hgne n4 (by omega) e.symm) (hF.1 hle).2.2.2⟩, fun e => by subst e; exact absurd (hk.symm.trans (by kernel_rfl) : false = true) Bool.false_ne_true⟩, wpAnyF_done (by kernel_rfl) ?_ _⟩
    have HZ0 := hid (show Boxed (w2.setCell ⟨g, 3, none⟩ (.slice va2 (st.1.length + 1) vc2)) w.heap.size 102 (.pointer (some ⟨g, 0, none⟩)) from hS (fun e => hgne _ (Nat.le_refl _) e.symm) HY0.out)
    have HZ2 := hid (show Boxed (w2.setCell ⟨g, 3, none⟩ (.slice va2 (st.1.length + 1) vc2)) n2 3 (.int .i64 base0) from hS (fun e => hgne n2 (by omega) e.symm) HY2.out)
    have HZ3 := hid (show Boxed (w2.setCell ⟨g, 3, none⟩ (.slice va2 (st.1.length + 1) vc2)) n3 3 (.int .i64 (bar : Int)) from hS (fun e => hgne n3 (by omega) e.symm) HY3.out)
    have HZ4 := hid (show Boxed (w2.setCell ⟨g, 3, none⟩ (.slice va2 (st.1.length + 1) vc2)) n4 3 (.int .i64 st.2) from hS (fun e => hgne n4 (by omega) e.symm) HY4.out)
    have HZB := hid (show (w2.setCell ⟨g, 3, none⟩ (.slice va2 (st.1.length + 1) vc2)).heap[g]? = some (.cells #[.slice pa P.length pc, .slice ha m.h.cells.length hac, .slice hb m.h.trail.length hbc, .slice va2 (st.1.length + 1) vc2, .slice ca m.choices.length cc, .int .i64 m.now, .int .i64 (q : Int), .int .i64 m.query, .int .i64 (m.fuel : Int), .slice oa m.out.length oc] 107 (0, 0)) from (blk_set HYB.out 3 _).trans rfl)
    have hng2 : ownB (.slice va2 (st.1.length + 1) vc2) ≠ some g := fun e => by
      rcases HOG2.out g e with e | e
      · exact HNG.out e
      · omega
    have HOZ := hid (HO2.out.kept (w' := w2.setCell ⟨g, 3, none⟩ (.slice va2 (st.1.length + 1) vc2)) fun k hk => Below.heap_setCell _ _ _ _ (fun e => hng2 ((show k = g from e) ▸ hk)))
    -- what the round keeps
    have hKO := ((KeepsOthers.drew W).trans (KeepsOthers.alloc W.drew (.cells #[.int .i64 (base0 + a), .int .i64 (bar : Int), .int .i64 st.2] 130))).trans ((KeepsOthers.of_grownBy HG2.out.grown fun j o e ho => by
      obtain ⟨c, hc⟩ := own_ty HOWN.out.1 e
      have hc' := blk_alloc (show W.drew.heap[j]? = _ from hc) (.cells #[.int .i64 (base0 + a), .int .i64 (bar : Int), .int .i64 st.2] 130)
      rw [hc'] at ho; cases ho; rfl).trans (KeepsOthers.setCell w2 ⟨g, 3, none⟩ (.slice va2 (st.1.length + 1) vc2)))
    have HKO := hid hKO
    have hCHo : Ch (fun b => b = g ∨ ownB (.slice va st.1.length vc) = some b) W (w2.setCell ⟨g, 3, none⟩ (.slice va2 (st.1.length + 1) vc2)) :=
      (HG2.out.ch ((Ch.refl _ W).drew.alloc _) (fun b hb => .inl (.inr hb))).setCell (p := ⟨g, 3, none⟩) (.inl (.inl rfl)) _
    have HCHo := hid hCHo
    generalize w2.setCell ⟨g, 3, none⟩ (.slice va2 (st.1.length + 1) vc2) = W3 at *
    clear hKO hCHo hng2 hS hgne k0 k1 k2 k3 k4 k5 k6 k7 k8 k9 kf
    have z0 := HZ0.out.cell
    have z4 := HZ4.out.cell
    have zf := HZ4.out.frozen
    obtain ⟨k0, k1, k2, k3, k4, k5, k6, k7, k8, k9, kf⟩ := box10 HZB.out
    have hst0 : (0 : Int) ≤ (st.1.length : Int) := Int.natCast_nonneg _
    clear hN2 hN3 hN4 hN5
    gi_wp2
    obtain ⟨hN2, hN3, hN4, hN5⟩ := HN.out
    have hC : Ch (fun b => b = g ∨ ownB (.slice va st.1.length vc) = some b ∨ b = n4) W (W3.setCell ⟨n4, 0, none⟩ (.int .i64 (st.1.length : Int))) := (HCHo.out.mono (fun b _ hb => hb.elim .inl (fun e => .inr (.inl e)))).setCell (p := ⟨n4, 0, none⟩) (.inl (.inr (.inr rfl))) _
    have hS : ∀ {k : Nat} {o : Obj}, k ≠ n4 → W3.heap[k]? = some o → (W3.setCell ⟨n4, 0, none⟩ (.int .i64 (st.1.length : Int))).heap[k]? = some o := fun hne h => (Below.heap_setCell _ _ _ _ hne).trans h
    have hps : pushL base0 bar ((pre ++ [(xi, (⟨a, ha0, ha1⟩ : Sm))]).map fun x => x.2.1) (m.goals, nx) = (st.1 ++ [⟨base0 + a, bar, st.2⟩], (st.1.length : Int)) := by
      rw [List.map_append, List.map_singleton, pushL_snoc, ← HST.out]
    refine ⟨(HKO.out.trans (KeepsOthers.setCell W3 ⟨n4, 0, none⟩ _)).from _, hC.keeps fun b _ hb e => ?_, .slice va2 (st.1.length + 1) vc2, ?_, ?_, fun b hb => ?_, HS.out.ch.trans hC (fun b hb => ?_), Nat.le_trans HS.out.size hC.size, hS (by omega) HZ0.out, hS (by omega) HZ2.out, hS (by omega) HZ3.out, ?_⟩
    · rcases hb with ⟨h1, h2⟩ | h1
      · rcases e with e | e | e
        · exact h2 e
        · have := (HOWN.out.lt b e).1; omega
        · omega
      · rcases e with e | e | e
        · omega
        · exact HNB.out b (by omega) (by omega) e
        · omega
    · rw [hvc, hvo]; exact hS (by omega) HZB.out
    · rw [hps]
      refine HOZ.out.kept fun k hk => Below.heap_setCell _ _ _ _ (fun e => ?_)
      have e' : k = n4 := e
      rcases HOG2.out k hk with e2 | e2
      · exact HNB.out k (by omega) (by omega) e2
      · omega
    · rcases HOG2.out b hb with e | e
      · exact HS.out.grow b e
      · exact .inr (Nat.le_trans HS.out.size e)
    · rcases hb with rfl | e | rfl
      · exact .inl (.inl rfl)
      · rcases HS.out.grow b e with e | e
        · exact .inl (.inr e)
        · exact .inr (by omega)
      · exact .inr (by omega)
    · rw [hps]; exact HZ4.out.set _
  case done =>
    rintro D ys W hD hys ⟨gv2, hs⟩ hK
    have hx4 := hs.x4.cell
    have hs' := hs.move (W' := W.putObj D (.deferred none)) (row := some D) HB1.out.size (grownBy_putObj' W D (.deferred none)) (fun r e => by cases e; exact ⟨hD, _, hK, rfl⟩)
    have HS' := hid hs'
    have HK := hid hK
    have hye : (ys.map fun x => x.2.1) = (zz.map (·.1)).reverse := by
      rw [← List.map_reverse, ← hys, List.map_map]; rfl
    rw [hye] at hx4
    have HYE := hid hye
    have hx4' := hx4
    clear hs hs' hK hys hye hx4
    gi_wp2
    refine ⟨by simp, .inl ⟨_, _, rfl, run_takeDeferred HK.out, ?_⟩⟩
    refine ⟨_, results_tmp rfl _ _ _, rfl, ?_⟩
    have hs := HS'.out
    have hgr : MGrow w o ⟨gv2, o.cv, o.ov⟩ := ⟨fun b hb => (hs.grow b hb).imp id (fun e => Nat.le_trans HB1.out.size e), fun b hb => .inl hb, fun b hb => .inl hb⟩
    have hch : Ch (MM g o) w (W.putObj D (.deferred none)) := hs.ch.mono fun b _ hb => hb.elim .inl (fun e => .inr (.inl e))
    have hown := hs.own
    rw [HYE.out] at hown
    refine HU.out.turned (o' := ⟨gv2, o.cv, o.ov⟩) (m' := { m with goals := (pushL base0 bar (zz.map (·.1)).reverse (m.goals, nx)).1 }) hs.box hch hgr (mm_heap HU.out.heap hch hgr) hown ?_ ?_ HU.out.nowb HU.out.qb HU.out.fu (by simp only [pushL_len, List.length_reverse, List.length_map]; exact HFIT.out) HU.out.cl HU.out.ol
    · exact HU.out.keepC hs.ch fun b hb e => e.elim (fun e => HAP.out.cg (e ▸ hb)) (fun e => HAP.out.gc b e hb)
    · exact HU.out.keepO hs.ch (fun b hb => hb.elim .inl (fun e => .inr (.inl e))) (fun b hb e => e.elim (fun e => HAP.out.og (e ▸ hb)) (fun e => HAP.out.go b e hb)) hgr rfl
  case stop =>
    rintro D c pre W _ _ h _
    exact h.elim
end
end Go.Proofs.Ytlpmfkpefoegeab
