/-
  The solver: full.
-/
import Derived.Test.YtlpmfkpefoegeabDoorQFront
import Derived.Test.YtlpmfkpefoegeabDoorQRead
namespace Go.Proofs.YtlpmfkpefoegeabDoor
set_option linter.unusedVariables false
set_option linter.unusedSimpArgs false
open Go.RowKit
def SFullPost (xb : Nat) (w : World) (res : Option (List Tm × Nat)) (e : Ending) (w' : World) : Prop :=
  ∃ (us : List Value) (t : Tm) (k : Int), e = .returned (.agg us.toArray) ∧ Ch (fun b => b = xb) w w' ∧ Tm.rep (fun b => New w b) w' t us ∧ WkAt xb k w' ∧ ((res = none ∧ k = -1) ∨ (res = some ([t], k.toNat) ∧ 0 ≤ k))
def SFullOK (base : Nat) (P : List Cl) (q g mb xb : Nat) (pv tv cv ov : Value) (s : Sv) (N : Int) (k : Nat) : Prop := ∀ (t : Tm) (w : World) (vs : List Value), SvI base P q g mb xb pv tv cv ov s w → WkAt xb k w → t.In N → Tm.rep (SA g mb xb tv cv ov) w t vs →
  Calls Tryd.prog 88 #[.pointer (some ⟨g, 0, none⟩), .agg vs.toArray, .pointer (some ⟨xb, 0, none⟩)] w (SFullPost xb w (flL s.env k [t]))
section
variable {base : Nat} {P : List Cl} {q g mb xb : Nat} {pv tv cv ov : Value} {s : Sv} {N : Int}
theorem wk_put {xb b o : Nat} {u : Value} {k : Int} {w : World} (h : WkAt xb k w) (hb : xb ≠ b) : WkAt xb k (w.setCell ⟨b, o, none⟩ u) := (Below.heap_setCell _ _ _ _ hb).trans h
theorem Tm.In.args4 {N : Int} {t : Tm} (h : t.In N) : t.args.length ≤ 4 := by
  cases h with
  | var => simp [Tm.args]
  | atom => simp [Tm.args]
  | int => simp [Tm.args]
  | comp _ _ _ _ _ h3 => exact h3
set_option maxHeartbeats 1000000 in
theorem sfull_zero (hx : xb ≠ g) : SFullOK base P q g mb xb pv tv cv ov s N 0 := by
  intro t w vs h hw ht hv
  obtain ⟨a, cap, rfl, -⟩ := Tm.rep4 hv
  obtain ⟨x0, xf, xl⟩ := hw.cell
  have HW := hid hw
  have hcs := cell_set
  have hxl1 : xb < w.heap.size + 1 := by omega
  rw [show ((0 : Nat) : Int) = 0 from rfl] at x0
  clear hv ht h hw
  rw [flL_zero]
  go_enter Tryd.func88, Tryd.ntmps88
  go_wp2_with fail
  refine bodyPost_ret (v := .agg #[.int .i64 0, .int .i64 0, .string ByteArray.empty, .slice none 0 0]) (by simp [results, Tryd.results88, go_sem, hcs]; try rfl) rfl ?_
  exact ⟨[.int .i64 0, .int .i64 0, .string ByteArray.empty, .slice none 0 0], tm0, -1, rfl, ((ch_wk _ _ _ _).alloc _).alloc _, tm0_rep _ _, blk_alloc (blk_alloc (HW.out.set (k' := -1)) _) _, .inl ⟨rfl, rfl⟩⟩
set_option maxRecDepth 100000 in
set_option maxHeartbeats 4000000 in
theorem sfull_succ (hx : xb ≠ g) (hE : EnvOk N s.env) (k : Nat) (hk4 : k ≤ 200) (ih : ∀ m, m ≤ k → SFullOK base P q g mb xb pv tv cv ov s N m) : SFullOK base P q g mb xb pv tv cv ov s N (k + 1) := by
  intro t w vs h hw ht hvv
  have HU := hid h
  have HE := hid hE
  have HT := hid ht
  have IH := hid ih
  obtain ⟨a, cap, rfl, -⟩ := Tm.rep4 hvv
  have HV := hid hvv
  obtain ⟨x0, xf, xl⟩ := hw.cell
  have HW := hid hw
  have hcs := cell_set
  obtain ⟨hl1, hl2, hl3⟩ := h.lt
  have hk0 : (0 : Int) ≤ (k : Int) := Int.natCast_nonneg _
  have hk400 : (k : Int) ≤ 200 := by omega
  have hxl1 : xb < w.heap.size + 1 := by omega
  rw [show ((k + 1 : Nat) : Int) = (k : Int) + 1 by omega] at x0
  have HX := hid hx
  clear h hE ht ih hvv hw
  go_enter Tryd.func88, Tryd.ntmps88
  go_wp2_with fail
  have HX12 := hid (heap2 (w.setCell ⟨xb, 0, none⟩ (.int .i64 (k : Int))) (.cells #[.int .i64 t.kind, .int .i64 t.n, .string t.s, .slice a t.args.length cap] 31) (.cells #[.int .i64 0, .int .i64 0, .string ByteArray.empty, .slice none 0 0] 31))
  rw [World.size_setCell] at HX12
  have HC1 := hid (show Ch (fun b => b = xb) w (((w.setCell ⟨xb, 0, none⟩ (.int .i64 (k : Int))).alloc (.cells #[.int .i64 t.kind, .int .i64 t.n, .string t.s, .slice a t.args.length cap] 31)).alloc (.cells #[.int .i64 0, .int .i64 0, .string ByteArray.empty, .slice none 0 0] 31)) from ((ch_wk _ _ _ _).alloc _).alloc _)
  have HW1 := hid (show WkAt xb k (((w.setCell ⟨xb, 0, none⟩ (.int .i64 (k : Int))).alloc (.cells #[.int .i64 t.kind, .int .i64 t.n, .string t.s, .slice a t.args.length cap] 31)).alloc (.cells #[.int .i64 0, .int .i64 0, .string ByteArray.empty, .slice none 0 0] 31)) from blk_alloc (blk_alloc (HW.out.set (k' := (k : Int))) _) _)
  have hW1 : (((w.setCell ⟨xb, 0, none⟩ (.int .i64 (k : Int))).alloc (.cells #[.int .i64 t.kind, .int .i64 t.n, .string t.s, .slice a t.args.length cap] 31)).alloc (.cells #[.int .i64 0, .int .i64 0, .string ByteArray.empty, .slice none 0 0] 31)).heap.size = w.heap.size + 2 := by simp
  generalize HWW : ((w.setCell ⟨xb, 0, none⟩ (.int .i64 (k : Int))).alloc (.cells #[.int .i64 t.kind, .int .i64 t.n, .string t.s, .slice a t.args.length cap] 31)).alloc (.cells _ 31) = W1
  have e1 : ((w.setCell ⟨xb, 0, none⟩ (.int .i64 (k : Int))).alloc (.cells #[.int .i64 t.kind, .int .i64 t.n, .string t.s, .slice a t.args.length cap] 31)).alloc (.cells #[.int .i64 0, .int .i64 0, .string ByteArray.empty, .slice none 0 0] 31) = W1 := HWW
  rw [e1] at HX12 HC1 HW1 hW1
  clear e1 HWW
  have HU1 := hid (HU.out.ch HX.out HC1.out)
  have HV1 := hid (Tm.rep_lasts.1 _ _ _ _ _ (Tm.rep_lasts.2.1 _ (fun b => SA g mb xb tv cv ov b ∧ b < w.heap.size) _ _ _ HV.out fun b hb h => ⟨h, hb⟩) (HC1.out.keeps (A := fun b => SA g mb xb tv cv ov b ∧ b < w.heap.size) fun b _ hb e => hb.1.2 e))
  have HN1 := hid (HU.out.envAt.keeps (HC1.out.keeps (A := fun b => b ≠ xb) fun b _ hb e => hb e) (fun b hb => hb.1.2) (fun e => by
    rcases HU.out.nx with h | h
    · exact HX.out h
    · exact h (e ▸ .inr (.inl rfl))))
  refine (slook_ok t _ _ _ HU1.out HE.out HT.out HN1.out HV1.out).mono ?_
  rintro e w2 ⟨r, rfl, hb2, us, rfl, hr⟩
  have HLI := hid (slook_in HE.out HT.out)
  have HIN := hid (flL_one s.env k t)
  generalize slook s.env t = x at *
  obtain ⟨xa, xc, rfl, hxk, hxn, hxs, hxc1, hxc2, hxc3, hsl⟩ := Tm.rep4 hr
  have HC2 := hid (HC1.out.then_below hb2)
  have HW2 := hid (show WkAt xb k w2 from blk_below HW1.out hb2)
  have HB2 := hid (blk_below HX12.out.1 hb2)
  have HZ2 := hid (blk_below HX12.out.2 hb2)
  obtain ⟨y0, y1, y2, y3, yf⟩ := blk4 HB2.out
  obtain ⟨z0, z1, z2, z3, zf⟩ := blk4 HZ2.out
  have hz2 : w.heap.size + 2 ≤ w2.heap.size := by have := hb2.size; omega
  have HSL := hid hsl
  have HI3 := hid (show I64 x.kind ∧ I64 x.n ∧ x.s.size ≤ 1048576 from ⟨hxk, hxn, hxs⟩)
  have hne : xb ≠ w.heap.size := by omega
  have hne' : w.heap.size ≠ xb := by omega
  have hz20 : w.heap.size < w2.heap.size := by omega
  have hz21 : w.heap.size + 1 < w2.heap.size := by omega
  have hxb2 : xb < w2.heap.size := by omega
  clear x0 xf hb2 hr hsl hxk hxn hxs HX12 HW1 HC1 HU1 HV1 HN1
  have hK4 : Keeps (fun b => b ≠ w.heap.size) w2 (((((w2.setCell ⟨w.heap.size, 0, none⟩ (.int .i64 x.kind)).setCell ⟨w.heap.size, 1, none⟩ (.int .i64 x.n)).setCell ⟨w.heap.size, 2, none⟩ (.string x.s)).setCell ⟨w.heap.size, 3, none⟩ (.slice xa x.args.length xc)).alloc (.cells #[.int .i64 x.kind, .int .i64 x.n, .string x.s, .slice none 0 0] 31)) := (keeps_set4 _ _ (fun h => h rfl) _ _ _ _).trans (Keeps.alloc _ _ _)
  have HC3 := hid (show Ch (fun b => b = xb) w (((((w2.setCell ⟨w.heap.size, 0, none⟩ (.int .i64 x.kind)).setCell ⟨w.heap.size, 1, none⟩ (.int .i64 x.n)).setCell ⟨w.heap.size, 2, none⟩ (.string x.s)).setCell ⟨w.heap.size, 3, none⟩ (.slice xa x.args.length xc)).alloc (.cells #[.int .i64 x.kind, .int .i64 x.n, .string x.s, .slice none 0 0] 31)) from
    ((((HC2.out.setCell (p := ⟨w.heap.size, 0, none⟩) (.inr (Nat.le_refl _)) _).setCell (p := ⟨w.heap.size, 1, none⟩) (.inr (Nat.le_refl _)) _).setCell (p := ⟨w.heap.size, 2, none⟩) (.inr (Nat.le_refl _)) _).setCell (p := ⟨w.heap.size, 3, none⟩) (.inr (Nat.le_refl _)) _).alloc _)
  have HW3 := hid (show WkAt xb k (((((w2.setCell ⟨w.heap.size, 0, none⟩ (.int .i64 x.kind)).setCell ⟨w.heap.size, 1, none⟩ (.int .i64 x.n)).setCell ⟨w.heap.size, 2, none⟩ (.string x.s)).setCell ⟨w.heap.size, 3, none⟩ (.slice xa x.args.length xc)).alloc (.cells #[.int .i64 x.kind, .int .i64 x.n, .string x.s, .slice none 0 0] 31)) from blk_keeps HW2.out hK4 hne)
  have HZ3 := hid (blk_keeps HZ2.out hK4 (show w.heap.size + 1 ≠ w.heap.size by omega))
  have HO3 := hid (show (((((w2.setCell ⟨w.heap.size, 0, none⟩ (.int .i64 x.kind)).setCell ⟨w.heap.size, 1, none⟩ (.int .i64 x.n)).setCell ⟨w.heap.size, 2, none⟩ (.string x.s)).setCell ⟨w.heap.size, 3, none⟩ (.slice xa x.args.length xc)).alloc (.cells #[.int .i64 x.kind, .int .i64 x.n, .string x.s, .slice none 0 0] 31)).heap[w2.heap.size]? = some (.cells #[.int .i64 x.kind, .int .i64 x.n, .string x.s, .slice none 0 0] 31) by have := blk_new ((((w2.setCell ⟨w.heap.size, 0, none⟩ (.int .i64 x.kind)).setCell ⟨w.heap.size, 1, none⟩ (.int .i64 x.n)).setCell ⟨w.heap.size, 2, none⟩ (.string x.s)).setCell ⟨w.heap.size, 3, none⟩ (.slice xa x.args.length xc)) (.cells #[.int .i64 x.kind, .int .i64 x.n, .string x.s, .slice none 0 0] 31); simpa using this)
  have HS3 := hid (show (((((w2.setCell ⟨w.heap.size, 0, none⟩ (.int .i64 x.kind)).setCell ⟨w.heap.size, 1, none⟩ (.int .i64 x.n)).setCell ⟨w.heap.size, 2, none⟩ (.string x.s)).setCell ⟨w.heap.size, 3, none⟩ (.slice xa x.args.length xc)).alloc (.cells #[.int .i64 x.kind, .int .i64 x.n, .string x.s, .slice none 0 0] 31)).heap.size = w2.heap.size + 1 by simp)
  have HK4 := hid hK4
  clear hK4
  unfold maxLen at hxc2
  go_wp2_with fail
  obtain ⟨_, _, eb, eo, e9, -, -, -, hea, hee⟩ := HSL.out.at
  simp only [Value.slice.injEq, true_and] at e9
  obtain ⟨rfl, rfl⟩ := e9
  have HEE := hid (hee.keeps Tm.rep_lasts (fun hne => (hea (List.length_pos_iff.2 hne)).2) (HK4.out.mono fun b _ hb => by have := hb.2; omega))
  have HEA := hid hea
  clear hea hee
  generalize ((((w2.setCell ⟨w.heap.size, 0, none⟩ (.int .i64 x.kind)).setCell ⟨w.heap.size, 1, none⟩ (.int .i64 x.n)).setCell ⟨w.heap.size, 2, none⟩ (.string x.s)).setCell ⟨w.heap.size, 3, none⟩ (.slice xa x.args.length xc)).alloc (.cells #[.int .i64 x.kind, .int .i64 x.n, .string x.s, .slice none 0 0] 31) = w3 at *
  have HR1 := hid (show flL s.env (k + 1) [t] = (match flL s.env k x.args with
    | none => none
    | some (ts, w1) => some ([.mk x.kind x.n x.s ts], w1)) from HIN.out)
  have hob0 : w2.heap.size ≠ xb := by omega
  have hargs4 : x.args.length ≤ 4 := HLI.out.args4
  go_loopw [28] (fun i wr => ∃ (j m : Nat) (ts : List Tm) (v : Value), j ≤ x.args.length ∧ i = .int .i64 (j : Int) ∧ m ≤ k ∧ ts.length = j ∧ flL s.env k (x.args.take j) = some (ts, m) ∧ WkAt xb m wr ∧ Ch (fun b => b = xb ∨ w2.heap.size ≤ b) w3 wr ∧ wr.heap[w.heap.size + 1]? = some (.cells #[.int .i64 0, .int .i64 0, .string ByteArray.empty, .slice none 0 0] 31) ∧ wr.heap[w2.heap.size]? = some (.cells #[.int .i64 x.kind, .int .i64 x.n, .string x.s, v] 31) ∧ OwnR wr (w2.heap.size + 1) 31 4 Tm.rep (fun b => w2.heap.size + 1 ≤ b) ts v ∧ w2.heap.size + 1 ≤ wr.heap.size) (fun i _ => x.args.length - (intOf i).toNat)
  case atStart => exact ⟨0, k, [], _, Nat.zero_le _, rfl, Nat.le_refl _, rfl, by rw [List.take_zero, flL_nil], HW3.out, Ch.refl _ _, HZ3.out, HO3.out, OwnR.nil .., by have := HS3.out; omega⟩
  case round =>
    obtain ⟨j, m, ts, v, hj, rfl, hm, htl, htk, hw, hch, hbz, hbo, hown, hsz⟩ := hrel
    have HTK := hid htk
    have HTL := hid htl
    have HW4 := hid hw
    have HC4 := hid hch
    have HBZ := hid hbz
    have HBO := hid hbo
    have HO := hid hown
    have HCW := hid (show Ch (fun b => b = xb) w wr from HC3.out.trans hch (fun b h => h.elim .inl (fun e => .inr (by omega))))
    obtain ⟨va, vc, rfl, hvc⟩ := hown.val
    obtain ⟨q0, qf, ql⟩ := hw.cell
    obtain ⟨z0, z1, z2, z3, zf⟩ := blk4 hbz
    obtain ⟨o0, o1, o2, o3, of⟩ := blk4 hbo
    have htl4 : ts.length ≤ 4 := by omega
    have hlw0 : w.heap.size + 1 < wr.heap.size := by omega
    have hlw2 : w2.heap.size < wr.heap.size := by omega
    have hne1 : w.heap.size + 1 ≠ xb := by omega
    have hne2 : w.heap.size + 1 ≠ w2.heap.size := by omega
    have hne3 : ¬ w2.heap.size = w.heap.size + 1 := by omega
    clear htk htl hw hch hbz hbo hown y0 y1 y2 y3 yf
    by_cases hlt : j < x.args.length
    · obtain ⟨rfl, hAb⟩ := HEA.out (by omega)
      obtain ⟨sa, sc, c0, c1, c2, c3, hr3⟩ := tm_cells HEE.out hAb (HC4.out.keeps fun b _ hb e => e.elim hb.1.2 (fun e => by have := hb.2; omega)) hlt
      have HA3 := hid (Tm.rep_lasts.2.1 _ (fun b => SA g mb xb tv cv ov b ∧ b < w.heap.size) _ _ _ hr3 fun b _ h => h)
      have HGI := hid (HLI.out.arg (List.getElem_mem hlt))
      have HNX := hid (flL_next s.env k x.args j hlt ts m HTK.out)
      have hlt' : (j : Int) < (x.args.length : Int) := by omega
      have hj0 : (0 : Int) ≤ (j : Int) := Int.natCast_nonneg _
      obtain ⟨y, hy⟩ : ∃ y, y = x.args[j] := ⟨_, rfl⟩
      rw [← hy] at c0 c1 c2 c3 HA3 HGI HNX
      clear hr3 hy
      go_wp2_with fail
      obtain ⟨W4, hW4⟩ : ∃ W4, W4 = wr.alloc (.cells #[.int .i64 y.kind, .int .i64 y.n, .string y.s, .slice sa y.args.length sc] 31) := ⟨_, rfl⟩
      have HB4 := hid (show Below wr.heap.size wr W4 by rw [hW4]; exact (Below.refl _ _).alloc (Nat.le_refl _) _)
      have HY4 := hid (show W4.heap[wr.heap.size]? = some (.cells #[.int .i64 y.kind, .int .i64 y.n, .string y.s, .slice sa y.args.length sc] 31 (0, 0)) by rw [hW4]; exact blk_new _ _)
      have hs4 : W4.heap.size = wr.heap.size + 1 := by rw [hW4]; simp
      have HBO4 := hid (blk_below HBO.out HB4.out)
      have HW44 := hid (show WkAt xb m W4 from blk_below HW4.out HB4.out)
      have HA4 := hid (Tm.rep_lasts.1 _ _ _ _ _ HA3.out (Keeps.of_below HB4.out))
      have HCW4 := hid (HCW.out.then_below HB4.out)
      have HC44 := hid (HC4.out.then_below HB4.out)
      have HO4 := hid (HO.out.keeps Tm.rep_lasts (Keeps.of_below (A := fun _ => True) HB4.out) (fun _ _ => trivial) (fun _ _ => trivial))
      have HBZ4 := hid (blk_below HBZ.out HB4.out)
      have hws : wr.heap.size < W4.heap.size := by omega
      obtain ⟨xi, hxi⟩ : ∃ xi, xi = wr.heap.size := ⟨_, rfl⟩
      rw [← hxi] at HY4
      have hxio : xi ≠ w2.heap.size := by omega
      have hxib : xi < W4.heap.size := by omega
      rw [← hW4, ← hxi]
      have hxiw : wr.heap.size ≤ xi := by omega
      clear hxi hW4 q0 qf z0 z1 z2 z3 zf o0 o1 o2 o3 of c0 c1 c2 c3
      have hM1 : W4.drew.cell? ⟨w2.heap.size, 3, none⟩ = some (.slice va ts.length vc) := (blk4 (show W4.drew.heap[w2.heap.size]? = _ from HBO4.out)).2.2.2.1
      have hM2 := (show W4.drew.heap[xi]? = some (.cells #[.int .i64 y.kind, .int .i64 y.n, .string y.s, .slice sa y.args.length sc] 31 (0, 0)) from HY4.out)
      go_wp2_with fail
      refine wp_region_F (F := fun k w' => (k = 1 ∨ k = 3) → w'.cell? ⟨w2.heap.size, 3, none⟩ = some (.slice va ts.length vc) ∧ w'.heap[xi]? = some (.cells #[.int .i64 y.kind, .int .i64 y.n, .string y.s, .slice sa y.args.length sc] 31 (0, 0))) (by kernel_rfl) ?_
      refine wpAnyF_take (i := 0) (v := ?_) rfl (by kernel_rfl) (by kernel_rfl) (by kernel_rfl) (fun _ _ _ h => h) (Or.inl ⟨by rfl, ?_⟩) (fun _ => ⟨hM1, hM2⟩) ?_
      rotate_left
      · (intro w' hw; clear hw; go_simp <;> with_reducible rfl)
      try simp only [Act.put, List.setIfInBounds_toArray, List.set_cons_zero, List.set_cons_succ]
      refine wpAnyF_take (i := 1) (v := ?_) rfl (by kernel_rfl) (by kernel_rfl) (by kernel_rfl) (fun _ _ _ h => h) (Or.inl ⟨by rfl, ?_⟩) (fun _ => ⟨hM1, hM2⟩) ?_
      rotate_left
      · (intro w' hw; obtain ⟨q0, q1⟩ := hw (by omega); clear hw; go_simp <;> with_reducible rfl)
      try simp only [Act.put, List.setIfInBounds_toArray, List.set_cons_zero, List.set_cons_succ]
      refine wpAnyF_take (i := 2) (v := ?_) rfl (by kernel_rfl) (by kernel_rfl) (by kernel_rfl) (fun _ _ _ h => h) (Or.inl ⟨by rfl, ?_⟩) (fun _ => ⟨hM1, hM2⟩) ?_
      rotate_left
      · (intro w' hw; clear hw; go_simp <;> with_reducible rfl)
      try simp only [Act.put, List.setIfInBounds_toArray, List.set_cons_zero, List.set_cons_succ]
      refine wpAnyF_take (i := 3) (v := .agg #[.int .i64 y.kind, .int .i64 y.n, .string y.s, .slice sa y.args.length sc]) rfl (by kernel_rfl) (by kernel_rfl) (by kernel_rfl) (fun _ _ _ h => h) (Or.inl ⟨by rfl, ?_⟩) (fun _ => ⟨hM1, hM2⟩) ?_
      · (intro w' hw; obtain ⟨q0, q1⟩ := hw (by omega); obtain ⟨f0, f1, f2, f3, -⟩ := blk4 q1; clear hw; go_simp)
      try simp only [Act.put, List.setIfInBounds_toArray, List.set_cons_zero, List.set_cons_succ]
      refine wpAnyF_take (i := 4) (v := ?_) rfl (by kernel_rfl) (by kernel_rfl) (by kernel_rfl) (fun _ _ _ h => h) (Or.inl ⟨by rfl, ?_⟩) (fun _ => ⟨hM1, hM2⟩) ?_
      rotate_left
      · (intro w' hw; clear hw; go_simp <;> with_reducible rfl)
      try simp only [Act.put, List.setIfInBounds_toArray, List.set_cons_zero, List.set_cons_succ]
      refine wpAnyF_one (i := 5) (by kernel_rfl) (wpOp_run rfl (by rfl) ?_)
      go_simp
      refine (IH.out m hm y W4.drew [_, _, _, _] (HU.out.ch HX.out HCW4.out.drew) HW44.out HGI.out (Tm.rep_lasts.1 _ _ _ _ _ (Tm.rep_lasts.2.1 _ (SA g mb xb tv cv ov) _ _ _ HA4.out fun b _ h => h.1) (Keeps.drew _ _))).mono ?_
      rintro e w5 ⟨us, t', k', rfl, hch1, hr1, hl1, hres⟩
      obtain ⟨sa', sc', rfl, -⟩ := Tm.rep4 hr1
      have hsz1 := hch1.size
      simp only [World.size_drew] at hsz1
      have hkg : Keeps (fun b => b ≠ xb) W4 w5 := (Keeps.drew _ _).trans (hch1.keeps (A := fun b => b ≠ xb) (fun b _ hb e => hb e))
      have hlt9 := HO4.out.lt
      have HO1 := hid (HO4.out.keeps Tm.rep_lasts hkg (fun b hb => by omega) (fun b hb => by have := (hlt9 b hb).1; omega))
      have HN := hid (fresh_elem Tm.rep_lasts HO4.out (wc := W4.drew) (Nat.le_refl _) (A := fun b => w2.heap.size + 1 ≤ b) (fun b hb => by simp only [World.size_drew] at hb; omega) hr1)
      have HL9 := hid (show ts.length < 4194304 ∧ w2.heap.size + 1 ≤ w5.heap.size by omega)
      have HCW5 := hid (show Ch (fun b => b = xb) w w5 from (HCW4.out.drew).trans hch1 (fun _ h => .inl h))
      have HC55 := hid (show Ch (fun b => b = xb ∨ w2.heap.size ≤ b) w3 w5 from (HC44.out.drew).trans hch1 (fun _ h => .inl (.inl h)))
      have HBO5 := hid (blk_keeps HBO4.out hkg hob0)
      have HY5 := hid (blk_keeps HY4.out hkg (show xi ≠ xb by omega))
      have HBZ5 := hid (blk_keeps HBZ4.out hkg hne1)
      have HQ := hid (show w5.cell? ⟨w2.heap.size, 3, none⟩ = some (.slice va ts.length vc) ∧ w5.heap[xi]? = some (.cells #[.int .i64 y.kind, .int .i64 y.n, .string y.s, .slice sa y.args.length sc] 31 (0, 0)) from ⟨(blk4 HBO5.out).2.2.2.1, HY5.out⟩)
      have HL11 := hid hl1
      have HRES := hid hres
      clear hr1 hl1 hres hch1 hkg
      refine ⟨fun _ _ _ _ => HQ.out, ?_⟩
      refine wpAnyF_one (i := 6) (by kernel_rfl) (wpOp_run rfl (by rfl) ?_)
      go_simp
      refine ⟨fun _ _ _ _ => ?_, ?_⟩
      · obtain ⟨q0, q1⟩ := HQ.out
        exact ⟨(Keeps.alloc (fun _ => True) w5 _).cell trivial q0, blk_alloc q1 _⟩
      refine wpAnyF_one (i := 7) (by kernel_rfl) (wpOp_run rfl (by rfl) ?_)
      refine wp_app1 (.tmp 33) (.tmp 38) 29 rfl (w2.heap.size + 1) 31 4 56 tyTerm Tm.rep_lasts _ _ rfl HO1.out t' [_, _, _, _] rfl rfl HN.out HL9.out ?_
      intro v2 w6 hown2 hgrew
      have hk2 := hgrew.keeps (A := fun b => ownB (.slice va ts.length vc) ≠ some b) (fun _ h => h)
      have hka := (Keeps.alloc (fun b => ownB (.slice va ts.length vc) ≠ some b) w5 (.cells #[.int .i64 t'.kind, .int .i64 t'.n, .string t'.s, .slice sa' t'.args.length sc'] 31)).trans hk2
      have hno : ∀ b, b < w2.heap.size + 1 → ownB (.slice va ts.length vc) ≠ some b := fun b hb e => by have := (hlt9 _ e).1; omega
      have hnx : ownB (.slice va ts.length vc) ≠ some xi := fun e => by have := (HO.out.lt _ e).2; omega
      have HBO6 := hid (blk_keeps HBO5.out hka (hno _ (by omega)))
      have HBZ6 := hid (blk_keeps HBZ5.out hka (hno _ (by omega)))
      have HL12 := hid (show WkAt xb k' w6 from blk_keeps HL11.out hka (hno _ (by omega)))
      have HCW6 := hid (hgrew.ch (HCW5.out.alloc _) (fun b hb => .inr (by have := (hlt9 b hb).1; omega)))
      have HC66 := hid (hgrew.ch (HC55.out.alloc _) (fun b hb => .inl (.inr (by have := (hlt9 b hb).1; omega))))
      obtain ⟨va2, vc2, hv2, hvc2⟩ := hown2.val
      rw [show (ts ++ [t']).length = ts.length + 1 by simp] at hv2
      subst hv2
      have hz2' := hgrew.size
      have HO2 := hid hown2
      simp only [World.size_alloc] at hz2'
      refine ⟨fun _ _ _ _ => ?_, ?_⟩
      · obtain ⟨q0, q1⟩ := HQ.out
        exact ⟨hka.cell (hno _ (by omega)) q0, blk_keeps q1 hka hnx⟩
      clear hown2 hka hk2 hgrew
      obtain ⟨o0, o1, o2, o3, of⟩ := blk4 HBO6.out
      try simp only [Act.put, List.setIfInBounds_toArray, List.set_cons_zero, List.set_cons_succ]
      refine wpAnyF_take (i := 8) (v := ?_) rfl (by kernel_rfl) (by kernel_rfl) (by kernel_rfl) (fun _ _ _ h => h) (Or.inl ⟨by rfl, ?_⟩) (fun h => by omega) ?_
      rotate_left
      · (intro w' hw; clear hw; go_simp <;> with_reducible rfl)
      try simp only [Act.put, List.setIfInBounds_toArray, List.set_cons_zero, List.set_cons_succ]
      refine wpAnyF_one (i := 9) (by kernel_rfl) (wpOp_run rfl (by rfl) ?_)
      go_simp
      refine ⟨fun k0 hk0 _ h12 => ?_, wpAnyF_done (by kernel_rfl) ?_ _⟩
      · rcases h12 with rfl | rfl
        · exact absurd (show waits _ 9 1 = true by kernel_rfl) (by rw [hk0]; decide)
        · exact absurd (show waits _ 9 3 = true by kernel_rfl) (by rw [hk0]; decide)
      have HB7 := hid (blk_set HBO6.out 3 (.slice va2 (ts.length + 1) vc2))
      have hz7 : (w6.setCell ⟨w2.heap.size, 3, none⟩ (.slice va2 (ts.length + 1) vc2)).heap.size = w6.heap.size := by simp
      have HK7 := hid (Keeps.setCell (fun b => b ≠ w2.heap.size) w6 ⟨w2.heap.size, 3, none⟩ (.slice va2 (ts.length + 1) vc2) (by simp))
      have HL7 := hid (show WkAt xb k' (w6.setCell ⟨w2.heap.size, 3, none⟩ (.slice va2 (ts.length + 1) vc2)) from blk_keeps HL12.out HK7.out (fun e => hob0 e.symm))
      have HBZ7 := hid (blk_keeps HBZ6.out HK7.out hne2)
      have HCW7 := hid (HCW6.out.setCell (p := ⟨w2.heap.size, 3, none⟩) (.inr (show w.heap.size ≤ w2.heap.size by omega)) (.slice va2 (ts.length + 1) vc2))
      have HC77 := hid (HC66.out.setCell (p := ⟨w2.heap.size, 3, none⟩) (.inl (.inr (Nat.le_refl _))) (.slice va2 (ts.length + 1) vc2))
      have HO7 := hid (HO2.out.keeps Tm.rep_lasts HK7.out (fun b hb => by omega) (fun b hb => by have := (HO2.out.lt b hb).1; omega))
      generalize w6.setCell ⟨w2.heap.size, 3, none⟩ (.slice va2 (ts.length + 1) vc2) = w7 at *
      obtain ⟨q0, qf, ql7⟩ := HL7.out.cell
      obtain ⟨z0, z1, z2, z3, zf⟩ := blk4 HBZ7.out
      clear o0 o1 o2 o3 of
      rcases HRES.out with ⟨r1, rfl⟩ | ⟨r1, r2⟩
      · have hres := hid (show flL s.env (k + 1) [t] = none by
          have h9 := flL_none s.env k (x.args.take (j + 1)) (x.args.drop (j + 1)) (by rw [HNX.out, r1])
          rw [List.take_append_drop] at h9
          rw [HR1.out, h9])
        clear r1
        go_wp2_with fail
        refine bodyPost_ret (v := .agg #[.int .i64 0, .int .i64 0, .string ByteArray.empty, .slice none 0 0]) (by simp [results, Tryd.results88, go_sem, hcs, z0, z1, z2, z3, hlw0, hne1, hne2, hne3]; try rfl) rfl ?_
        exact ⟨[.int .i64 0, .int .i64 0, .string ByteArray.empty, .slice none 0 0], tm0, -1, rfl, (by have h0 := HCW7.out; repeat (with_reducible first | exact h0 | refine Ch.alloc ?_ _ | refine Ch.setCell ?_ (.inr (by simp)) _)), tm0_rep _ _, (by have h0 := HL7.out; repeat (with_reducible first | exact h0 | refine blk_alloc ?_ _ | refine wk_put ?_ (by omega))), .inl ⟨hres.out, rfl⟩⟩
      · have HNX2 := hid (show flL s.env k (x.args.take (j + 1)) = some (ts ++ [t'], k'.toNat) by rw [HNX.out, r1])
        have hkm := (flL_le s.env m _ _ _ r1).1
        obtain ⟨k1, rfl⟩ := Int.eq_ofNat_of_zero_le r2
        clear r1 r2
        go_wp2_with fail
        go_roundw
        case rel => exact ⟨j + 1, k1, ts ++ [t'], _, by omega, by go_num, by simp only [Int.toNat_natCast] at hkm; omega, by have := HTL.out; simp; omega, by simpa using HNX2.out, HL7.out, HC77.out, HBZ7.out, HB7.out, HO7.out, by omega⟩
        case measure => simp [intOf]; omega
    · have hje : j = x.args.length := by omega
      have hres := hid (show flL s.env (k + 1) [t] = some ([.mk x.kind x.n x.s ts], m) by
        have := HTK.out
        rw [List.take_of_length_le (by omega)] at this
        rw [HR1.out, this])
      clear hje
      go_wp2_with fail
      refine bodyPost_ret (v := .agg #[.int .i64 x.kind, .int .i64 x.n, .string x.s, .slice va ts.length vc]) (by simp [results, Tryd.results88, go_sem, hcs, z0, z1, z2, z3, o0, o1, o2, o3, hlw0, hne2, hne3]; try rfl) rfl ?_
      refine ⟨[.int .i64 x.kind, .int .i64 x.n, .string x.s, .slice va ts.length vc], .mk x.kind x.n x.s ts, m, rfl, (by have h0 := HCW.out; repeat (with_reducible first | exact h0 | refine Ch.alloc ?_ _ | refine Ch.setCell ?_ (.inr (by simp)) _)), ?_, (by have h0 := HW4.out; repeat (with_reducible first | exact h0 | refine blk_alloc ?_ _ | refine wk_put ?_ (by omega))), .inr ⟨by simpa using hres.out, by omega⟩⟩
      rw [Tm.rep_iff]
      refine ⟨HI3.out.1, HI3.out.2.1, HI3.out.2.2, _, rfl, ?_⟩
      have hsl := HO.out.sl Tm.rep_lasts (A := fun b => w2.heap.size + 1 ≤ b) (by omega) (fun b hb => hb)
      refine SlR.mono Tm.rep_lasts (by omega) (SlR.keeps Tm.rep_lasts hsl ?_) (fun b _ hb => by simp only [New] at *; omega)
      refine Keeps.trans (Keeps.trans (Keeps.trans (Keeps.setCell _ _ _ _ ?_) (Keeps.setCell _ _ _ _ ?_)) (Keeps.setCell _ _ _ _ ?_)) (Keeps.setCell _ _ _ _ ?_) <;> (simp; omega)
theorem sfull_ok (hx : xb ≠ g) (hE : EnvOk N s.env) : ∀ k, k ≤ 200 → SFullOK base P q g mb xb pv tv cv ov s N k := by
  intro k
  induction k using Nat.strongRecOn with
  | _ k ih =>
    intro hk
    cases k with
    | zero => exact sfull_zero hx
    | succ k => exact sfull_succ hx hE k (by omega) fun m hm => ih m (by omega) (by omega)
end
end Go.Proofs.YtlpmfkpefoegeabDoor
