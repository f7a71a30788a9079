/-
  The solver: back.
-/
import Derived.Test.YtlpmfkpefoegeabDoorQSolveK
import Derived.Test.YtlpmfkpefoegeabDoorQSolveC
import Derived.Test.YtlpmfkpefoegeabDoorPProve2
namespace Go.Proofs.YtlpmfkpefoegeabDoor
set_option linter.unusedVariables false
set_option linter.unusedSimpArgs false
open Go.RowKit
def ResR2 (A : Nat → Prop) (w : World) (r : Res) (v : Value) : Prop := match r with
  | .next gl => ∃ x, v = .tuple #[x, .bool true] ∧ GlsR A w gl x
  | _ => ∃ x, v = .tuple #[x, .bool false]
def SBackPost (base : Nat) (P : List Cl) (q g mb : Nat) (pv tv cv ov : Value) (r : Res × Sv) (w : World) (e : Ending) (w' : World) : Prop := ∃ v, e = .returned v ∧
  ∃ tv' cv' ov', SvI base P q g mb g pv tv' cv' ov' r.2 w' ∧ Ch (SM g mb tv cv ov) w w' ∧ (∀ b, ownB tv' = some b → ownB tv = some b ∨ w.heap.size ≤ b) ∧ (∀ b, ownB cv' = some b → ownB cv = some b ∨ w.heap.size ≤ b) ∧ (∀ b, ownB ov' = some b → ownB ov = some b ∨ w.heap.size ≤ b) ∧
    ResR2 (SA g mb g tv' cv' ov') w' r.1 v
def chLen (g : Nat) (w : World) : Nat := match w.cell? ⟨g, 3, none⟩ with
  | some (.slice _ n _) => n
  | _ => 0
theorem chLen_of {base : Nat} {P : List Cl} {q g mb xb : Nat} {pv tv cv ov : Value} {s : Sv} {w : World} (h : SvI base P q g mb xb pv tv cv ov s w) : chLen g w = s.choices.length := by
  obtain ⟨_, _, _, _, ca, cc, _, _, _, _, e, _⟩ := h.vals
  have := (box8 h.box).2.2.2.1
  unfold chLen
  rw [this, e]
theorem OwnR.row {α : Type} {w : World} {base : Nat} {E : TypeId} {size : Nat} {R : (Nat → Prop) → World → α → List Value → Prop} {A : Nat → Prop} {xs : List α} {a : Option Addr} {cap : Nat} (h : OwnR w base E size R A xs (.slice a xs.length cap)) (hs : 0 < size) {i : Nat} (hi : i < xs.length) :
    ∃ b vs, a = some ⟨b, 0, none⟩ ∧ vs.length = size ∧ R (fun b => A b ∧ ownB (.slice a xs.length cap) ≠ some b) w xs[i] vs ∧ (∀ j u, vs[j]? = some u → w.cell? ⟨b, i * size + j, none⟩ = some u) ∧ b < w.heap.size ∧ xs.length ≤ cap ∧ ownB (.slice a xs.length cap) = some b := by
  obtain ⟨vals, hl, ho, he⟩ := h
  have hsz : ∀ (i : Nat) (vs : List Value), vals[i]? = some vs → vs.length = size := fun i vs hv => by
    have hi : i < xs.length := by have := (List.getElem?_eq_some_iff.1 hv).1; omega
    exact (he i _ vs (List.getElem?_eq_getElem hi) hv).1
  have hv := List.getElem?_eq_getElem (l := vals) (i := i) (by omega)
  obtain ⟨h1, h2⟩ := he i _ _ (List.getElem?_eq_getElem hi) hv
  have hcl := @Own.cells w base E size _ xs.length vals.flatten ho
  rcases ho.2 with ⟨h3, a', h4⟩ | ⟨g, c, cur, h4, hc, hb, hgg, hnc, hcm, hcs, htake⟩
  · omega
  · simp only [Value.slice.injEq, true_and] at h4
    obtain ⟨rfl, rfl⟩ := h4
    refine ⟨g, vals[i], rfl, h1, h2, fun j u hj => ?_, blk_lt hgg, hnc, by simp [ownB, Nat.pos_iff_ne_zero.1 hc]⟩
    have hjl : j < size := by have := (List.getElem?_eq_some_iff.1 hj).1; omega
    exact hcl rfl hc _ u (by rw [flatten_get vals hsz i j _ hv hjl]; exact hj)
def SStepZ (base : Nat) (P : List Cl) (q g mb : Nat) (pv tv cv ov : Value) (s' : Sv) (Z : Value → Value → Value → Prop) (w w' : World) : Prop :=
  ∃ tv' cv' ov', SvI base P q g mb g pv tv' cv' ov' s' w' ∧ Ch (SM g mb tv cv ov) w w' ∧ (∀ b, ownB tv' = some b → ownB tv = some b ∨ w.heap.size ≤ b) ∧ (∀ b, ownB cv' = some b → ownB cv = some b ∨ w.heap.size ≤ b) ∧ (∀ b, ownB ov' = some b → ownB ov = some b ∨ w.heap.size ≤ b) ∧ Z tv' cv' ov'
theorem SStepZ.trans {base : Nat} {P : List Cl} {q g mb : Nat} {pv tv cv ov tv' cv' ov' : Value} {s' : Sv} {Z : Value → Value → Value → Prop} {w w' w'' : World} (hch : Ch (SM g mb tv cv ov) w w') (ht : ∀ b, ownB tv' = some b → ownB tv = some b ∨ w.heap.size ≤ b) (hc : ∀ b, ownB cv' = some b → ownB cv = some b ∨ w.heap.size ≤ b) (ho : ∀ b, ownB ov' = some b → ownB ov = some b ∨ w.heap.size ≤ b)
    (h : SStepZ base P q g mb pv tv' cv' ov' s' Z w' w'') : SStepZ base P q g mb pv tv cv ov s' Z w w'' := by
  obtain ⟨t2, c2, o2, h1, h2, h3, h4, h5, h6⟩ := h
  have hs := hch.size
  refine ⟨t2, c2, o2, h1, hch.trans h2 (sm_up ht hc ho), fun b hb => ?_, fun b hb => ?_, fun b hb => ?_, h6⟩
  · exact (h3 b hb).elim (fun e => ht b e) (fun e => .inr (Nat.le_trans hs e))
  · exact (h4 b hb).elim (fun e => hc b e) (fun e => .inr (Nat.le_trans hs e))
  · exact (h5 b hb).elim (fun e => ho b e) (fun e => .inr (Nat.le_trans hs e))
theorem nodup_len : ∀ (N : Nat) (l : List Int), l.Nodup → (∀ x ∈ l, 0 ≤ x ∧ x < (N : Int)) → l.length ≤ N
  | 0, [], _, _ => by simp
  | 0, x :: r, _, h => by have := h x (by simp); omega
  | N + 1, l, hn, h => by
    have h1 := nodup_len N (l.erase (N : Int)) (hn.erase _) (fun x hx => by
      have h3 := h x (List.mem_of_mem_erase hx)
      have h4 : x ≠ (N : Int) := fun e => by subst e; exact hn.not_mem_erase hx
      omega)
    have h2 : l.length ≤ (l.erase (N : Int)).length + 1 := by rw [List.length_erase]; split <;> omega
    omega
theorem EnvOk.len {N : Int} {E : Env} (h : EnvOk N E) : E.length ≤ N.toNat := by
  have := nodup_len N.toNat (E.map (·.1)) h.nodup (fun x hx => by
    obtain ⟨p, hp, rfl⟩ := List.mem_map.1 hx
    have := h.key p hp
    omega)
  simpa using this
section
variable {base : Nat} {P : List Cl} {q g mb : Nat} {pv tv cv ov : Value} {s : Sv} {w : World}
set_option maxRecDepth 100000 in
set_option maxHeartbeats 8000000 in
theorem sback_ok (h : SvI base P q g mb g pv tv cv ov s w) (hok : SvOk P s) (hout : s.out.length + 1 ≤ 20) :
    Calls Tryd.prog 60 #[.pointer (some ⟨g, 0, none⟩)] w (SBackPost base P q g mb pv tv cv ov (backF P s.choices s) w) := by
  have HU := hid h
  have HOK := hid hok
  have HOUT := hid hout
  clear h hok hout
  go_enter Tryd.func60, Tryd.ntmps60
  go_wp2_with fail
  go_loopw [4, 5, 6, 7] (fun _ _ _ _ wr => ∃ (s1 : Sv) (t1 c1 o1 : Value), SvI base P q g mb g pv t1 c1 o1 s1 wr ∧ SvOk P s1 ∧ s1.out = s.out ∧ Ch (SM g mb tv cv ov) w wr ∧ (∀ b, ownB t1 = some b → ownB tv = some b ∨ w.heap.size ≤ b) ∧ (∀ b, ownB c1 = some b → ownB cv = some b ∨ w.heap.size ≤ b) ∧ (∀ b, ownB o1 = some b → ownB ov = some b ∨ w.heap.size ≤ b) ∧ backF P s.choices s = backF P s1.choices s1) (fun _ _ _ _ wr => chLen g wr)
  case atStart => exact ⟨s, tv, cv, ov, HU.out, HOK.out, rfl, Ch.refl _ _, fun b h => .inl h, fun b h => .inl h, fun b h => .inl h, rfl⟩
  case round =>
    obtain ⟨s1, t1, c1, o1, hsv, hok1, hout1, hch, ht1, hc1, ho1, hbk⟩ := hrel
    have HSV := hid hsv
    have HOK1 := hid hok1
    have HO9 := hid hout1
    have HCH := hid hch
    have HT1 := hid ht1
    have HC1 := hid hc1
    have HO1 := hid ho1
    have HBK := hid hbk
    obtain ⟨pa, pc, ta, tc, ca, cc, oa, oc, hpv, rfl, rfl, rfl, -, -, -, -, hcl1, hcl2, -⟩ := hsv.vals
    have HPV := hid hpv
    clear hpv
    obtain ⟨hl1, hl2, hl3⟩ := hsv.lt
    obtain ⟨b0, b1, b2, b3, b4, b5, b6, b7, bf⟩ := box8 hsv.box
    unfold maxLen at hcl2
    clear hsv hok1 hout1 hch ht1 hc1 ho1 hbk
    obtain ⟨ev, chs, vr, fl, ou⟩ := s1
    simp only at b3 b4 b5 hcl1
    cases chs with
    | nil =>
      have hres := hid (show backF P s.choices s = (.off, (⟨ev, [], vr, fl, ou⟩ : Sv).put 2) by rw [HBK.out]; rfl)
      have hsz := hid (show (⟨ev, [], vr, fl, ou⟩ : Sv).out.length + 1 ≤ 20 by have h1 := HO9.out; have h2 := HOUT.out; simp only at h1 ⊢; rw [h1]; exact h2)
      rw [List.length_nil] at b3
      have HEN := hid (send_ok 2 (by unfold I64; omega) HSV.out hsz.out)
      go_wp2_with fail
      refine (HEN.out).mono ?_
      rintro e W9 ⟨rfl, hst⟩
      have HST := hid (SStep.trans HCH.out HT1.out HC1.out HO1.out hst)
      clear hst HEN
      go_wp2_with fail
      go_ret2
      rw [hres.out]
      obtain ⟨t', c', o', z1, z2, z3, z4, z5⟩ := HST.out
      exact ⟨_, rfl, t', c', o', z1, z2, z3, z4, z5, _, rfl⟩
    | cons c cs =>
      have hOR := HSV.out.chc
      simp only [List.reverse_cons] at hOR
      have hOR' : OwnR wr base 137 3 chcR (SA g mb g (.slice ta ev.length tc) (.slice ca (c :: cs).length cc) (.slice oa ou.length oc)) (cs.reverse ++ [c]) (.slice ca (cs.reverse ++ [c]).length cc) := by simpa using hOR
      obtain ⟨cb, vs, rfl, hvl, hcr, hrow, hcbl, hcap, hob⟩ := hOR'.row (by omega) (i := cs.length) (by simp)
      rw [show (cs.reverse ++ [c])[cs.length]'(by simp) = c by rw [List.getElem_append_right (by simp)]; simp] at hcr
      obtain ⟨gv, rfl, hgv⟩ := hcr
      have e0 := hrow 0 _ rfl
      have e1 := hrow 1 _ rfl
      have e2 := hrow 2 _ rfl
      have HGV := hid (hgv.mono (A' := SA g mb g (.slice ta ev.length tc) (.slice (some ⟨cb, 0, none⟩) (c :: cs).length cc) (.slice oa ou.length oc)) fun b _ h => h.1)
      obtain ⟨gp, rfl⟩ := hgv.ptr
      rw [List.length_cons] at b3 hcl1
      have hc0 : (0 : Int) ≤ (cs.length : Int) := Int.natCast_nonneg _
      have hc1' : (cs.length : Int) < ((cs.length + 1 : Nat) : Int) := by omega
      have hcsl := HSV.out.few
      simp only [List.length_cons] at hcsl
      have hc10 : ((cs.length + 1 : Nat) : Int) - 1 = (cs.length : Int) := by omega
      have HC10 := hid hc10
      clear hOR hOR' hvl hrow hgv hc10 hob
      go_wp2_with fail
      refine wp_region_F (F := fun _ w' => Below wr.drew.heap.size wr.drew w') (by kernel_rfl) ?_
      have HF : Below wr.drew.heap.size wr.drew wr.drew := Below.refl _ _
      refine wpAnyF_take (i := 0) (v := ?_) rfl (by kernel_rfl) (by kernel_rfl) (by kernel_rfl) (fun _ _ _ h => h) (Or.inl ⟨by rfl, ?_⟩) HF ?_
      rotate_left
      · (intro w' hw; clear hw; go_simp <;> with_reducible rfl)
      try simp only [Act.put, List.setIfInBounds_toArray, List.set_cons_zero, List.set_cons_succ]
      refine wpAnyF_take (i := 1) (v := ?_) rfl (by kernel_rfl) (by kernel_rfl) (by kernel_rfl) (fun _ _ _ h => h) (Or.inl ⟨by rfl, ?_⟩) HF ?_
      rotate_left
      · (intro w' hw; clear hw; go_simp <;> with_reducible rfl)
      try simp only [Act.put, List.setIfInBounds_toArray, List.set_cons_zero, List.set_cons_succ]
      refine wpAnyF_take (i := 2) (v := ?_) rfl (by kernel_rfl) (by kernel_rfl) (by kernel_rfl) (fun _ _ _ h => h) (Or.inl ⟨by rfl, ?_⟩) HF ?_
      rotate_left
      · (intro w' hw; clear hw; go_simp <;> with_reducible rfl)
      try simp only [Act.put, List.setIfInBounds_toArray, List.set_cons_zero, List.set_cons_succ]
      refine wpAnyF_take (i := 3) (v := ?_) rfl (by kernel_rfl) (by kernel_rfl) (by kernel_rfl) (fun _ _ _ h => h) (Or.inl ⟨by rfl, ?_⟩) HF ?_
      rotate_left
      · (intro w' hw; have f3 := (hw.cell (p := ⟨g, 3, none⟩) (by simp only [World.size_drew]; omega)).trans b3; clear hw; go_simp <;> with_reducible rfl)
      try simp only [Act.put, List.setIfInBounds_toArray, List.set_cons_zero, List.set_cons_succ]
      refine wpAnyF_take (i := 4) (v := ?_) rfl (by kernel_rfl) (by kernel_rfl) (by kernel_rfl) (fun _ _ _ h => h) (Or.inl ⟨by rfl, ?_⟩) HF ?_
      rotate_left
      · (intro w' hw; clear hw; go_simp <;> with_reducible rfl)
      try simp only [Act.put, List.setIfInBounds_toArray, List.set_cons_zero, List.set_cons_succ]
      refine wpAnyF_take (i := 5) (v := ?_) rfl (by kernel_rfl) (by kernel_rfl) (by kernel_rfl) (fun _ _ _ h => h) (Or.inl ⟨by rfl, ?_⟩) HF ?_
      rotate_left
      · (intro w' hw; clear hw; go_simp <;> with_reducible rfl)
      try simp only [Act.put, List.setIfInBounds_toArray, List.set_cons_zero, List.set_cons_succ]
      refine wpAnyF_take (i := 6) (v := ?_) rfl (by kernel_rfl) (by kernel_rfl) (by kernel_rfl) (fun _ _ _ h => h) (Or.inl ⟨by rfl, ?_⟩) HF ?_
      rotate_left
      · (intro w' hw; clear hw; go_simp <;> with_reducible rfl)
      try simp only [Act.put, List.setIfInBounds_toArray, List.set_cons_zero, List.set_cons_succ]
      refine wpAnyF_take (i := 7) (v := ?_) rfl (by kernel_rfl) (by kernel_rfl) (by kernel_rfl) (fun _ _ _ h => h) (Or.inl ⟨by rfl, ?_⟩) HF ?_
      rotate_left
      · (intro w' hw; have f3 := (hw.cell (p := ⟨g, 3, none⟩) (by simp only [World.size_drew]; omega)).trans b3; clear hw; go_simp <;> with_reducible rfl)
      try simp only [Act.put, List.setIfInBounds_toArray, List.set_cons_zero, List.set_cons_succ]
      refine wpAnyF_take (i := 8) (v := ?_) rfl (by kernel_rfl) (by kernel_rfl) (by kernel_rfl) (fun _ _ _ h => h) (Or.inl ⟨by rfl, ?_⟩) HF ?_
      rotate_left
      · (intro w' hw; clear hw; go_simp <;> with_reducible rfl)
      try simp only [Act.put, List.setIfInBounds_toArray, List.set_cons_zero, List.set_cons_succ]
      refine wpAnyF_take (i := 9) (v := .int .i64 (cs.length : Int)) rfl (by kernel_rfl) (by kernel_rfl) (by kernel_rfl) (fun _ _ _ h => h) (Or.inl ⟨by rfl, ?_⟩) HF ?_
      · (intro w' hw; clear hw; go_simp; rw [IntKind.wrap_i64]; omega)
      try simp only [Act.put, List.setIfInBounds_toArray, List.set_cons_zero, List.set_cons_succ]
      refine wpAnyF_take (i := 10) (v := .pointer (some ⟨cb, cs.length * 3, none⟩)) rfl (by kernel_rfl) (by kernel_rfl) (by kernel_rfl) (fun _ _ _ h => h) (Or.inl ⟨by rfl, ?_⟩) HF ?_
      · (intro w' hw; clear hw; go_simp; intro h9; omega)
      try simp only [Act.put, List.setIfInBounds_toArray, List.set_cons_zero, List.set_cons_succ]
      refine wpAnyF_take (i := 11) (v := .agg #[.pointer gp, .int .i64 (c.at_ : Int), .int .i64 (c.trail : Int)]) rfl (by kernel_rfl) (by kernel_rfl) (by kernel_rfl) (fun _ _ _ h => h) (Or.inl ⟨by rfl, ?_⟩) HF ?_
      · (intro w' hw; have f0 := (hw.cell (p := ⟨cb, cs.length * 3, none⟩) (by simp only [World.size_drew]; omega)).trans e0; have f1 := (hw.cell (p := ⟨cb, cs.length * 3 + 1, none⟩) (by simp only [World.size_drew]; omega)).trans e1; have f2 := (hw.cell (p := ⟨cb, cs.length * 3 + 2, none⟩) (by simp only [World.size_drew]; omega)).trans e2; clear hw; go_simp)
      try simp only [Act.put, List.setIfInBounds_toArray, List.set_cons_zero, List.set_cons_succ]
      refine wpAnyF_one (i := 12) (by kernel_rfl) (wpOp_run rfl (by rfl) ?_)
      go_simp
      refine ⟨fun _ _ h => h.alloc (Nat.le_refl _) _, ?_⟩
      refine wpAnyF_one (i := 13) (by kernel_rfl) (wpOp_run rfl (by rfl) ?_)
      go_simp
      refine ⟨fun _ _ _ => (Below.refl _ wr.drew).alloc (Nat.le_refl _) _, ?_⟩
      refine wpAnyF_done (by kernel_rfl) ?_ _
      obtain ⟨W1, hW1⟩ : ∃ W1, W1 = (wr.alloc (.cells #[.pointer gp, .int .i64 (c.at_ : Int), .int .i64 (c.trail : Int)] 137)).drew := ⟨_, rfl⟩
      have HB1 := hid (show Below wr.heap.size wr W1 by rw [hW1]; exact ((Below.refl _ _).alloc (Nat.le_refl _) _).drew)
      have HX1 := hid (show W1.heap[wr.heap.size]? = some (.cells #[.pointer gp, .int .i64 (c.at_ : Int), .int .i64 (c.trail : Int)] 137 (0, 0)) by rw [hW1]; exact blk_new _ _)
      obtain ⟨xb, hxb⟩ : ∃ xb, xb = wr.heap.size := ⟨_, rfl⟩
      rw [← hxb] at HX1
      rw [← hxb, ← hW1]
      have hxw : wr.heap.size ≤ xb := by omega
      have hxg : xb ≠ g := by omega
      have hxg' : g ≠ xb := by omega
      have HSV1 := hid (HSV.out.below HB1.out)
      clear hW1 hxb b0 b1 b2 b3 b4 b5 b6 b7 bf e0 e1 e2 HF
      obtain ⟨b0, b1, b2, b3, b4, b5, b6, b7, bf⟩ := box8 HSV1.out.box
      obtain ⟨x0, x1, x2, xf⟩ := box3 HX1.out
      simp only [List.length_cons] at b3
      have hwr : IntKind.i64.wrap (cs.length : Int) = (cs.length : Int) := by rw [IntKind.wrap_i64]; omega
      have hcc : (cs.length : Int) ≤ (cc : Int) := by omega
      go_wp2_with fail
      go_still_tail 14, (by kernel_rfl)
      change wpList _ _ _ _ _ W1.drew
      have HB2 := hid (show Below wr.heap.size wr W1.drew from HB1.out.drew)
      have HX2 := hid (show W1.drew.heap[xb]? = _ from HX1.out)
      have HSV2 := hid (HSV.out.below HB2.out)
      have hxw2 : xb < W1.drew.heap.size := blk_lt HX2.out
      generalize W1.drew = W2 at *
      clear b0 b1 b2 b3 b4 b5 b6 b7 bf x0 x1 x2 xf hwr
      obtain ⟨b0, b1, b2, b3, b4, b5, b6, b7, bf⟩ := box8 HSV2.out.box
      obtain ⟨x0, x1, x2, xf⟩ := box3 HX2.out
      have hcs := cell_set
      have HNX := hid (show ¬ SM g mb (.slice ta ev.length tc) (.slice (some ⟨cb, 0, none⟩) (c :: cs).length cc) (.slice oa ou.length oc) xb from fun e => by have := (HSV.out.sm_lt xb e).2; omega)
      have HPOP := hid (show SvOk P ⟨ev.take c.trail, cs, vr, fl, ou⟩ from SvOk.pop (s := ⟨ev, c :: cs, vr, fl, ou⟩) HOK1.out)
      have HCK := hid (HOK1.out.chc c (by simp))
      have HCUT := hid (show SStep base P q g mb pv (.slice ta ev.length tc) (.slice (some ⟨cb, 0, none⟩) (c :: cs).length cc) (.slice oa ou.length oc) ⟨ev, cs, vr, fl, ou⟩ W2 (W2.setCell ⟨g, 3, none⟩ (.slice (some ⟨cb, 0, none⟩) cs.length cc)) by
        have h9 := SvI.cutChc (s := ⟨ev, c :: cs, vr, fl, ou⟩) (k := cs.length) HSV2.out (by show cs.length ≤ (c :: cs).length; simp)
        have h10 : (c :: cs).drop ((c :: cs).length - cs.length) = cs := by simp
        simp only [h10] at h9
        exact h9)
      go_wp2_with fail
      generalize hW3 : W2.setCell ⟨g, 3, none⟩ (.slice (some ⟨cb, 0, none⟩) cs.length cc) = W3 at HCUT ⊢
      have HX3 := hid (show W3.heap[xb]? = some (.cells #[.pointer gp, .int .i64 (c.at_ : Int), .int .i64 (c.trail : Int)] 137 (0, 0)) by rw [← hW3]; exact (Below.heap_setCell _ _ _ _ hxg).trans HX2.out)
      obtain ⟨t3, c3, o3, hsv3, hch3, hta3, hca3, hoa3⟩ := HCUT.out
      have HSV3 := hid hsv3
      have hup3 := sm_up (g := g) (mb := mb) hta3 hca3 hoa3
      have HNX3 := hid (show ¬ SM g mb t3 c3 o3 xb from fun e => (hup3 xb e).elim HNX.out (fun e => by omega))
      have HG3 := hid ((HGV.out.keeps (Keeps.of_below HB2.out)).move hch3 hta3 hca3 hoa3)
      have hz3 := hch3.size
      clear hW3 b0 b1 b2 b3 b4 b5 b6 b7 bf x0 x1 x2 xf
      have HUN := hid (sundo_ok c.trail hsv3 (by have := HCK.out.trail; simpa using this) (by simpa using HOK1.out.env.nodup))
      refine (HUN.out).mono ?_
      rintro e W4 ⟨r, rfl, t4, c4, o4, hsv4, hch4, hta4, hca4, hoa4⟩
      have HSV4 := hid (show SvI base P q g mb g _ t4 c4 o4 ⟨ev.take c.trail, cs, vr, fl, ou⟩ W4 from hsv4)
      have HX4 := hid ((hch4.block xb (by omega) HNX3.out).trans HX3.out)
      obtain ⟨x0, x1, x2, xf⟩ := box3 HX4.out
      have HG4 := hid (HG3.out.move hch4 hta4 hca4 hoa4)
      have hz4 := hch4.size
      obtain ⟨g0, rest, hg⟩ : ∃ g0 rest, c.g = g0 :: rest := by
        cases h9 : c.g with
        | nil => exact absurd h9 HCK.out.ne
        | cons a b => exact ⟨a, b, rfl⟩
      have HGEQ := hid hg
      have hgl4 := HG4.out
      have hgo4 := HCK.out.gls
      rw [hg] at hgl4 hgo4
      have HCALL := hid (scall_ok g0 rest (.pointer gp) c.at_ HSV4.out HPOP.out.prog HPOP.out.env (by have := HPOP.out.potV; simp only at this ⊢; omega) hgo4 hgl4 (Nat.le_of_lt HCK.out.lt) (by have := HPOP.out.few; simp only at this ⊢; omega) (by have h8 := HPOP.out.env.len; have := HPOP.out.potV; simp only at this h8 ⊢; omega) (by have h1 := HO9.out; have h2 := HOUT.out; simp only at h1 ⊢; rw [h1]; exact h2))
      have HSTEP := hid (fun (s' : Sv) (w' : World) (Z : Value → Value → Value → Prop) (hh : SStepZ base P q g mb pv t4 c4 o4 s' Z W4 w') =>
        (SStepZ.trans HCH.out HT1.out HC1.out HO1.out (SStepZ.trans (Ch.of_below HB2.out) (fun b h => .inl h) (fun b h => .inl h) (fun b h => .inl h) (SStepZ.trans hch3 hta3 hca3 hoa3 (SStepZ.trans hch4 hta4 hca4 hoa4 hh))) : SStepZ base P q g mb pv tv cv ov s' Z w w'))
      clear hg hgl4 hgo4 hsv3 hch3 hta3 hca3 hoa3 hsv4 hch4 hta4 hca4 hoa4 HUN
      go_wp2_with fail
      refine (HCALL.out).mono ?_
      rintro e W5 ⟨rv, rfl, t5, c5, o5, hsv5, hch5, hta5, hca5, hoa5, hres5⟩
      have HBF := hid (show backF P s.choices s = (match callF P g0 rest (P.length - c.at_) c.at_ ⟨ev.take c.trail, cs, vr, fl, ou⟩ with
        | (.no, s') => backF P cs s'
        | r => r) by
        rw [HBK.out, backF, HGEQ.out]; rfl)
      have HOKP := HPOP.out
      have hno := fun s' => callF_no (P := P) (g := g0) (rest := rest) (P.length - c.at_) c.at_ ⟨ev.take c.trail, cs, vr, fl, ou⟩ s'
      generalize callF P g0 rest (P.length - c.at_) c.at_ ⟨ev.take c.trail, cs, vr, fl, ou⟩ = x at *
      obtain ⟨res, sr⟩ := x
      have HSV5 := hid hsv5
      have HST5 := hid (fun Z (hz : Z t5 c5 o5) => HSTEP.out sr W5 Z ⟨t5, c5, o5, hsv5, hch5, hta5, hca5, hoa5, hz⟩)
      have HNO := hid hno
      clear hsv5 hch5 hta5 hca5 hoa5 hno
      cases res with
      | next gl =>
        obtain ⟨xv, rfl, hgx⟩ := hres5
        obtain ⟨xp, rfl⟩ := hgx.ptr
        have HGX := hid hgx
        clear hgx
        go_wp2_with fail
        go_ret2
        have hb : backF P s.choices s = (.next gl, sr) := HBF.out
        rw [hb]
        obtain ⟨t', c', o', z1, z2, z3, z4, z5, z6⟩ := HST5.out (fun t c o => GlsR (SA g mb g t c o) W5 gl (.pointer xp)) HGX.out
        exact ⟨_, rfl, t', c', o', z1, z2, z3, z4, z5, _, rfl, z6⟩
      | off =>
        obtain ⟨xv, rfl⟩ := hres5
        go_wp2_with fail
        go_ret2
        have hb : backF P s.choices s = (.off, sr) := HBF.out
        rw [hb]
        obtain ⟨t', c', o', z1, z2, z3, z4, z5, -⟩ := HST5.out (fun _ _ _ => True) trivial
        exact ⟨_, rfl, t', c', o', z1, z2, z3, z4, z5, _, rfl⟩
      | no =>
        obtain ⟨xv, rfl⟩ := hres5
        go_wp2_with fail
        go_roundw
        case rel =>
          obtain ⟨t', c', o', z1, z2, z3, z4, z5, -⟩ := HST5.out (fun _ _ _ => True) trivial
          have hsr : sr = ⟨ev.take c.trail, cs, vr, fl, ou⟩ := HNO.out sr rfl
          have hb : backF P s.choices s = backF P cs sr := HBF.out
          refine ⟨sr, t', c', o', z1, by rw [hsr]; exact HPOP.out, by rw [hsr]; exact HO9.out, z2, z3, z4, z5, ?_⟩
          rw [hb, hsr]
        case measure =>
          have hsr : sr = ⟨ev.take c.trail, cs, vr, fl, ou⟩ := HNO.out sr rfl
          have e1 := chLen_of HSV.out
          have e2 := chLen_of HSV5.out
          rw [e1, e2, hsr]
          simp
end
end Go.Proofs.YtlpmfkpefoegeabDoor
