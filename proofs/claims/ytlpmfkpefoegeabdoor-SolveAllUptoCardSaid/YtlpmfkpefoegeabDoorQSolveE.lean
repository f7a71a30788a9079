/-
  The solver: end, undo, like.
-/
import Derived.Test.YtlpmfkpefoegeabDoorQSolveU
namespace Go.Proofs.YtlpmfkpefoegeabDoor
set_option linter.unusedVariables false
set_option linter.unusedSimpArgs false
open Go.RowKit
theorem SlR.dropS {α : Type} {size : Nat} {R : (Nat → Prop) → World → α → List Value → Prop} {A : Nat → Prop} {w : World} {l : List α} {a : Option Addr} {len cap : Nat} (h : SlR size R A w l (.slice a len cap)) {k : Nat} (hk : k ≤ l.length) :
    SlR size R A w (l.drop k) (.slice (if cap = k then a else a.map fun x => x.add (k * size)) (len - k) (cap - k)) := by
  obtain ⟨b, off, hs, he⟩ := h
  refine ⟨b, off + k * size, ?_, fun i x hx => ?_⟩
  · obtain ⟨h1, ⟨h0, a', c', e, hc⟩ | ⟨h0, hA, c', e, hc, hm⟩⟩ := hs
    · simp only [Value.slice.injEq] at e
      obtain ⟨rfl, rfl, rfl⟩ := e
      exact ⟨by simp; omega, .inl ⟨by simp; omega, _, _, by rw [Nat.zero_sub], by omega⟩⟩
    · simp only [Value.slice.injEq] at e
      obtain ⟨rfl, rfl, rfl⟩ := e
      by_cases hkl : k = l.length
      · exact ⟨by simp; omega, .inl ⟨by simp; omega, _, _, by rw [hkl, Nat.sub_self], by omega⟩⟩
      · refine ⟨by simp; omega, .inr ⟨by simp; omega, hA, cap - k, ?_, by simp; omega, by omega⟩⟩
        rw [if_neg (by omega), List.length_drop]
        simp [Addr.add]
  · rw [List.getElem?_drop] at hx
    obtain ⟨vs, h1, h2, h3⟩ := he _ _ hx
    exact ⟨vs, h1, h2, by rw [show off + k * size + i * size = off + (k + i) * size by rw [Nat.add_mul]; omega]; exact h3⟩
theorem slice_from_numsS (W : World) (a : Option Addr) (len cap m : Nat) (hm : m ≤ len) : (Instr.slice 48 (.slice a len cap) (some (.int .i64 (m : Int))) none none).run Tryd.prog W = .ok (.slice (if cap = m then a else a.map fun x => x.add (m * 1)) (len - m) (cap - m)) W := by
  have h0 : (0 : Int) ≤ (m : Int) := Int.natCast_nonneg _
  have h1 : (m : Int) ≤ (len : Int) := by omega
  rw [Go.run_slice_l (P := Tryd.prog) (w := W) (t := 48) (a := a) (len := len) (cap := cap) (ht := by kernel_rfl) (kl := .i64) (l := (m : Int)) h0 h1]
  obtain ⟨⟨i, z, ht, hi, hz, k1, k2, k3⟩, -⟩ := tyNums
  have e : Program.elem Tryd.prog 48 = 3 := by kernel_rfl
  simp [e, sizeOf, typeInfo, hi, k1, sliced]
theorem tyEvs : ElemTy Tryd.prog 55 69 2 32 :=
  .mk' (z := .agg #[.int .i64 0, .slice none 0 0]) Tryd.underlying55 (by kernel_rfl) rfl (by omega) (by omega)
section
variable {base : Nat} {P : List Cl} {q g mb xb : Nat} {pv tv cv ov tv' cv' ov' : Value} {s s' : Sv} {N : Int} {w w' : World}
def SStep (base : Nat) (P : List Cl) (q g mb : Nat) (pv tv cv ov : Value) (s' : Sv) (w w' : World) : Prop :=
  ∃ tv' cv' ov', SvI base P q g mb g pv tv' cv' ov' s' w' ∧ Ch (SM g mb tv cv ov) w w' ∧ (∀ b, ownB tv' = some b → ownB tv = some b ∨ w.heap.size ≤ b) ∧ (∀ b, ownB cv' = some b → ownB cv = some b ∨ w.heap.size ≤ b) ∧ (∀ b, ownB ov' = some b → ownB ov = some b ∨ w.heap.size ≤ b)
theorem SStep.refl (h : SvI base P q g mb g pv tv cv ov s w) : SStep base P q g mb pv tv cv ov s w w := ⟨tv, cv, ov, h, Ch.refl _ _, fun b h => .inl h, fun b h => .inl h, fun b h => .inl h⟩
theorem SStep.of_below (h : SvI base P q g mb g pv tv cv ov s w') (hb : Below w.heap.size w w') : SStep base P q g mb pv tv cv ov s w w' := ⟨tv, cv, ov, h, Ch.of_below hb, fun b h => .inl h, fun b h => .inl h, fun b h => .inl h⟩
theorem sm_up (ht : ∀ b, ownB tv' = some b → ownB tv = some b ∨ w.heap.size ≤ b) (hc : ∀ b, ownB cv' = some b → ownB cv = some b ∨ w.heap.size ≤ b) (ho : ∀ b, ownB ov' = some b → ownB ov = some b ∨ w.heap.size ≤ b) : ∀ b, SM g mb tv' cv' ov' b → SM g mb tv cv ov b ∨ w.heap.size ≤ b := by
  rintro b (e | e | e | e | e)
  · exact .inl (.inl e)
  · exact .inl (.inr (.inl e))
  · exact (ht b e).imp (fun h => .inr (.inr (.inl h))) id
  · exact (hc b e).imp (fun h => .inr (.inr (.inr (.inl h)))) id
  · exact (ho b e).imp (fun h => .inr (.inr (.inr (.inr h)))) id
theorem SStep.trans {w'' : World} (hch : Ch (SM g mb tv cv ov) w w') (ht : ∀ b, ownB tv' = some b → ownB tv = some b ∨ w.heap.size ≤ b) (hc : ∀ b, ownB cv' = some b → ownB cv = some b ∨ w.heap.size ≤ b) (ho : ∀ b, ownB ov' = some b → ownB ov = some b ∨ w.heap.size ≤ b)
    (h : SStep base P q g mb pv tv' cv' ov' s' w' w'') : SStep base P q g mb pv tv cv ov s' w w'' := by
  obtain ⟨t2, c2, o2, h1, h2, h3, h4, h5⟩ := h
  have hs := hch.size
  refine ⟨t2, c2, o2, h1, hch.trans h2 (sm_up ht hc ho), fun b hb => ?_, fun b hb => ?_, fun b hb => ?_⟩
  · exact (h3 b hb).elim (fun e => ht b e) (fun e => .inr (Nat.le_trans hs e))
  · exact (h4 b hb).elim (fun e => hc b e) (fun e => .inr (Nat.le_trans hs e))
  · exact (h5 b hb).elim (fun e => ho b e) (fun e => .inr (Nat.le_trans hs e))
theorem sa_midg (hc : Ch (SM g mb tv cv ov) w w') (ht : ∀ b, ownB tv' = some b → ownB tv = some b ∨ w.heap.size ≤ b) (hcv : ∀ b, ownB cv' = some b → ownB cv = some b ∨ w.heap.size ≤ b) (hov : ∀ b, ownB ov' = some b → ownB ov = some b ∨ w.heap.size ≤ b) :
    Keeps (fun b => SA g mb g tv cv ov b ∧ b < w.heap.size) w w' ∧ ∀ b, (SA g mb g tv cv ov b ∧ b < w.heap.size) → SA g mb g tv' cv' ov' b := sa_mid (xb := g) (hc.mono fun b _ h => .inl h) ht hcv hov
theorem GlsR.move {l : List Gl} {v : Value} (h : GlsR (SA g mb g tv cv ov) w l v) (hc : Ch (SM g mb tv cv ov) w w') (ht : ∀ b, ownB tv' = some b → ownB tv = some b ∨ w.heap.size ≤ b) (hcv : ∀ b, ownB cv' = some b → ownB cv = some b ∨ w.heap.size ≤ b) (hov : ∀ b, ownB ov' = some b → ownB ov = some b ∨ w.heap.size ≤ b) : GlsR (SA g mb g tv' cv' ov') w' l v := by
  obtain ⟨h1, h2⟩ := sa_midg hc ht hcv hov
  exact ((h.mono (A' := fun b => SA g mb g tv cv ov b ∧ b < w.heap.size) fun b hb hA => ⟨hA, hb⟩).keeps h1).mono fun b _ hb => h2 b hb
theorem SvI.tell {e : Ev} {ov2 : Value} {w2 : World} {cells : Array Value} (h : SvI base P q g mb g pv tv cv ov s w) (hsz : s.out.length + 1 ≤ 20)
    (hown : OwnR w2 base 69 2 evR (SA g mb g tv cv ov) (s.out ++ [e]) ov2) (hg : Grew (w.alloc (.cells cells 69)) w2 ov ov2) :
    SStep base P q g mb pv tv cv ov { s with out := s.out ++ [e] } w (w2.setCell ⟨g, 6, none⟩ ov2) := by
  have hap := h.apart
  have hlt := h.lt
  have hog : ∀ b, ownB ov2 = some b → ownB ov = some b ∨ w.heap.size ≤ b := fun b hb => by
    rcases hg.block with e | e
    · exact .inl (e ▸ hb)
    · have := e b hb; simp only [World.size_alloc] at this; exact .inr (by omega)
  have hch0 : Ch (fun b => b = g ∨ ownB ov = some b) w (w2.setCell ⟨g, 6, none⟩ ov2) :=
    (hg.ch ((Ch.refl _ _).alloc _) (fun b hb => .inl (.inr hb))).setCell (p := ⟨g, 6, none⟩) (.inl (.inl rfl)) _
  have hch : Ch (SM g mb tv cv ov) w (w2.setCell ⟨g, 6, none⟩ ov2) := hch0.mono fun b _ hb => hb.elim .inl fun e => .inr (.inr (.inr (.inr e)))
  have hmid := sa_midg (tv' := tv) (cv' := cv) (ov' := ov2) hch (fun b h => .inl h) (fun b h => .inl h) hog
  have hlb := h.sm_lt
  have hB2 : w2.heap[g]? = _ := (hg.grown.block g (by simp; omega) (fun e => hap.og e.symm)).trans (blk_alloc h.box _)
  refine ⟨tv, cv, ov2, ?_, hch, fun b h => .inl h, fun b h => .inl h, hog⟩
  obtain ⟨h1, h2, h3, h4, h5, h6, h7, h8, h8', h8'', h9, h10, h11, h12, h13, h14, h15, h16⟩ := h
  have hk0 : Keeps (fun b => ¬ (b = g ∨ ownB ov = some b)) w (w2.setCell ⟨g, 6, none⟩ ov2) := hch0.keeps fun b _ hb => hb
  refine ⟨(blk_set hB2 6 _).trans rfl, ?_, ?_, ?_, ?_, ?_, h7, h8, h8', Nat.lt_of_lt_of_le h8'' hch.size, .inl rfl, h10, h11, h12, h13, h14, h15, by simpa using hsz⟩
  · exact SlR.keeps Cl.rep_lasts h2 (hch.keeps fun b hb hA e => by have := (hlb b e).1; omega)
  · obtain ⟨L, hm, hL⟩ := h3
    refine ⟨L, hm.keeps hk0 (fun e => e.elim (fun e => ?_) hap.om), ((hL.mono (A' := fun b => SA g mb g tv cv ov b ∧ b < w.heap.size) fun b hb hA => ⟨hA, hb⟩).keeps hmid.1).mono fun b _ hb => hmid.2 b hb⟩
    obtain ⟨es, clock, hm1, _⟩ := hm
    rw [e, h1] at hm1; simp at hm1
  · exact ⟨Own.keeps h4.1 hk0 (fun b hb e => e.elim (fun e => hap.tg (e ▸ hb)) (fun e => hap.to b hb e)), h4.2⟩
  · refine ((h5.mono (A' := fun b => SA g mb g tv cv ov b ∧ b < w.heap.size) chcR_lasts fun b hb hA => ⟨hA, hb⟩).keeps chcR_lasts hk0 (fun b hb e => hb.1.1 (e.elim .inl fun e => .inr (.inr (.inr (.inr e))))) (fun b hb e => e.elim (fun e => hap.cg (e ▸ hb)) (fun e => hap.co b hb e))).mono chcR_lasts fun b _ hb => hmid.2 b hb
  · have hng : ownB ov2 ≠ some g := fun e => by
      rcases hog g e with e | e
      · exact hap.og e
      · omega
    refine (hown.keeps (B := fun b => b ≠ g) evR_lasts (Keeps.setCell _ _ _ _ (fun h => h rfl)) (fun b hb => hb.2) (fun b hb e => hng (e ▸ hb))).mono' evR_lasts fun b hb hA hn => ⟨fun hs => ?_, hA.2⟩
    rcases hs with e | e | e | e | e
    · exact hA.1 (.inl e)
    · exact hA.1 (.inr (.inl e))
    · exact hA.1 (.inr (.inr (.inl e)))
    · exact hA.1 (.inr (.inr (.inr (.inl e))))
    · exact hn e
def SEndPost (base : Nat) (P : List Cl) (q g mb : Nat) (pv tv cv ov : Value) (s' : Sv) (w : World) (e : Ending) (w' : World) : Prop := e = .returned (.bool false) ∧ SStep base P q g mb pv tv cv ov s' w w'
set_option maxHeartbeats 2000000 in
theorem send_ok (kind : Int) (hk : I64 kind) (h : SvI base P q g mb g pv tv cv ov s w) (hsz : s.out.length + 1 ≤ 20) :
    Calls Tryd.prog 89 #[.pointer (some ⟨g, 0, none⟩), .int .i64 kind] w (SEndPost base P q g mb pv tv cv ov (s.put kind) w) := by
  have HU := hid h
  have HK := hid hk
  have HSZ := hid hsz
  have HAP := hid h.apart
  obtain ⟨pa, pc, ta, tc, ca, cc, oa, oc, rfl, rfl, rfl, rfl, -⟩ := h.vals
  obtain ⟨hl1, hl2, hl3⟩ := h.lt
  obtain ⟨b0, b1, b2, b3, b4, b5, b6, b7, bf⟩ := box8 h.box
  have hcs := cell_set
  clear h hk
  go_enter Tryd.func89, Tryd.ntmps89
  go_wp2_with (at_builtin; go_must (refine wpList_app1 rfl (.tmp 9) (.tmp 12) 55 rfl base 69 2 32 tyEvs evR_lasts (A := SA g mb g (.slice ta s.env.length tc) (.slice ca s.choices.length cc) (.slice oa s.out.length oc)) (.slice oa s.out.length oc) s.out rfl HU.out.out ⟨kind, []⟩ [.int .i64 kind, .slice none 0 0] (by rfl) rfl ⟨_, rfl, SlR.nil .., HK.out⟩ ⟨by omega, by omega⟩ ?_); go_must (intro v2 w2 hown hgrew; have hB2 := (hgrew.grown.block g (by simp; omega) (fun e => HAP.out.og e.symm)).trans (blk_alloc HU.out.box _); obtain ⟨va2, vc2, hv2, hvl2, hvm2⟩ := OwnR.val' hown; rw [show (s.out ++ [(⟨kind, []⟩ : Ev)]).length = s.out.length + 1 by simp] at hv2; subst hv2; have HO2 := hid hown; have HG2 := hid hgrew; obtain ⟨k0, k1, k2, k3, k4, k5, k6, k7, kf⟩ := box8 hB2; clear hown hgrew hB2))
  go_ret
  exact ⟨rfl, HU.out.tell HSZ.out HO2.out HG2.out⟩
def SLikePost (w : World) (a b : Tm) (e : Ending) (w' : World) : Prop := ∃ t, e = .returned (.bool t) ∧ Below w.heap.size w w' ∧ (t = true ↔ likeF a b)
set_option maxHeartbeats 2000000 in
theorem slike_ok (a b : Tm) (A A' : Nat → Prop) (w : World) (us vs : List Value) (ha : Tm.rep A w a us) (hb : Tm.rep A' w b vs) :
    Calls Tryd.prog 93 #[.agg us.toArray, .agg vs.toArray] w (SLikePost w a b) := by
  obtain ⟨aa, aca, rfl, -⟩ := Tm.rep4 ha
  obtain ⟨ba, bca, rfl, -⟩ := Tm.rep4 hb
  have hB := hid (((Below.refl _ w).alloc (Nat.le_refl _) (.cells #[.int .i64 a.kind, .int .i64 a.n, .string a.s, .slice aa a.args.length aca] 31)).alloc (by simp) (.cells #[.int .i64 b.kind, .int .i64 b.n, .string b.s, .slice ba b.args.length bca] 31))
  have hd := Classical.em (likeF a b)
  by_cases e1 : a.s = b.s
  · by_cases e2 : a.args.length = b.args.length
    · have hL := hid (show likeF a b from ⟨e1, e2⟩)
      rw [← e1, ← e2] at hB ⊢
      clear ha hb e1 e2 hd
      go_enter Tryd.func93, Tryd.ntmps93
      go_wp2_with fail
      go_ret
      exact ⟨true, rfl, hB.out, by simp [hL.out]⟩
    · have hL := hid (show ¬ likeF a b from fun h => e2 h.2)
      have e2' : ((a.args.length : Int) == (b.args.length : Int)) = false := by simp; omega
      rw [← e1] at hB ⊢
      clear ha hb e1 e2 hd
      go_enter Tryd.func93, Tryd.ntmps93
      go_wp2_with fail
      go_ret
      exact ⟨false, rfl, hB.out, by simp [hL.out]⟩
  · have hL := hid (show ¬ likeF a b from fun h => e1 h.1)
    have e1' := toList_neS e1
    clear ha hb e1 hd
    go_enter Tryd.func93, Tryd.ntmps93
    go_wp2_with fail
    go_ret
    exact ⟨false, rfl, hB.out, by simp [hL.out]⟩
end
end Go.Proofs.YtlpmfkpefoegeabDoor
