/-
  The solver: bind.
-/
import Derived.Test.YtlpmfkpefoegeabDoorQRead
import Derived.StillTailTactics
namespace Go.Proofs.YtlpmfkpefoegeabDoor
set_option linter.unusedVariables false
set_option linter.unusedSimpArgs false
open Go.RowKit
section
variable {base : Nat} {P : List Cl} {q g mb xb : Nat} {pv tv cv ov tv' cv' ov' : Value} {s : Sv} {N : Int} {w w' : World}
theorem sa_mid (hc : Ch (fun b => SM g mb tv cv ov b ∨ b = xb) w w') (ht : ∀ b, ownB tv' = some b → ownB tv = some b ∨ w.heap.size ≤ b) (hcv : ∀ b, ownB cv' = some b → ownB cv = some b ∨ w.heap.size ≤ b) (hov : ∀ b, ownB ov' = some b → ownB ov = some b ∨ w.heap.size ≤ b) :
    Keeps (fun b => SA g mb xb tv cv ov b ∧ b < w.heap.size) w w' ∧ ∀ b, (SA g mb xb tv cv ov b ∧ b < w.heap.size) → SA g mb xb tv' cv' ov' b := by
  refine ⟨hc.keeps fun b _ hb e => e.elim hb.1.1 hb.1.2, fun b hb => ⟨fun hs => ?_, hb.1.2⟩⟩
  rcases hs with e | e | e | e | e
  · exact hb.1.1 (.inl e)
  · exact hb.1.1 (.inr (.inl e))
  · rcases ht b e with h | h
    · exact hb.1.1 (.inr (.inr (.inl h)))
    · have := hb.2; omega
  · rcases hcv b e with h | h
    · exact hb.1.1 (.inr (.inr (.inr (.inl h))))
    · have := hb.2; omega
  · rcases hov b e with h | h
    · exact hb.1.1 (.inr (.inr (.inr (.inr h))))
    · have := hb.2; omega
theorem sa_move {α : Type} {R : (Nat → Prop) → World → α → List Value → Prop} {x : α} {vs : List Value} (hR : Lasts R) (h : R (SA g mb xb tv cv ov) w x vs) (hc : Ch (fun b => SM g mb tv cv ov b ∨ b = xb) w w')
    (ht : ∀ b, ownB tv' = some b → ownB tv = some b ∨ w.heap.size ≤ b) (hcv : ∀ b, ownB cv' = some b → ownB cv = some b ∨ w.heap.size ≤ b) (hov : ∀ b, ownB ov' = some b → ownB ov = some b ∨ w.heap.size ≤ b) : R (SA g mb xb tv' cv' ov') w' x vs := by
  obtain ⟨h1, h2⟩ := sa_mid hc ht hcv hov
  exact hR.2.1 _ _ _ _ _ (hR.1 _ _ _ _ _ (hR.2.1 _ (fun b => SA g mb xb tv cv ov b ∧ b < w.heap.size) _ _ _ h fun b hb hA => ⟨hA, hb⟩) h1) fun b _ hb => h2 b hb
theorem own_ty {E : TypeId} {size n : Nat} {v : Value} {xs : List Value} {k : Nat} (h : Own w base E size v n xs) (hk : ownB v = some k) : ∃ c, w.heap[k]? = some (.cells c E (0, 0)) := by
  rcases h.2 with ⟨_, a, rfl⟩ | ⟨g, cap, cur, rfl, hc, hb, hg, _⟩
  · cases a <;> simp [ownB] at hk
  · simp only [ownB, Nat.pos_iff_ne_zero.1 hc, if_false, Option.some.injEq] at hk
    subst hk
    exact ⟨cur, hg⟩
theorem OwnR.ty {α : Type} {E : TypeId} {size : Nat} {R : (Nat → Prop) → World → α → List Value → Prop} {A : Nat → Prop} {xs : List α} {v : Value} {k : Nat} (h : OwnR w base E size R A xs v) (hk : ownB v = some k) : ∃ c, w.heap[k]? = some (.cells c E (0, 0)) := by
  obtain ⟨vals, _, ho, _⟩ := h
  exact own_ty ho hk
theorem blk_ty {E E' : TypeId} {c c' : Array Value} {k : Nat} (h : w.heap[k]? = some (.cells c E (0, 0))) (h' : w.heap[k]? = some (.cells c' E' (0, 0))) : E = E' := by
  rw [h] at h'
  simp only [Option.some.injEq, Obj.cells.injEq] at h'
  exact h'.2.1
structure Apart (g mb : Nat) (tv cv ov : Value) : Prop where
  tg : ownB tv ≠ some g
  tm : ownB tv ≠ some mb
  cg : ownB cv ≠ some g
  cm : ownB cv ≠ some mb
  og : ownB ov ≠ some g
  om : ownB ov ≠ some mb
  tc : ∀ b, ownB tv = some b → ownB cv ≠ some b
  to : ∀ b, ownB tv = some b → ownB ov ≠ some b
  co : ∀ b, ownB cv = some b → ownB ov ≠ some b
theorem SvI.apart (h : SvI base P q g mb xb pv tv cv ov s w) : Apart g mb tv cv ov := by
  obtain ⟨L, ⟨es, clock, hm, _⟩, _⟩ := h.env
  have nm : ∀ {E : TypeId} {c : Array Value}, w.heap[mb]? = some (.cells c E (0, 0)) → False := fun h => by rw [hm] at h; simp at h
  refine ⟨fun e => ?_, fun e => ?_, fun e => ?_, fun e => ?_, fun e => ?_, fun e => ?_, fun b e e' => ?_, fun b e e' => ?_, fun b e e' => ?_⟩
  · obtain ⟨c, hc⟩ := own_ty h.trail.1 e; exact absurd (blk_ty hc h.box) (by decide)
  · obtain ⟨c, hc⟩ := own_ty h.trail.1 e; exact nm hc
  · obtain ⟨c, hc⟩ := h.chc.ty e; exact absurd (blk_ty hc h.box) (by decide)
  · obtain ⟨c, hc⟩ := h.chc.ty e; exact nm hc
  · obtain ⟨c, hc⟩ := h.out.ty e; exact absurd (blk_ty hc h.box) (by decide)
  · obtain ⟨c, hc⟩ := h.out.ty e; exact nm hc
  · obtain ⟨c, hc⟩ := own_ty h.trail.1 e; obtain ⟨c', hc'⟩ := h.chc.ty e'; exact absurd (blk_ty hc hc') (by decide)
  · obtain ⟨c, hc⟩ := own_ty h.trail.1 e; obtain ⟨c', hc'⟩ := h.out.ty e'; exact absurd (blk_ty hc hc') (by decide)
  · obtain ⟨c, hc⟩ := h.chc.ty e; obtain ⟨c', hc'⟩ := h.out.ty e'; exact absurd (blk_ty hc hc') (by decide)
def SBind (base : Nat) (P : List Cl) (q g mb xb : Nat) (pv tv cv ov : Value) (s' : Sv) (w w' : World) : Prop :=
  ∃ tv', SvI base P q g mb xb pv tv' cv ov s' w' ∧ Ch (fun b => SM g mb tv cv ov b ∨ b = xb) w w' ∧ (∀ b, ownB tv' = some b → ownB tv = some b ∨ w.heap.size ≤ b)
theorem SBind.refl (h : SvI base P q g mb xb pv tv cv ov s w) : SBind base P q g mb xb pv tv cv ov s w w := ⟨tv, h, Ch.refl _ _, fun b h => .inl h⟩
theorem SBind.of_ch (h : SvI base P q g mb xb pv tv cv ov s w') (hc : Ch (fun b => b = xb) w w') : SBind base P q g mb xb pv tv cv ov s w w' := ⟨tv, h, hc.mono fun x _ e => .inr e, fun b h => .inl h⟩
theorem SBind.trans {s' : Sv} {w'' : World} (hc : Ch (fun b => SM g mb tv cv ov b ∨ b = xb) w w') (ht : ∀ b, ownB tv' = some b → ownB tv = some b ∨ w.heap.size ≤ b) (h : SBind base P q g mb xb pv tv' cv ov s' w' w'') : SBind base P q g mb xb pv tv cv ov s' w w'' := by
  obtain ⟨tv2, h1, h2, h3⟩ := h
  refine ⟨tv2, h1, hc.trans h2 fun x hx => ?_, fun b hb => ?_⟩
  · rcases hx with (hx | hx | hx | hx | hx) | hx
    · exact .inl (.inl (.inl hx))
    · exact .inl (.inl (.inr (.inl hx)))
    · rcases ht x hx with h | h
      · exact .inl (.inl (.inr (.inr (.inl h))))
      · exact .inr h
    · exact .inl (.inl (.inr (.inr (.inr (.inl hx)))))
    · exact .inl (.inl (.inr (.inr (.inr (.inr hx)))))
    · exact .inl (.inr hx)
  · rcases h3 b hb with h4 | h4
    · exact ht b h4
    · exact .inr (Nat.le_trans hc.size h4)
def SBindPost (base : Nat) (P : List Cl) (q g mb xb : Nat) (pv tv cv ov : Value) (s' : Sv) (w : World) (e : Ending) (w' : World) : Prop := ∃ r, e = .returned r ∧ SBind base P q g mb xb pv tv cv ov s' w w' ∧ (xb ≠ g → w'.heap[xb]? = w.heap[xb]?)
set_option maxRecDepth 100000 in
set_option maxHeartbeats 4000000 in
theorem sbind_ok (v : Int) (hv : I64 v) (t : Tm) (vs : List Value) (h : SvI base P q g mb xb pv tv cv ov s w) (hfree : eget s.env v = none) (hlen : s.env.length + 1 ≤ 1000000) (ht : Tm.rep (SA g mb xb tv cv ov) w t vs) :
    Calls Tryd.prog 143 #[.pointer (some ⟨g, 0, none⟩), .int .i64 v, .agg vs.toArray] w (SBindPost base P q g mb xb pv tv cv ov { s with env := s.env ++ [(v, t)] } w) := by
  have HU := hid h
  have HV := hid hv
  have HT := hid ht
  have HLEN := hid hlen
  have HAP := hid h.apart
  have hgm := h.mb_ne
  obtain ⟨a, cap, rfl, -⟩ := Tm.rep4 ht
  obtain ⟨pa, pc, ta, tc, ca, cc, oa, oc, rfl, rfl, rfl, rfl, -⟩ := h.vals
  obtain ⟨hl1, hl2, hl3⟩ := h.lt
  obtain ⟨b0, b1, b2, b3, b4, b5, b6, b7, bf⟩ := box8 h.box
  obtain ⟨L, hM, hL⟩ := h.env
  have hfree' : mget L v = none := by
    rcases hL.get v with ⟨_, e⟩ | ⟨t', _, e, _⟩
    · exact e
    · rw [hfree] at e; cases e
  have HM := hid hM
  have HLL := hid hL
  have HFR := hid hfree'
  have hcs := cell_set
  clear h hv ht hM hL hfree hfree' hlen
  go_enter Tryd.func143, Tryd.ntmps143
  go_wp2_with fail
  obtain ⟨W, hW⟩ : ∃ W, W = w.alloc (.cells #[.int .i64 t.kind, .int .i64 t.n, .string t.s, .slice a t.args.length cap] 31) := ⟨_, rfl⟩
  have HX := hid (show W.heap[w.heap.size]? = some (.cells #[.int .i64 t.kind, .int .i64 t.n, .string t.s, .slice a t.args.length cap] 31 (0, 0)) by rw [hW]; exact blk_new _ _)
  have HBW := hid (show Below w.heap.size w W by rw [hW]; exact (Below.refl _ _).alloc (Nat.le_refl _) _)
  have hWs : W.heap.size = w.heap.size + 1 := by rw [hW]; simp
  have hWl : w.heap.size < W.heap.size := by omega
  have hWg : g < W.heap.size := by omega
  have HKW := hid (show Keeps (fun _ => True) w W by rw [hW]; exact Keeps.alloc _ _ _)
  have HUW := hid (HU.out.below HBW.out)
  rw [← hW]
  clear hW hWs b0 b1 b2 b3 b4 b5 b6 b7 bf
  obtain ⟨b0, b1, b2, b3, b4, b5, b6, b7, bf⟩ := box8 HUW.out.box
  obtain ⟨x0, x1, x2, x3, xf⟩ := blk4 HX.out
  obtain ⟨W1, hput, hm1, hch1, hsz1⟩ := run_mput_new tyEnv (HM.out.keeps (HKW.out.trans (Keeps.drew _ _)) trivial) HFR.out (.agg #[.int .i64 t.kind, .int .i64 t.n, .string t.s, .slice a t.args.length cap])
  have HPUT := hid hput
  have HM1 := hid hm1
  have HCH1 := hid (show Ch (fun b => b = mb) W W1 from ((Ch.refl _ W).drew).trans hch1 (fun _ h => .inl h))
  simp only [World.size_drew] at hsz1
  have hs1 : W.heap.size ≤ W1.heap.size := by omega
  clear hput hm1 hch1 hsz1
  go_still_tail 6, (by kernel_rfl)
  change wpList _ _ _ _ _ W.drew
  have hput := HPUT.out
  -- behind the map's store
  have HX1 := hid ((HCH1.out.block g hWg (fun e => hgm e.symm)).trans HUW.out.box)
  have HT1 := hid (HUW.out.trail.kept (w' := W1) fun b hb => HCH1.out.block b (HUW.out.trail.lt b hb).2 (fun e => HAP.out.tm (hb.trans (congrArg some e))))
  obtain ⟨d0, d1, d2, d3, d4, d5, d6, d7, df⟩ := box8 HX1.out
  have HB1l := hid (HUW.out.trail.lt)
  have hg1 : g < W1.heap.size := by omega
  go_wp2_with (at_builtin; go_must (refine wpList_app1 rfl (.tmp 16) (.tmp 18) 48 rfl base 3 1 8 tyNums numR_lasts (A := fun _ => True) (.slice ta s.env.length tc) (s.env.map (·.1)) rfl (OwnF.ownR numV_len HT1.out _) v [.int .i64 v] (by rfl) rfl ⟨HV.out, rfl⟩ ⟨by have := HLEN.out; simp; omega, by omega⟩ ?_); go_must (intro v2 w2 hown hgrew; obtain ⟨va2, vc2, hv2, hvl2, hvm2⟩ := OwnR.val' hown; rw [show (s.env.map (·.1) ++ [v]).length = s.env.length + 1 by simp] at hv2; subst hv2; have HO2 := hid (OwnF.of_ownR hown); have HG2 := hid hgrew; have hz2 := hgrew.size; simp only [World.size_alloc] at hz2; have hB2 := (hgrew.grown.block g (by simp; omega) (fun e => HAP.out.tg e.symm)).trans (blk_alloc HX1.out _); have HB2 := hid hB2; obtain ⟨k0, k1, k2, k3, k4, k5, k6, k7, kf⟩ := box8 hB2; clear hown hgrew hB2))
  refine bodyPost_end (v := .tuple #[]) (by simp [results, Tryd.results143, go_sem]) rfl ?_
  have ho2 := HO2.out
  have hng : ownB (.slice va2 (s.env.length + 1) vc2) ≠ some g := by
    intro e
    obtain ⟨c, hc⟩ := own_ty ho2.1 e
    exact absurd (blk_ty hc HB2.out) (by decide)
  have htb : ∀ b, ownB (.slice va2 (s.env.length + 1) vc2) = some b → ownB (.slice ta s.env.length tc) = some b ∨ w.heap.size ≤ b := by
    intro b hb
    rcases HG2.out.block with h9 | h9
    · exact .inl (h9.symm.trans hb)
    · have := h9 b hb
      simp only [World.size_alloc] at this
      exact .inr (by omega)
  have hch0 : Ch (fun b => b = g ∨ b = mb ∨ ownB (.slice ta s.env.length tc) = some b) w (w2.setCell ⟨g, 2, none⟩ (.slice va2 (s.env.length + 1) vc2)) := by
    refine Ch.setCell (p := ⟨g, 2, none⟩) ?_ (.inl (.inl rfl)) _
    refine HG2.out.ch (Ch.alloc ?_ _) fun b hb => .inl (.inr (.inr hb))
    exact (Ch.of_below (M := fun b => b = g ∨ b = mb ∨ ownB (.slice ta s.env.length tc) = some b) HBW.out).trans HCH1.out (fun b hb => .inl (.inr (.inl hb)))
  have hch : Ch (fun b => SM g mb (.slice ta s.env.length tc) (.slice ca s.choices.length cc) (.slice oa s.out.length oc) b ∨ b = xb) w (w2.setCell ⟨g, 2, none⟩ (.slice va2 (s.env.length + 1) vc2)) :=
    hch0.mono fun b _ hb => .inl (hb.elim .inl fun e => e.elim (fun e => .inr (.inl e)) fun e => .inr (.inr (.inl e)))
  have hmid := sa_mid (tv' := .slice va2 (s.env.length + 1) vc2) (cv' := .slice ca s.choices.length cc) (ov' := .slice oa s.out.length oc) hch htb (fun b h => .inl h) (fun b h => .inl h)
  have hlb := HU.out.sm_lt
  have hap := HAP.out
  refine ⟨_, rfl, ⟨.slice va2 (s.env.length + 1) vc2, ?_, hch, htb⟩, fun hxg => hch0.block xb HU.out.bxl fun e => ?_⟩
  rotate_left
  · rcases HU.out.nx with h | h
    · exact hxg h
    · exact h (e.elim .inl fun e => e.elim (fun e => .inr (.inl e)) fun e => .inr (.inr (.inl e)))
  obtain ⟨h1, h2, h3, h4, h5, h6, h7, h8, h8', h8'', h9, h10, h11, h12, h13, h14, h15, h16⟩ := HU.out
  refine ⟨(blk_set HB2.out 2 _).trans rfl, ?_, ?_, ?_, ?_, ?_, h7, h8, h8', Nat.lt_of_lt_of_le h8'' hch.size, ?_, h10, h11, h12, h13, ?_, h15, h16⟩
  · exact SlR.keeps Cl.rep_lasts h2 (hch.keeps fun b hb hA e => by
      rcases e with e | e
      · have := (hlb b e).1; omega
      · omega)
  · refine ⟨L ++ [(v, .agg #[.int .i64 t.kind, .int .i64 t.n, .string t.s, .slice a t.args.length cap])], ?_, ?_⟩
    · refine (((HM1.out.keeps (Keeps.alloc (fun _ => True) _ _) trivial).keeps (HG2.out.keeps (A := fun b => ownB (.slice ta s.env.length tc) ≠ some b) fun _ h => h) hap.tm).keeps (Keeps.setCell (fun b => b ≠ g) _ _ _ (fun h => h rfl)) hgm)
    · exact EnvL.append (((HLL.out.mono (A' := fun b => SA g mb xb (.slice ta s.env.length tc) (.slice ca s.choices.length cc) (.slice oa s.out.length oc) b ∧ b < w.heap.size) fun b hb hA => ⟨hA, hb⟩).keeps hmid.1).mono fun b _ hb => hmid.2 b hb)
        ⟨⟨rfl, _, rfl, sa_move Tm.rep_lasts HT.out hch htb (fun b h => .inl h) (fun b h => .inl h)⟩, trivial⟩
  · have := ho2.kept (w' := w2.setCell ⟨g, 2, none⟩ (.slice va2 (s.env.length + 1) vc2)) fun b hb => Below.heap_setCell _ _ _ _ (fun e => hng (hb.trans (congrArg some e)))
    simpa using this
  · refine ((h5.mono (A' := fun b => SA g mb xb (.slice ta s.env.length tc) (.slice ca s.choices.length cc) (.slice oa s.out.length oc) b ∧ b < w.heap.size) chcR_lasts fun b hb hA => ⟨hA, hb⟩).keeps (B := fun b => ¬ (b = g ∨ b = mb ∨ ownB (.slice ta s.env.length tc) = some b)) chcR_lasts (hch0.keeps fun b _ hb => hb) (fun b hb e => hb.1.1 ?_) (fun b hb e => ?_)).mono chcR_lasts fun b _ hb => hmid.2 b hb
    · exact e.elim .inl fun e => e.elim (fun e => .inr (.inl e)) fun e => .inr (.inr (.inl e))
    · exact e.elim (fun e => hap.cg (e ▸ hb)) fun e => e.elim (fun e => hap.cm (e ▸ hb)) fun e => hap.tc b e hb
  · refine ((h6.mono (A' := fun b => SA g mb xb (.slice ta s.env.length tc) (.slice ca s.choices.length cc) (.slice oa s.out.length oc) b ∧ b < w.heap.size) evR_lasts fun b hb hA => ⟨hA, hb⟩).keeps (B := fun b => ¬ (b = g ∨ b = mb ∨ ownB (.slice ta s.env.length tc) = some b)) evR_lasts (hch0.keeps fun b _ hb => hb) (fun b hb e => hb.1.1 ?_) (fun b hb e => ?_)).mono evR_lasts fun b _ hb => hmid.2 b hb
    · exact e.elim .inl fun e => e.elim (fun e => .inr (.inl e)) fun e => .inr (.inr (.inl e))
    · exact e.elim (fun e => hap.og (e ▸ hb)) fun e => e.elim (fun e => hap.om (e ▸ hb)) fun e => hap.to b e hb
  · rcases h9 with h9 | h9
    · exact .inl h9
    · refine .inr fun e => ?_
      rcases e with e | e | e | e | e
      · exact h9 (.inl e)
      · exact h9 (.inr (.inl e))
      · rcases htb _ e with e | e
        · exact h9 (.inr (.inr (.inl e)))
        · omega
      · exact h9 (.inr (.inr (.inr (.inl e))))
      · exact h9 (.inr (.inr (.inr (.inr e))))
  · have := HLEN.out; simp; omega
end
end Go.Proofs.YtlpmfkpefoegeabDoor
