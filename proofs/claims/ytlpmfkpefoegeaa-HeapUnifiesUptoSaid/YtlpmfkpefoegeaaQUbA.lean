/-
  UnifyAt's closure: bind.
-/
import Derived.Test.YtlpmfkpefoegeaaQUbind
namespace Go.Proofs.Ytlpmfkpefoegeaa
set_option linter.unusedVariables false
set_option linter.unusedSimpArgs false
open Go.RowKit

/-- a heap of its own, in block g -/
def HInv (g base : Nat) (cv tv : Value) (l : List Ce) (t : List Int) (w : World) : Prop :=
  w.heap[g]? = some (.cells #[cv, tv] 38 (0, 0)) ∧ OwnC w base l cv ∧ OwnN w base t tv ∧ base ≤ g ∧ l.length ≤ 65536 ∧ t.length ≤ 70000

section
variable {g base : Nat} {cv tv : Value} {l : List Ce} {t : List Int} {w : World}
theorem HInv.keeps {w' : World} (h : HInv g base cv tv l t w) (hg : w'.heap[g]? = w.heap[g]?) (hc : ∀ b, ownB cv = some b → w'.heap[b]? = w.heap[b]?) (ht : ∀ b, ownB tv = some b → w'.heap[b]? = w.heap[b]?) : HInv g base cv tv l t w' := by
  obtain ⟨h1, h2, h3, h4⟩ := h
  exact ⟨hg.trans h1, h2.kept hc, h3.kept ht, h4⟩
theorem HInv.below {w' : World} (h : HInv g base cv tv l t w) (hb : Below w.heap.size w w') : HInv g base cv tv l t w' :=
  h.keeps (hb.block _ (blk_lt h.1)) (fun b e => hb.block _ (h.2.1.lt b e).2) (fun b e => hb.block _ (h.2.2.1.lt b e).2)
theorem HInv.vals (h : HInv g base cv tv l t w) : ∃ ca cc ta tc, cv = .slice ca l.length cc ∧ tv = .slice ta t.length tc ∧ l.length ≤ cc ∧ cc ≤ maxLen ∧ t.length ≤ tc ∧ tc ≤ maxLen := by
  obtain ⟨h1, h2, h3, h4⟩ := h
  obtain ⟨ca, cc, rfl, e1, e2⟩ := OwnF.val h2
  obtain ⟨ta, tc, rfl, e3, e4⟩ := OwnF.val h3
  exact ⟨ca, cc, ta, tc, rfl, rfl, e1, e2, e3, e4⟩
theorem HInv.rep (h : HInv g base cv tv l t w) : Hp.rep (fun _ => True) w ⟨l, t⟩ [cv, tv] := by
  obtain ⟨h1, h2, h3, h4, h5, h6⟩ := h
  exact ⟨cv, tv, rfl, OwnF.sl Ce.vals_len Ce.vals_one h2 (by omega) (fun _ _ => trivial), OwnF.sl numV_len numV_one h3 (by omega) (fun _ _ => trivial)⟩
end

/-- what bind comes to -/
def BindAt (g base : Nat) (cv tv : Value) (w : World) (l : List Ce) (t : List Int) (e : Ending) (w' : World) : Prop :=
  ∃ r tv', e = .returned r ∧ HInv g base cv tv' l t w' ∧ Ch (UM g cv tv) w w'

set_option maxHeartbeats 2000000 in
theorem bindAt_ok (g base : Nat) (cv tv : Value) (l : List Ce) (t : List Int) (w : World) (h : HInv g base cv tv l t w) (hk : t.length + 1 ≤ 70000) (v : Nat) (hv : v < l.length) (a : Int) (ha : I64 a) :
    Calls Try.prog 66 #[.int .i64 (v : Int), .int .i64 a, .pointer (some ⟨g, 0, none⟩)] w (BindAt g base cv tv w (bindC l (v : Int) a) (t ++ [(v : Int)])) := by
  have HU := hid h
  obtain ⟨ca, cc, ta, tc, rfl, rfl, e1, e2, e3, e4⟩ := h.vals
  obtain ⟨h1, h2, h3, h4, h5, h6⟩ := h
  obtain ⟨x0, x1, xf⟩ := box2 h1
  have hgl := blk_lt h1
  obtain ⟨cb, rfl, hob, c0, c1, c2, hok, hfz, hcb, hcbase⟩ := OwnC.cell h2 hv
  have hcg : cb ≠ g := fun e => OwnF.ne_box h2 h1 (by decide) (hob.trans (congrArg some e))
  have hcg' : ¬ g = cb := fun e => hcg e.symm
  have hcs := cell_set
  have hi0 : (0 : Int) ≤ (v : Int) := Int.natCast_nonneg _
  have hi1 : (v : Int) < (l.length : Int) := by omega
  have HB1 := hid ((Below.heap_setCell w ⟨cb, v * 3 + 1, none⟩ (.int .i64 a) g (fun e => hcg e.symm)).trans h1)
  have HT1 := hid (h3.kept (w' := w.setCell ⟨cb, v * 3 + 1, none⟩ (.int .i64 a)) fun b hb => Below.heap_setCell _ _ _ _ (fun e => ownF_apart (by decide) h2 h3 cb hob (hb.trans (congrArg some e))))
  have HC1 := hid (OwnF.set (u := .int .i64 a) Ce.vals_len h2 hob hv (j := 1) (by omega) (y := { l[v] with n := a }) rfl ⟨hok.1, ha, hok.2.2⟩)
  have HOB := hid hob
  have HTG := hid (OwnF.ne_box h3 h1 (by decide))
  have HTL := hid (fun b => h3.lt b)
  clear h1 h2 h3 hok hob
  go_enter Try.func66, Try.ntmps66
  go_wp2_with (at_builtin; go_must (refine wpList_app1 rfl (.tmp 12) (.tmp 14) 36 rfl base 3 1 8 tyNums numR_lasts (A := fun _ => True) (.slice ta t.length tc) t rfl (OwnF.ownR numV_len HT1.out _) (v : Int) [.int .i64 (v : Int)] (by simp only [World.size_setCell]; rfl) rfl ⟨by unfold I64; omega, rfl⟩ ⟨by omega, by simp; omega⟩ ?_); go_must (intro v2 w2 hown hgrew; obtain ⟨va2, vc2, hv2, hvl2, hvm2⟩ := OwnR.val' hown; rw [show (t ++ [(v : Int)]).length = t.length + 1 by simp] at hv2; subst hv2; have HO2 := hid (OwnF.of_ownR hown); have HG2 := hid hgrew; have hz2 := hgrew.size; simp only [World.size_alloc, World.size_setCell] at hz2; have hB2 := (hgrew.grown.block g (by simp; omega) (fun e => HTG.out e.symm)).trans (blk_alloc HB1.out _); have HB2 := hid hB2; obtain ⟨y0, y1, yf⟩ := box2 hB2; clear hown hgrew hB2))
  refine bodyPost_end (v := .tuple #[]) (by simp [results, Try.results66, go_sem]) rfl ?_
  have hcb2 : w2.heap[cb]? = (w.setCell ⟨cb, v * 3 + 1, none⟩ (.int .i64 a)).heap[cb]? := (HG2.out.grown.block cb (by simp; omega) (fun e => ownF_apart (by decide) HU.out.2.1 HU.out.2.2.1 cb HOB.out e.symm)).trans (Below.heap_alloc _ _ _ (by simpa using hcb))
  have ho2 := HO2.out
  have hng : ownB (.slice va2 (t.length + 1) vc2) ≠ some g := OwnF.ne_box (by simpa using ho2) HB2.out (by decide)
  refine ⟨_, .slice va2 (t.length + 1) vc2, rfl, ⟨(blk_set HB2.out 1 _).trans rfl, ?_, ?_, h4, by rw [bindC_len]; exact h5, by simp; omega⟩, ?_⟩
  · rw [bindC_set a hv]
    refine HC1.out.kept fun b hb => ?_
    obtain rfl : cb = b := Option.some.inj (HOB.out.symm.trans hb)
    rw [Below.heap_setCell _ _ _ _ (fun e => hcg e)]
    exact hcb2
  · exact ho2.kept fun b hb => Below.heap_setCell _ _ _ _ (fun e => hng (hb.trans (congrArg some e)))
  · refine Ch.setCell (p := ⟨g, 1, none⟩) ?_ (.inl (.inl rfl)) _
    refine HG2.out.ch ((Ch.setCell (p := ⟨cb, v * 3 + 1, none⟩) (Ch.refl _ _) (.inl (.inr (.inl HOB.out))) _).alloc _) fun b hb => .inl (.inr (.inr hb))
end Go.Proofs.Ytlpmfkpefoegeaa
