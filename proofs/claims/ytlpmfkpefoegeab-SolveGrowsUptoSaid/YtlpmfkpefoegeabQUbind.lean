/-
  The unifier: bind.
-/
import Derived.Test.YtlpmfkpefoegeabQUin
namespace Go.Proofs.Ytlpmfkpefoegeab
set_option linter.unusedVariables false
set_option linter.unusedSimpArgs false
open Go.RowKit

theorem bindC_set {l : List Ce} {v : Nat} (a : Int) (h : v < l.length) : bindC l (v : Int) a = l.set v { l[v] with n := a } := by
  apply List.ext_getElem (by simp [bindC])
  intro i h1 h2
  simp only [bindC, Int.toNat_natCast, List.getElem_modify, List.getElem_set]
  by_cases e : v = i
  · subst e; simp
  · simp [e]

/-- the unifier's blocks -/
def UM (g : Nat) (cv tv : Value) (b : Nat) : Prop := b = g ∨ ownB cv = some b ∨ ownB tv = some b

/-- what a step of the unifier comes to: its cells stay where they are, its trail may move into a new block -/
def UStep (g base : Nat) (cv tv : Value) (w : World) (l : List Ce) (t : List Int) (k : Int) (w' : World) : Prop :=
  ∃ tv', UInv g base cv tv' l t k w' ∧ Ch (UM g cv tv) w w' ∧ (∀ b, ownB tv' = some b → ownB tv = some b ∨ w.heap.size ≤ b)

theorem UStep.refl {g base : Nat} {cv tv : Value} {w : World} {l : List Ce} {t : List Int} {k : Int} (h : UInv g base cv tv l t k w) : UStep g base cv tv w l t k w := ⟨tv, h, Ch.refl _ _, fun b h => .inl h⟩

theorem UStep.of_box {g base : Nat} {cv tv : Value} {w w' : World} {l : List Ce} {t : List Int} {k : Int} (h : UInv g base cv tv l t k w') (hc : Ch (fun b => b = g) w w') : UStep g base cv tv w l t k w' :=
  ⟨tv, h, hc.mono fun x _ e => .inl e, fun b h => .inl h⟩

/-- one step behind another -/
theorem UStep.trans {g base : Nat} {cv tv tv' : Value} {w w' w'' : World} {l : List Ce} {t : List Int} {k : Int} (hc : Ch (UM g cv tv) w w') (ht : ∀ b, ownB tv' = some b → ownB tv = some b ∨ w.heap.size ≤ b)
    (h : UStep g base cv tv' w' l t k w'') : UStep g base cv tv w l t k w'' := by
  obtain ⟨tv2, h1, h2, h3⟩ := h
  refine ⟨tv2, h1, hc.trans h2 fun x hx => ?_, fun b hb => ?_⟩
  · rcases hx with hx | hx | hx
    · exact .inl (.inl hx)
    · exact .inl (.inr (.inl hx))
    · rcases ht x hx with hx | hx
      · exact .inl (.inr (.inr hx))
      · exact .inr hx
  · rcases h3 b hb with h4 | h4
    · exact ht b h4
    · exact .inr (Nat.le_trans hc.size h4)

/-- what bind comes to -/
def BindPost (g base : Nat) (cv tv : Value) (w : World) (l : List Ce) (t : List Int) (k : Int) (e : Ending) (w' : World) : Prop := ∃ r, e = .returned r ∧ UStep g base cv tv w l t k w'

set_option maxHeartbeats 2000000 in
theorem bind_ok (g base : Nat) (cv tv : Value) (l : List Ce) (t : List Int) (k : Int) (w : World) (h : UInv g base cv tv l t k w) (hk : (t.length : Int) + 1 + k ≤ 70000) (v : Nat) (hv : v < l.length) (a : Int) (ha : I64 a) :
    Calls Try.prog 75 #[.pointer (some ⟨g, 0, none⟩), .int .i64 (v : Int), .int .i64 a] w (BindPost g base cv tv w (bindC l (v : Int) a) (t ++ [(v : Int)]) k) := by
  have HU := hid h
  obtain ⟨ca, cc, ta, tc, rfl, rfl, e1, e2, e3, e4⟩ := h.vals
  have hlt := h.lt
  obtain ⟨h1, h2, h3, h4, h5, h6, h7, h8⟩ := h
  obtain ⟨x0, x1, x2, xf⟩ := box3 h1
  obtain ⟨cb, rfl, hob, c0, c1, c2, hok, hfz, hcb, hcbase⟩ := OwnC.cell h2 hv
  have hcg : cb ≠ g := fun e => OwnF.ne_box h2 h1 (by decide) (hob.trans (congrArg some e))
  have hcg' : ¬ g = cb := fun e => hcg e.symm
  have hcs := cell_set
  have hi0 : (0 : Int) ≤ (v : Int) := Int.natCast_nonneg _
  have hi1 : (v : Int) < (l.length : Int) := by omega
  -- behind the first store
  have HB1 := hid ((Below.heap_setCell w ⟨cb, v * 3 + 1, none⟩ (.int .i64 a) g (fun e => hcg e.symm)).trans h1)
  have HT1 := hid (h3.kept (w' := w.setCell ⟨cb, v * 3 + 1, none⟩ (.int .i64 a)) fun b hb => Below.heap_setCell _ _ _ _ (fun e => ownF_apart (by decide) h2 h3 cb hob (hb.trans (congrArg some e))))
  have HC1 := hid (OwnF.set (u := .int .i64 a) Ce.vals_len h2 hob hv (j := 1) (by omega) (y := { l[v] with n := a }) rfl ⟨hok.1, ha, hok.2.2⟩)
  have HOB := hid hob
  have HTG := hid (OwnF.ne_box h3 h1 (by decide))
  have HTL := hid (fun b => h3.lt b)
  clear h1 h2 h3 hok hob
  go_enter Try.func75, Try.ntmps75
  go_wp2_with (at_builtin; go_must (refine wpList_app1 rfl (.tmp 20) (.tmp 22) 28 rfl base 3 1 8 tyNums numR_lasts (A := fun _ => True) (.slice ta t.length tc) t rfl (OwnF.ownR numV_len HT1.out _) (v : Int) [.int .i64 (v : Int)] (by simp only [World.size_setCell]; rfl) rfl ⟨by unfold I64; omega, rfl⟩ ⟨by omega, by simp; omega⟩ ?_); go_must (intro v2 w2 hown hgrew; obtain ⟨va2, vc2, hv2, hvl2, hvm2⟩ := OwnR.val' hown; rw [show (t ++ [(v : Int)]).length = t.length + 1 by simp] at hv2; subst hv2; have HO2 := hid (OwnF.of_ownR hown); have HG2 := hid hgrew; have hz2 := hgrew.size; simp only [World.size_alloc, World.size_setCell] at hz2; have hB2 := (hgrew.grown.block g (by simp; omega) (fun e => HTG.out e.symm)).trans (blk_alloc HB1.out _); have HB2 := hid hB2; obtain ⟨y0, y1, y2, yf⟩ := box3 hB2; clear hown hgrew hB2))
  refine bodyPost_end (v := .tuple #[]) (by simp [results, Try.results75, go_sem]) rfl ?_
  have hcb2 : w2.heap[cb]? = (w.setCell ⟨cb, v * 3 + 1, none⟩ (.int .i64 a)).heap[cb]? := (HG2.out.grown.block cb (by simp; omega) (fun e => ownF_apart (by decide) HU.out.2.1 HU.out.2.2.1 cb HOB.out e.symm)).trans (Below.heap_alloc _ _ _ (by simpa using hcb))
  have ho2 := HO2.out
  have hng : ownB (.slice va2 (t.length + 1) vc2) ≠ some g := OwnF.ne_box (by simpa using ho2) HB2.out (by decide)
  refine ⟨_, rfl, .slice va2 (t.length + 1) vc2, ⟨(blk_set HB2.out 1 _).trans rfl, ?_, ?_, h4, by rw [bindC_len]; exact h5, by simp; omega, h7, h8⟩, ?_, fun b hb => ?_⟩
  · rw [bindC_set a hv]
    refine HC1.out.kept fun b hb => ?_
    obtain rfl : cb = b := Option.some.inj (HOB.out.symm.trans hb)
    rw [Below.heap_setCell _ _ _ _ (fun e => hcg e)]
    exact hcb2
  · exact ho2.kept fun b hb => Below.heap_setCell _ _ _ _ (fun e => hng (hb.trans (congrArg some e)))
  · refine Ch.setCell (p := ⟨g, 1, none⟩) ?_ (.inl (.inl rfl)) _
    refine HG2.out.ch ((Ch.setCell (p := ⟨cb, v * 3 + 1, none⟩) (Ch.refl _ _) (.inl (.inr (.inl HOB.out))) _).alloc _) fun b hb => .inl (.inr (.inr hb))
  · rcases HG2.out.block with h9 | h9
    · exact .inl (h9.symm.trans hb)
    · have := h9 b hb
      simp only [World.size_alloc, World.size_setCell] at this
      exact .inr (by omega)
end Go.Proofs.Ytlpmfkpefoegeab
