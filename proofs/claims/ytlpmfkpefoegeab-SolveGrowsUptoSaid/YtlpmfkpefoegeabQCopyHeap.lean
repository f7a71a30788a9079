/-
  heap.Look.
  What the operations of a statement leave, told each by itself.
  Copies of heaps.
-/
import Derived.Test.YtlpmfkpefoegeabQLoad
import Derived.Test.YtlpmfkpefoegeabQClone
namespace Go.Proofs.Ytlpmfkpefoegeab
set_option linter.unusedVariables false
set_option linter.unusedSimpArgs false
open Go.RowKit

/-- an answer that is a number -/
def IntIs (n : Int) (r : Value) (_ : World) : Prop := r = .int .i64 n

theorem HpHid {A : Nat → Prop} {w : World} {h : Hp} {vs : List Value} (hh : Hp.rep A w h vs) :
    ∃ a cap b tap cb coff tb toff, vs = [.slice a h.cells.length cap, .slice b h.trail.length tap] ∧ h.cells.length ≤ cap ∧ cap ≤ maxLen ∧ h.cells.length ≤ 1048576 ∧ h.trail.length ≤ tap ∧ tap ≤ maxLen ∧ h.trail.length ≤ 1048576 ∧
      Hid (0 < h.cells.length → a = some ⟨cb, coff, none⟩ ∧ A cb) ∧ Hid (Elems A w 3 Ce.rep h.cells cb coff) ∧ Hid (0 < h.trail.length → b = some ⟨tb, toff, none⟩ ∧ A tb) ∧ Hid (Elems A w 1 numR h.trail tb toff) := by
  obtain ⟨a, cap, b, tap, rfl, hc1, hc2, hc3, ht1, ht2, ht3, hc, ht⟩ := Hp.rep2 hh
  obtain ⟨_, _, cb, coff, e, -, -, -, ha, he⟩ := hc.at
  simp only [Value.slice.injEq, true_and] at e
  obtain ⟨rfl, rfl⟩ := e
  obtain ⟨_, _, tb, toff, e, -, -, -, hb, hf⟩ := ht.at
  simp only [Value.slice.injEq, true_and] at e
  obtain ⟨rfl, rfl⟩ := e
  exact ⟨a, cap, b, tap, cb, coff, tb, toff, rfl, hc1, hc2, hc3, ht1, ht2, ht3, hid ha, hid he, hid hb, hid hf⟩

/-- the way of Look -/
def LookSt (l : List Ce) (a0 : Int) (i : Nat) (a : Int) : Prop := lookN l (l.length + 1 - i) a = look l a0 ∧ I64 a

set_option maxHeartbeats 2000000 in
theorem look_ok (h : Hp) (a : Int) (ha : I64 a) (A : Nat → Prop) (w : World) (vs : List Value) (hh : Hp.rep A w h vs) :
    Calls Try.prog 39 #[.agg vs.toArray, .int .i64 a] w (Pure w (IntIs (look h.cells a))) := by
  obtain ⟨va, cap, vb, tap, cb, coff, tb, toff, rfl, hc1, hc2, hc3, ht1, ht2, ht3, HA, HE, HA', HE'⟩ := HpHid hh
  have HI := hid ha
  clear hh ha
  go_enter Try.func39, Try.ntmps39
  go_wp2_with fail
  go_loopw [1, 10] (fun x i wr => ∃ (j : Nat) (b : Int), j ≤ h.cells.length + 1 ∧ i = .int .i64 j ∧ x = .int .i64 b ∧ Below (w.heap.size + 1) (w.alloc (.cells #[.slice va h.cells.length cap, .slice vb h.trail.length tap] 30)) wr ∧ LookSt h.cells a j b) (fun _ i _ => h.cells.length + 1 - (intOf i).toNat)
  case atStart => exact ⟨0, a, Nat.zero_le _, rfl, rfl, Below.refl _ _, rfl, HI.out⟩
  case round =>
    obtain ⟨j, b, hj, rfl, rfl, hb, hst⟩ := hrel
    have HB := hid hb
    have HS := hid hst.1
    have hz := hb.size
    simp only [World.size_alloc] at hz
    have hz' : w.heap.size < wr.heap.size := hz
    have f0 : wr.cell? ⟨w.heap.size, 0, none⟩ = some (.slice va h.cells.length cap) := by
      rw [hb.cell (by simp)]; simp
    have hbi := hst.2
    clear hb hst
    by_cases hlt : j < h.cells.length + 1
    · have hlt' : (j : Int) < (h.cells.length : Int) + 1 := by omega
      have HK := hid (show h.cells.length + 1 - j = (h.cells.length - j) + 1 by omega)
      by_cases hin : Inb h.cells b
      · obtain ⟨v, rfl, hv, hcv⟩ := cellAt_eq hin
        have HCV := hid hcv
        obtain ⟨rfl, hAb⟩ := HA.out (by omega)
        have hk2 : Keeps A w wr := (Keeps.alloc _ _ _).trans (Keeps.of_below (HB.out.mono (by simp)))
        obtain ⟨c0, c1, c2, i0, i1, i2⟩ := ce_cells HE.out hAb hk2 hv
        have hlb : cb < wr.heap.size := World.block_lt_of_cell? wr _ c0
        have hv0 : (0 : Int) ≤ (v : Int) := Int.natCast_nonneg _
        have hv1 : (v : Int) < (h.cells.length : Int) := by omega
        have HIN := hid hin
        clear hk2 hcv hin
        by_cases hs : Stop h.cells (v : Int)
        · have hres : look h.cells a = (v : Int) := by
            have := HS.out
            rw [HK.out, lookN, if_neg (not_not_intro HIN.out), if_pos hs] at this
            exact this.symm
          have HRES := hid hres
          unfold Stop at hs
          rw [HCV.out] at hs
          have HST := hid hs
          clear hres hs
          by_cases hk : h.cells[v].kind = 0
          · have hn : h.cells[v].n = v := HST.out.resolve_left (not_not_intro hk)
            rw [hk] at c0
            rw [hn] at c1
            clear hk hn
            go_wp2_with fail
            go_ret
            exact ⟨_, rfl, below_pure ((HB.out.alloc hz _).mono (by simp)), by unfold IntIs; rw [HRES.out]; rfl⟩
          · have hk' : (h.cells[v].kind != 0) = true := by simpa using hk
            clear hk
            go_wp2_with fail
            go_ret
            exact ⟨_, rfl, below_pure ((HB.out.alloc hz _).mono (by simp)), by unfold IntIs; rw [HRES.out]; rfl⟩
        · have hnx : lookN h.cells (h.cells.length - j) h.cells[v].n = look h.cells a := by
            have := HS.out
            rw [HK.out, lookN, if_neg (not_not_intro HIN.out), if_neg hs, HCV.out] at this
            exact this
          have HNX := hid hnx
          unfold Stop at hs
          rw [HCV.out] at hs
          have hk : h.cells[v].kind = 0 := Decidable.not_not.1 fun e => hs (.inl e)
          have hn : ¬ h.cells[v].n = v := fun e => hs (.inr e)
          have hn' : (h.cells[v].n == (v : Int)) = false := by simpa using hn
          rw [hk] at c0
          clear hs hk hn hnx
          go_wp2_with fail
          go_roundw
          case rel =>
            refine ⟨j + 1, h.cells[v].n, by omega, by go_num, rfl, HB.out.alloc hz _, ?_, i1⟩
            rw [show h.cells.length + 1 - (j + 1) = h.cells.length - j by omega]
            exact HNX.out
          case measure => simp [intOf]; omega
      · have hres : look h.cells a = -1 := by
          have := HS.out
          rw [HK.out, lookN, if_pos hin] at this
          exact this.symm
        have HRES := hid hres
        unfold Inb at hin
        clear hres
        go_wp2_with fail
        all_goals first
          | (exfalso; omega)
          | (go_ret
             exact ⟨_, rfl, below_pure (HB.out.mono (by simp)), by unfold IntIs; rw [HRES.out]; rfl⟩)
          | go_ways
    · have hres : look h.cells a = -1 := by
        have := HS.out
        rw [show h.cells.length + 1 - j = 0 by omega, lookN] at this
        exact this.symm
      have HRES := hid hres
      clear hres
      have hje : j = h.cells.length + 1 := by omega
      subst hje
      go_wp2_with fail
      go_ret
      exact ⟨_, rfl, below_pure (HB.out.mono (by simp)), by unfold IntIs; rw [HRES.out]; rfl⟩
end Go.Proofs.Ytlpmfkpefoegeab

namespace Go.Proofs.Ytlpmfkpefoegeab
set_option linter.unusedVariables false
set_option linter.unusedSimpArgs false
open Go.RowKit

/-- what a value is, in whatever world -/
def IsV (u : Value) : Value → World → Prop := fun v _ => v = u
/-- whatever it is -/
def IsAny : Value → World → Prop := fun _ _ => True
/-- a term -/
def IsTm (t : Tm) : Value → World → Prop := fun v w => ∃ us, v = .agg us.toArray ∧ Tm.rep (fun _ => True) w t us
/-- a slice of terms -/
def IsTms (l : List Tm) : Value → World → Prop := fun v w => TmsR (fun _ => True) w l v
/-- the answer to a question -/
def IsB (p : Prop) : Value → World → Prop := fun v _ => ∃ t, v = .bool t ∧ (t = true ↔ p)
/-- a slice of cells, of numbers, of truth values -/
def IsCs (l : List Ce) : Value → World → Prop := fun v w => CesR (fun _ => True) w l v
def IsNs (l : List Int) : Value → World → Prop := fun v w => NumsR (fun _ => True) w l v
def IsBs (l : List Bool) : Value → World → Prop := fun v w => BoolsR (fun _ => True) w l v
/-- a heap -/
def IsHp (h : Hp) : Value → World → Prop := fun v w => ∃ us, v = .agg us.toArray ∧ Hp.rep (fun _ => True) w h us
/-- cells of one's own, numbers of one's own -/
def IsOC (base : Nat) (l : List Ce) : Value → World → Prop := fun v w => OwnC w base l v
def IsON (base : Nat) (l : List Int) : Value → World → Prop := fun v w => OwnN w base l v

/-- it lasts as long as nothing old turns -/
def Stays (R : Value → World → Prop) : Prop := ∀ v w w', R v w → Below w.heap.size w w' → R v w'
theorem stays_V (u : Value) : Stays (IsV u) := fun _ _ _ h _ => h
theorem stays_any : Stays IsAny := fun _ _ _ h _ => h
theorem stays_B (p : Prop) : Stays (IsB p) := fun _ _ _ h _ => h
theorem stays_Tm (t : Tm) : Stays (IsTm t) := fun v w w' ⟨us, h1, h2⟩ hb => ⟨us, h1, Tm.rep_lasts.1 _ _ _ _ _ h2 (Keeps.of_below hb)⟩
theorem stays_Tms (l : List Tm) : Stays (IsTms l) := fun v w w' h hb => h.below hb
theorem stays_Cs (l : List Ce) : Stays (IsCs l) := fun v w w' h hb => SlR.keeps Ce.rep_lasts h (Keeps.of_below hb)
theorem stays_Ns (l : List Int) : Stays (IsNs l) := fun v w w' h hb => SlR.keeps numR_lasts h (Keeps.of_below hb)
theorem stays_Bs (l : List Bool) : Stays (IsBs l) := fun v w w' h hb => SlR.keeps boolR_lasts h (Keeps.of_below hb)
theorem stays_Hp (t : Hp) : Stays (IsHp t) := fun v w w' ⟨us, h1, h2⟩ hb => ⟨us, h1, Hp.rep_lasts.1 _ _ _ _ _ h2 (Keeps.of_below hb)⟩
theorem stays_OC (base : Nat) (l : List Ce) : Stays (IsOC base l) := fun v w w' h hb => OwnF.below h hb
theorem stays_ON (base : Nat) (l : List Int) : Stays (IsON base l) := fun v w w' h hb => OwnF.below h hb
def posts (ps : List (Value → World → Prop)) (i : Nat) : Value → World → Prop := ps.getD i fun _ _ => True
theorem posts_stay {ps : List (Value → World → Prop)} (h : ∀ R ∈ ps, Stays R) (i : Nat) (v : Value) (w w' : World) (hp : posts ps i v w) (hb : Below w.heap.size w w') : posts ps i v w' := by
  unfold posts at *
  by_cases hi : i < ps.length
  · have e : ps.getD i (fun _ _ => True) = ps[i] := by simp [List.getD, hi]
    rw [e] at hp ⊢
    exact h _ (List.getElem_mem hi) v w w' hp hb
  · simp [List.getD, hi]

/-- cells and numbers of one's own lie apart -/
theorem ownF_apart {α β : Type} {f : α → List Value} {ok : α → Prop} {f' : β → List Value} {ok' : β → Prop} {E E' : TypeId} {size size' base base' : Nat} {w : World} {l : List α} {l' : List β} {v v' : Value}
    (hE : E ≠ E') (h : OwnF f ok E size w base l v) (h' : OwnF f' ok' E' size' w base' l' v') : ∀ k, ownB v = some k → ownB v' ≠ some k := by
  intro k hk hk'
  have key : ∀ {α : Type} {f : α → List Value} {ok : α → Prop} {E : TypeId} {size base : Nat} {l : List α} {v : Value}, OwnF f ok E size w base l v → ownB v = some k → ∃ c, w.heap[k]? = some (.cells c E (0, 0)) := by
    intro α f ok E size base l v h hk
    rcases h.1.2 with ⟨_, a, rfl⟩ | ⟨g, cap, cur, rfl, hc, hb, hg, _⟩
    · cases a <;> simp [ownB] at hk
    · simp only [ownB, Nat.pos_iff_ne_zero.1 hc, if_false, Option.some.injEq] at hk
      subst hk
      exact ⟨cur, hg⟩
  obtain ⟨c, h1⟩ := key h hk
  obtain ⟨c', h2⟩ := key h' hk'
  rw [h1] at h2
  simp only [Option.some.injEq, Obj.cells.injEq] at h2
  exact hE h2.2.1

/-- a heap of one's own -/
def HpOwn (w : World) (base : Nat) (h : Hp) (vs : List Value) : Prop := ∃ c t, vs = [c, t] ∧ OwnC w base h.cells c ∧ OwnN w base h.trail t
theorem HpOwn.rep {w : World} {base : Nat} {h : Hp} {vs : List Value} (hh : HpOwn w base h vs) (h1 : h.cells.length ≤ 1048576) (h2 : h.trail.length ≤ 1048576) {A : Nat → Prop} (hA : ∀ b, base ≤ b → A b) : Hp.rep A w h vs := by
  obtain ⟨c, t, rfl, hc, ht⟩ := hh
  exact ⟨c, t, rfl, hc.sl h1 (fun b hb => hA b (hc.lt b hb).1), ht.sl h2 (fun b hb => hA b (ht.lt b hb).1)⟩

/-- where both arguments of '+' .. are told -/
theorem is_ceq {w : World} {v : Value} {l : List Ce} (h : IsCs l v w) : ∃ a cap, v = .slice a l.length cap ∧ l.length ≤ cap ∧ cap ≤ maxLen ∧ l.length ≤ 1048576 := by
  obtain ⟨a, cap, b, off, rfl, h1, h2, h3, _⟩ := SlR.at h
  exact ⟨a, cap, rfl, h1, h2, h3⟩
end Go.Proofs.Ytlpmfkpefoegeab

namespace Go.Proofs.Ytlpmfkpefoegeab
set_option linter.unusedVariables false
set_option linter.unusedSimpArgs false
open Go.RowKit

/-- a heap of one's own -/
def IsHpO (base : Nat) (h : Hp) : Value → World → Prop := fun v w => ∃ us, v = .agg us.toArray ∧ HpOwn w base h us
theorem stays_HpO (base : Nat) (h : Hp) : Stays (IsHpO base h) := fun v w w' ⟨us, e, c, t, e2, h1, h2⟩ hb => ⟨us, e, c, t, e2, OwnF.below h1 hb, OwnF.below h2 hb⟩

end Go.Proofs.Ytlpmfkpefoegeab
