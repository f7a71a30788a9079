/-
  Copies of terms.
-/
import Derived.Test.YtlpmfkpefoegeabDoorQTerm
import Derived.Test.YtlpmfkpefoegeabDoorProg
namespace Go.Proofs.YtlpmfkpefoegeabDoor
set_option linter.unusedVariables false
set_option linter.unusedSimpArgs false
open Go.RowKit

theorem tyTerm : ElemTy Tryd.prog 29 31 4 56 :=
  .mk' (z := .agg #[.int .i64 0, .int .i64 0, .string ByteArray.empty, .slice none 0 0]) Tryd.underlying29 (by kernel_rfl) rfl (by omega) (by omega)

def CopyTermOK (t : Tm) : Prop := ∀ (A : Nat → Prop) (w : World) (vs : List Value), Tm.rep A w t vs →
  Calls Tryd.prog 12 #[.agg vs.toArray] w (Pure w fun v w' => ∃ us, v = .agg us.toArray ∧ Tm.rep (New w) w' t us)
def CopyTermsOK (l : List Tm) : Prop := ∀ (A : Nat → Prop) (w : World) (v : Value), TmsR A w l v →
  Calls Tryd.prog 26 #[v] w (Pure w fun v' w' => TmsR (New w) w' l v')

set_option maxHeartbeats 400000 in
theorem copyTerms_of (l : List Tm) (ih : ∀ t ∈ l, CopyTermOK t) : CopyTermsOK l := by
  intro A w v hv
  obtain ⟨a, cap, b, off, rfl, hlc, hcm, hlb, ha, he⟩ := hv.at
  have HE := hid he
  have HA := hid ha
  clear hv he ha
  go_enter Tryd.func26, Tryd.ntmps26
  go_wp2_with fail
  go_loopw [3, 8] (fun v i wr => ∃ k : Nat, k ≤ l.length ∧ i = .int .i64 k ∧ Below w.heap.size w wr ∧ OwnR wr w.heap.size 31 4 Tm.rep (New w) (l.take k) v) (fun _ i _ => l.length - (intOf i).toNat)
  case atStart => exact ⟨0, Nat.zero_le _, rfl, Below.refl _ _, by simpa using OwnR.nil ..⟩
  case round =>
    obtain ⟨k, hk, rfl, hb, hown⟩ := hrel
    have hz := hb.size
    have HO := hid hown
    have HB := hid hb
    clear hown hb
    by_cases hlt : k < l.length
    · obtain ⟨rfl, hAb⟩ := HA.out (by omega)
      obtain ⟨sa, sc, c0, c1, c2, c3, hr⟩ := tm_cells HE.out hAb (Keeps.of_below HB.out) hlt
      have HC := hid (ih _ (List.getElem_mem hlt) _ (wr.alloc _) _ (Tm.rep_lasts.1 _ _ _ _ _ hr (Keeps.alloc _ _ (.cells (#[.int .i64 l[k].kind, .int .i64 l[k].n, .string l[k].s, .slice sa l[k].args.length sc] : Array Value) 31))))
      clear hr
      go_wp2_with fail
      refine (HC.out).mono ?_
      rintro e w1 ⟨v, rfl, hb1, us, rfl, hr⟩
      have hsz := hb1.size
      simp only [World.size_alloc] at hsz
      obtain ⟨sa', sc', rfl, -⟩ := Tm.rep4 hr
      have HO1 := hid ((HO.out.alloc Tm.rep_lasts _).below Tm.rep_lasts hb1)
      have HN := hid (fresh_elem Tm.rep_lasts HO.out (by simp) (A := New w) (fun b hb => by simp [New] at hb ⊢; omega) hr)
      have HL := hid (show (l.take k).length < 4194304 ∧ w.heap.size ≤ w1.heap.size by simp; omega)
      have HB1 := hid ((HB.out.alloc hz _).trans (hb1.mono (by simp; omega)))
      clear hr hb1 HC
      go_wp2_with (at_builtin; refine wpList_app1 rfl (.tmp 12) (.tmp 15) 29 rfl w.heap.size 31 4 56 tyTerm Tm.rep_lasts u3 (l.take k) rfl HO1.out l[k] [_, _, _, _] rfl rfl HN.out HL.out ?_; intro v' w2 hown2 hgrew)
      go_roundw
      case rel =>
        refine ⟨k + 1, by omega, by go_num, hgrew.below (HB1.out.alloc (by omega) _) (by simp; omega) (fun b hb => (HO.out.lt b hb).1), ?_⟩
        rw [List.take_succ_eq_append_getElem hlt]; exact hown2
      case measure => simp [intOf]; omega
    · have : k = l.length := by omega
      subst this
      go_wp2_with fail
      go_ret
      have hO := HO.out
      rw [List.take_length] at hO
      exact ⟨_, rfl, HB.out, hO.sl Tm.rep_lasts hlb (fun b hb => hb)⟩

/-- one's own Below, past a block of one's own -/
theorem below_pure {w w1 : World} {o : Obj} (h : Below (w.alloc o).heap.size (w.alloc o) w1) : Below w.heap.size w w1 :=
  ((Below.refl _ _).alloc (Nat.le_refl _) o).trans (h.mono (by simp))

set_option maxHeartbeats 400000 in
theorem copyTerm_of (k n : Int) (s : ByteArray) (l : List Tm) (ih : CopyTermsOK l) : CopyTermOK (.mk k n s l) := by
  intro A w vs hv
  rw [Tm.rep_iff] at hv
  obtain ⟨hk, hn, hs, v, rfl, hl⟩ := hv
  obtain ⟨a, cap, b, off, rfl, -⟩ := hl.at
  have HC := hid (fun W (hK : Keeps A w W) => ih A W _ (SlR.keeps Tm.rep_lasts hl hK))
  clear hl
  go_enter Tryd.func12, Tryd.ntmps12
  go_wp2_with fail
  refine (HC.out _ ((Keeps.alloc _ _ _).trans (Keeps.alloc _ _ _))).mono ?_
  rintro e w1 ⟨v, rfl, hb1, hr⟩
  obtain ⟨hc, hf⟩ := bcell hb1
  have hcs := cell_set
  obtain ⟨a', cap', b', off', rfl, -⟩ := hr.at
  have HR := hid hr
  have HB := hid hb1
  have hz := hb1.size
  simp only [World.size_alloc] at hz
  clear hr hb1 HC
  go_wp2_with fail
  refine bodyPost_ret (v := .agg #[.int .i64 k, .int .i64 n, .string s, .slice a' l.length cap']) (by simp [results, Tryd.results12, go_sem, hcs, hc]) rfl ⟨_, rfl, ?_, [_, _, _, _], rfl, ?_⟩
  · refine Below.setCell (Below.setCell (Below.setCell (Below.setCell (Below.setCell (below_pure (below_pure HB.out)) ?_ _) ?_ _) ?_ _) ?_ _) ?_ _ <;> simp
  · rw [Tm.rep_iff]
    refine ⟨hk, hn, hs, _, rfl, ?_⟩
    have h1 := SlR.mono (A' := fun b => New w b ∧ b ≠ w.heap.size ∧ b ≠ w.heap.size + 1) Tm.rep_lasts (by omega) HR.out (fun b _ hb => by simp only [New, World.size_alloc] at hb ⊢; omega)
    refine SlR.mono Tm.rep_lasts (by omega) (SlR.keeps Tm.rep_lasts h1 ?_) (fun b _ hb => hb.1)
    refine Keeps.trans (Keeps.trans (Keeps.trans (Keeps.trans (Keeps.setCell _ _ _ _ ?_) (Keeps.setCell _ _ _ _ ?_)) (Keeps.setCell _ _ _ _ ?_)) (Keeps.setCell _ _ _ _ ?_)) (Keeps.setCell _ _ _ _ ?_) <;> simp

theorem copyTerm_ok : ∀ t, CopyTermOK t := by
  intro t
  induction t using Tm.induct with
  | h k n s l ih => exact copyTerm_of k n s l (copyTerms_of l ih)
theorem copyTerms_ok (l : List Tm) : CopyTermsOK l := copyTerms_of l fun t _ => copyTerm_ok t
end Go.Proofs.YtlpmfkpefoegeabDoor
