/-
  Copies of terms.
-/
import Derived.Test.YtlpmfkpefoegeacGreatDoorPRead
import Derived.Test.YtlpmfkpefoegeacGreatDoorProg
namespace Go.Proofs.YtlpmfkpefoegeacGreatDoor
set_option linter.unusedVariables false
set_option linter.unusedSimpArgs false
open Go.RowKit
def Tells (w : World) (p : Prop) (e : Ending) (w' : World) : Prop := ∃ r, e = .returned (.bool r) ∧ (r = true ↔ p) ∧ w = w'
def IsName (s : ByteArray) : Prop := s = ⟨#[33]⟩ ∨ (1 ≤ s.size ∧ s.size ≤ 8 ∧ ∀ i (h : i < s.size), 97 ≤ (s[i].toNat : Int) ∧ (s[i].toNat : Int) ≤ 122)
theorem toList_inj' {s s' : ByteArray} (h : s.toList = s'.toList) : s = s' := by
  rw [ByteArray.toList_eq, ByteArray.toList_eq] at h
  cases s; cases s'
  congr 1
  exact Array.toList_inj.1 h
set_option maxHeartbeats 400000 in
theorem named_ok (s : ByteArray) (w : World) (hs : s.size ≤ 1048576) :
    Calls Tryz.prog 151 #[.string s] w (Tells w (IsName s)) := by
  have hc : (⟨#[33]⟩ : ByteArray).toList = [33] := by decide +kernel
  by_cases h1 : s.toList = (⟨#[33]⟩ : ByteArray).toList
  · have h1b : (s.toList == [33]) = true := by rw [h1, hc]; rfl
    have hn : IsName s := .inl (toList_inj' h1)
    have HN := hid hn
    clear hn h1 hc
    go_enter Tryz.func151, Tryz.ntmps151
    go_wp2_with fail
    go_ret
    exact ⟨true, rfl, by simp [HN.out], rfl⟩
  · have h1' : ¬ s = ⟨#[33]⟩ := fun e => h1 (by rw [e])
    have h1b : (s.toList == [33]) = false := by rw [hc] at h1; simpa using h1
    have HN := hid h1'
    clear h1' h1 hc
    go_enter Tryz.func151, Tryz.ntmps151
    go_wp2_with fail
    go_loop [8] (fun i => ∃ k : Nat, k ≤ s.size ∧ i = .int .i64 k ∧ ∀ j (h : j < s.size), j < k → 97 ≤ (s[j].toNat : Int) ∧ (s[j].toNat : Int) ≤ 122) (fun i => s.size - (intOf i).toNat)
    case atStart => exact ⟨0, Nat.zero_le _, rfl, fun j _ h => by omega⟩
    case round =>
      obtain ⟨k, hk, rfl, hp⟩ := hrel
      have HP := hid hp
      clear hp
      by_cases hlt : k < s.size
      · by_cases g1 : (s[k].toNat : Int) < 97
        · go_wp2_with fail
          go_ret
          refine ⟨false, rfl, ?_, rfl⟩
          simp only [Bool.false_eq_true, false_iff]
          rintro (h | ⟨_, _, h⟩)
          · exact HN.out h
          · have := h k hlt; omega
        · by_cases g2 : 122 < (s[k].toNat : Int)
          · go_wp2_with fail
            go_ret
            refine ⟨false, rfl, ?_, rfl⟩
            simp only [Bool.false_eq_true, false_iff]
            rintro (h | ⟨_, _, h⟩)
            · exact HN.out h
            · have := h k hlt; omega
          · go_wp2_with fail
            go_round
            case rel =>
              refine ⟨k + 1, by omega, by go_num, fun j h hj => ?_⟩
              by_cases hjk : j = k
              · subst hjk; omega
              · exact HP.out j h (by omega)
            case measure => simp [intOf]; omega
      · have : k = s.size := by omega
        subst this
        by_cases g1 : 1 ≤ s.size
        · go_wp2_with fail
          go_ret
          refine ⟨decide ((s.size : Int) ≤ 8), by simp, ?_, rfl⟩
          rw [decide_eq_true_iff]
          constructor
          · exact fun h => .inr ⟨g1, by omega, fun i hi => HP.out i hi hi⟩
          · rintro (h | ⟨_, h, _⟩)
            · exact absurd h HN.out
            · omega
        · have g1' : decide ((1 : Int) ≤ (s.size : Int)) = false := by simp; omega
          go_wp2_with fail
          go_ret
          refine ⟨false, by simp, ?_, rfl⟩
          simp only [Bool.false_eq_true, false_iff]
          rintro (h | ⟨h, _, _⟩)
          · exact HN.out h
          · omega
theorem tyTerm : ElemTy Tryz.prog 23 34 4 56 :=
  .mk' (z := .agg #[.int .i64 0, .int .i64 0, .string ByteArray.empty, .slice none 0 0]) Tryz.underlying23 (by kernel_rfl) rfl (by omega) (by omega)
def CopyTermOK (t : Tm) : Prop := ∀ (A : Nat → Prop) (w : World) (vs : List Value), Tm.rep A w t vs →
  Calls Tryz.prog 18 #[.agg vs.toArray] w (Pure w fun v w' => ∃ us, v = .agg us.toArray ∧ Tm.rep (New w) w' t us)
def CopyTermsOK (l : List Tm) : Prop := ∀ (A : Nat → Prop) (w : World) (v : Value), TmsR A w l v →
  Calls Tryz.prog 10 #[v] w (Pure w fun v' w' => TmsR (New w) w' l v')
set_option maxHeartbeats 400000 in
theorem copyTerms_of (l : List Tm) (ih : ∀ t ∈ l, CopyTermOK t) : CopyTermsOK l := by
  intro A w v hv
  obtain ⟨a, cap, b, off, rfl, hlc, hcm, hlb, ha, he⟩ := hv.at
  have HE := hid he
  have HA := hid ha
  clear hv he ha
  go_enter Tryz.func10, Tryz.ntmps10
  go_wp2_with fail
  go_loopw [3, 8] (fun v i wr => ∃ k : Nat, k ≤ l.length ∧ i = .int .i64 k ∧ Below w.heap.size w wr ∧ OwnR wr w.heap.size 34 4 Tm.rep (New w) (l.take k) v) (fun _ i _ => l.length - (intOf i).toNat)
  case atStart => exact ⟨0, Nat.zero_le _, rfl, Below.refl _ _, by simpa using OwnR.nil ..⟩
  case round =>
    obtain ⟨k, hk, rfl, hb, hown⟩ := hrel
    have hz := hb.size
    have HO := hid hown
    have HB := hid hb
    clear hown hb
    by_cases hlt : k < l.length
    · obtain ⟨rfl, hAb⟩ := HA.out (by omega)
      obtain ⟨sa, sc, c0, c1, c2, c3, hr⟩ := tm_cells HE.out hAb (Keeps.of_below HB.out) hlt
      have HC := hid (ih _ (List.getElem_mem hlt) _ (wr.alloc _) _ (Tm.rep_lasts.1 _ _ _ _ _ hr (Keeps.alloc _ _ (.cells (#[.int .i64 l[k].kind, .int .i64 l[k].n, .string l[k].s, .slice sa l[k].args.length sc] : Array Value) 34))))
      clear hr
      go_wp2_with fail
      refine (HC.out).mono ?_
      rintro e w1 ⟨v, rfl, hb1, us, rfl, hr⟩
      have hsz := hb1.size
      simp only [World.size_alloc] at hsz
      obtain ⟨sa', sc', rfl, -⟩ := Tm.rep4 hr
      have HO1 := hid ((HO.out.alloc Tm.rep_lasts _).below Tm.rep_lasts hb1)
      have HN := hid (fresh_elem Tm.rep_lasts HO.out (by simp) (A := New w) (fun b hb => by simp [New] at hb ⊢; omega) hr)
      have HL := hid (show (l.take k).length < 4194304 ∧ w.heap.size ≤ w1.heap.size by simp; omega)
      have HB1 := hid ((HB.out.alloc hz _).trans (hb1.mono (by simp; omega)))
      clear hr hb1 HC
      go_wp2_with (at_builtin; refine wpList_app1 rfl (.tmp 12) (.tmp 15) 23 rfl w.heap.size 34 4 56 tyTerm Tm.rep_lasts u3 (l.take k) rfl HO1.out l[k] [_, _, _, _] rfl rfl HN.out HL.out ?_; intro v' w2 hown2 hgrew)
      go_roundw
      case rel =>
        refine ⟨k + 1, by omega, by go_num, hgrew.below (HB1.out.alloc (by omega) _) (by simp; omega) (fun b hb => (HO.out.lt b hb).1), ?_⟩
        rw [List.take_succ_eq_append_getElem hlt]; exact hown2
      case measure => simp [intOf]; omega
    · have : k = l.length := by omega
      subst this
      go_wp2_with fail
      go_ret
      have hO := HO.out
      rw [List.take_length] at hO
      exact ⟨_, rfl, HB.out, hO.sl Tm.rep_lasts hlb (fun b hb => hb)⟩
theorem below_pure {w w1 : World} {o : Obj} (h : Below (w.alloc o).heap.size (w.alloc o) w1) : Below w.heap.size w w1 :=
  ((Below.refl _ _).alloc (Nat.le_refl _) o).trans (h.mono (by simp))
set_option maxHeartbeats 400000 in
theorem copyTerm_of (k n : Int) (s : ByteArray) (l : List Tm) (ih : CopyTermsOK l) : CopyTermOK (.mk k n s l) := by
  intro A w vs hv
  rw [Tm.rep_iff] at hv
  obtain ⟨hk, hn, hs, v, rfl, hl⟩ := hv
  obtain ⟨a, cap, b, off, rfl, -⟩ := hl.at
  have HC := hid (fun W (hK : Keeps A w W) => ih A W _ (SlR.keeps Tm.rep_lasts hl hK))
  clear hl
  go_enter Tryz.func18, Tryz.ntmps18
  go_wp2_with fail
  refine (HC.out _ ((Keeps.alloc _ _ _).trans (Keeps.alloc _ _ _))).mono ?_
  rintro e w1 ⟨v, rfl, hb1, hr⟩
  obtain ⟨hc, hf⟩ := bcell hb1
  have hcs := cell_set
  obtain ⟨a', cap', b', off', rfl, -⟩ := hr.at
  have HR := hid hr
  have HB := hid hb1
  have hz := hb1.size
  simp only [World.size_alloc] at hz
  clear hr hb1 HC
  go_wp2_with fail
  refine bodyPost_ret (v := .agg #[.int .i64 k, .int .i64 n, .string s, .slice a' l.length cap']) (by simp [results, Tryz.results18, go_sem, hcs, hc]) rfl ⟨_, rfl, ?_, [_, _, _, _], rfl, ?_⟩
  · refine Below.setCell (Below.setCell (Below.setCell (Below.setCell (Below.setCell (below_pure (below_pure HB.out)) ?_ _) ?_ _) ?_ _) ?_ _) ?_ _ <;> simp
  · rw [Tm.rep_iff]
    refine ⟨hk, hn, hs, _, rfl, ?_⟩
    have h1 := SlR.mono (A' := fun b => New w b ∧ b ≠ w.heap.size ∧ b ≠ w.heap.size + 1) Tm.rep_lasts (by omega) HR.out (fun b _ hb => by simp only [New, World.size_alloc] at hb ⊢; omega)
    refine SlR.mono Tm.rep_lasts (by omega) (SlR.keeps Tm.rep_lasts h1 ?_) (fun b _ hb => hb.1)
    refine Keeps.trans (Keeps.trans (Keeps.trans (Keeps.trans (Keeps.setCell _ _ _ _ ?_) (Keeps.setCell _ _ _ _ ?_)) (Keeps.setCell _ _ _ _ ?_)) (Keeps.setCell _ _ _ _ ?_)) (Keeps.setCell _ _ _ _ ?_) <;> simp
theorem copyTerm_ok : ∀ t, CopyTermOK t := by
  intro t
  induction t using Tm.induct with
  | h k n s l ih => exact copyTerm_of k n s l (copyTerms_of l ih)
end Go.Proofs.YtlpmfkpefoegeacGreatDoor
