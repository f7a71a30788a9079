/-
  Names, and numbers brought into a range.
-/
import Derived.Test.YtlpmfkpefoegeacDoorQTerm
import Derived.Test.YtlpmfkpefoegeacDoorProg
namespace Go.Proofs.YtlpmfkpefoegeacDoor
set_option linter.unusedVariables false
set_option linter.unusedSimpArgs false
open Go.RowKit
def Tells (w : World) (p : Prop) (e : Ending) (w' : World) : Prop := ∃ r, e = .returned (.bool r) ∧ (r = true ↔ p) ∧ w = w'
def IsName (s : ByteArray) : Prop := s = ⟨#[33]⟩ ∨ (1 ≤ s.size ∧ s.size ≤ 8 ∧ ∀ i (h : i < s.size), 97 ≤ (s[i].toNat : Int) ∧ (s[i].toNat : Int) ≤ 122)
theorem toList_inj' {s s' : ByteArray} (h : s.toList = s'.toList) : s = s' := by
  rw [ByteArray.toList_eq, ByteArray.toList_eq] at h
  cases s; cases s'
  congr 1
  exact Array.toList_inj.1 h
set_option maxHeartbeats 400000 in
theorem named_ok (s : ByteArray) (w : World) (hs : s.size ≤ 1048576) :
    Calls Tryd.prog 84 #[.string s] w (Tells w (IsName s)) := by
  have hc : (⟨#[33]⟩ : ByteArray).toList = [33] := by decide +kernel
  by_cases h1 : s.toList = (⟨#[33]⟩ : ByteArray).toList
  · have h1b : (s.toList == [33]) = true := by rw [h1, hc]; rfl
    have hn : IsName s := .inl (toList_inj' h1)
    have HN := hid hn
    clear hn h1 hc
    go_enter Tryd.func84, Tryd.ntmps84
    go_wp2_with fail
    go_ret
    exact ⟨true, rfl, by simp [HN.out], rfl⟩
  · have h1' : ¬ s = ⟨#[33]⟩ := fun e => h1 (by rw [e])
    have h1b : (s.toList == [33]) = false := by rw [hc] at h1; simpa using h1
    have HN := hid h1'
    clear h1' h1 hc
    go_enter Tryd.func84, Tryd.ntmps84
    go_wp2_with fail
    go_loop [8] (fun i => ∃ k : Nat, k ≤ s.size ∧ i = .int .i64 k ∧ ∀ j (h : j < s.size), j < k → 97 ≤ (s[j].toNat : Int) ∧ (s[j].toNat : Int) ≤ 122) (fun i => s.size - (intOf i).toNat)
    case atStart => exact ⟨0, Nat.zero_le _, rfl, fun j _ h => by omega⟩
    case round =>
      obtain ⟨k, hk, rfl, hp⟩ := hrel
      have HP := hid hp
      clear hp
      by_cases hlt : k < s.size
      · by_cases g1 : (s[k].toNat : Int) < 97
        · go_wp2_with fail
          go_ret
          refine ⟨false, rfl, ?_, rfl⟩
          simp only [Bool.false_eq_true, false_iff]
          rintro (h | ⟨_, _, h⟩)
          · exact HN.out h
          · have := h k hlt; omega
        · by_cases g2 : 122 < (s[k].toNat : Int)
          · go_wp2_with fail
            go_ret
            refine ⟨false, rfl, ?_, rfl⟩
            simp only [Bool.false_eq_true, false_iff]
            rintro (h | ⟨_, _, h⟩)
            · exact HN.out h
            · have := h k hlt; omega
          · go_wp2_with fail
            go_round
            case rel =>
              refine ⟨k + 1, by omega, by go_num, fun j h hj => ?_⟩
              by_cases hjk : j = k
              · subst hjk; omega
              · exact HP.out j h (by omega)
            case measure => simp [intOf]; omega
      · have : k = s.size := by omega
        subst this
        by_cases g1 : 1 ≤ s.size
        · go_wp2_with fail
          go_ret
          refine ⟨decide ((s.size : Int) ≤ 8), by simp, ?_, rfl⟩
          rw [decide_eq_true_iff]
          constructor
          · exact fun h => .inr ⟨g1, by omega, fun i hi => HP.out i hi hi⟩
          · rintro (h | ⟨_, h, _⟩)
            · exact absurd h HN.out
            · omega
        · have g1' : decide ((1 : Int) ≤ (s.size : Int)) = false := by simp; omega
          go_wp2_with fail
          go_ret
          refine ⟨false, by simp, ?_, rfl⟩
          simp only [Bool.false_eq_true, false_iff]
          rintro (h | ⟨h, _, _⟩)
          · exact HN.out h
          · omega
end Go.Proofs.YtlpmfkpefoegeacDoor
