/-
  The reader: space.
-/
import Derived.Test.YtlpmfkpefoegeacDoorQRd1
namespace Go.Proofs.YtlpmfkpefoegeacDoor
set_option linter.unusedVariables false
set_option linter.unusedSimpArgs false
open Go.RowKit
theorem nil_text : (bs []).toList.isEmpty = true ∧ (bs []).toList = [] := by rw [bs_toList]; exact ⟨rfl, rfl⟩
theorem cons_text (c : UInt8) (l : Str) : (bs (c :: l)).toList.isEmpty = false ∧ ¬ (bs (c :: l)).toList = [] ∧ 0 < (bs (c :: l)).size := by
  rw [bs_toList, bs_size]; exact ⟨rfl, by simp, by simp⟩
theorem cons_get (c : UInt8) (l : Str) (h : 0 < (bs (c :: l)).size) : (bs (c :: l))[0] = c := bs_get _ _ h
theorem cons_rest (c : UInt8) (l : Str) : (bs (c :: l)).extract 1 (bs (c :: l)).size = bs l := by
  rw [bs_extract, bs_size, List.drop_succ_cons, List.drop_zero, List.take_of_length_le (by simp)]
theorem sp_iff {c : UInt8} : spB c = true ↔ ((c.toNat : Int) = 32 ∨ (c.toNat : Int) = 10 ∨ (c.toNat : Int) = 9 ∨ (c.toNat : Int) = 13) := by
  have hsp : ∀ n : UInt8, (c == n) = decide (c.toNat = n.toNat) := fun n => by
    rw [Bool.eq_iff_iff, beq_iff_eq, decide_eq_true_eq, UInt8.toNat_inj]
  unfold spB
  simp only [hsp, Bool.or_eq_true, decide_eq_true_eq]
  have e3 : (32 : UInt8).toNat = 32 := rfl
  have e4 : (10 : UInt8).toNat = 10 := rfl
  have e5 : (9 : UInt8).toNat = 9 := rfl
  have e6 : (13 : UInt8).toNat = 13 := rfl
  rw [e3, e4, e5, e6]
  omega
theorem spaceF_sp {c : UInt8} {l : Str} (h : spB c = true) : spaceF (c :: l) = spaceF l := by unfold spaceF; rw [List.dropWhile_cons, if_pos h]
theorem spaceF_no {c : UInt8} {l : Str} (h : ¬ spB c = true) : spaceF (c :: l) = c :: l := by unfold spaceF; rw [List.dropWhile_cons, if_neg h]
section
variable {B base g : Nat} {vv : Value} {r : Rd} {w : World}
set_option maxHeartbeats 2000000 in
theorem rspace_ok (h : RdI B base g vv r w) : Calls Tryd.prog 24 #[.pointer (some ⟨g, 0, none⟩)] w (fun e w' => e = .returned (.tuple #[]) ∧ RdStep B base g vv r.space w w') := by
  have HU := hid h
  clear h
  go_enter Tryd.func24, Tryd.ntmps24
  go_wp2_with fail
  go_loopw [] (fun wr => ∃ s : Str, spaceF s = spaceF r.s ∧ RdStep B base g vv { r with s := s } w wr) (fun wr => rdMu g wr)
  case atStart => exact ⟨r.s, rfl, RdStep.refl HU.out⟩
  case round =>
    obtain ⟨s, hs, v1, hI, hch, hv⟩ := hrel
    have HI := hid hI
    have HS := hid hs
    have HCH := hid hch
    have HV := hid hv
    obtain ⟨b0, b1, b2, bf⟩ := hI.cells
    have hgl := hI.lt.1
    clear hI hs hch hv
    cases s with
    | nil =>
      obtain ⟨t1, t2⟩ := nil_text
      go_wp2_with fail
      refine bodyPost_end (v := .tuple #[]) (by simp [results, Tryd.results24, go_sem]) rfl ?_
      have e : r.space = { r with s := [] } := by unfold Rd.space; rw [← HS.out]; rfl
      rw [e]
      exact ⟨rfl, v1, HI.out, HCH.out, HV.out⟩
    | cons c rest =>
      obtain ⟨t1, t2, t3⟩ := cons_text c rest
      have hget := cons_get c rest t3
      have HG := hid hget
      clear hget
      by_cases e0 : (c.toNat : Int) = 32
      · have f0 : (((bs (c :: rest))[0].toNat : Int) == 32) = true := by rw [HG.out]; simpa using e0
        have HC := hid (sp_iff.2 (.inl e0))
        clear e0
        go_wp2_with fail
        obtain ⟨v2, k1, k2, k3⟩ := RdStep.trans HCH.out HV.out (HI.out.setS rest (by simp))
        have hmu : rdMu g (wr.setCell ⟨g, 0, none⟩ (.string (bs rest))) < rdMu g wr := by rw [rdMu_of k1, rdMu_of HI.out]; simp
        rw [cons_rest]
        exact ⟨⟨rest, by rw [← HS.out, spaceF_sp HC.out], v2, k1, k2, k3⟩, hmu⟩
      · have f0 : (((bs (c :: rest))[0].toNat : Int) == 32) = false := by rw [HG.out]; simpa using e0
        by_cases e1 : (c.toNat : Int) = 10
        · have f1 : (((bs (c :: rest))[0].toNat : Int) == 10) = true := by rw [HG.out]; simpa using e1
          have HC := hid (sp_iff.2 (.inr (.inl e1)))
          clear e0 e1
          go_wp2_with fail
          obtain ⟨v2, k1, k2, k3⟩ := RdStep.trans HCH.out HV.out (HI.out.setS rest (by simp))
          have hmu : rdMu g (wr.setCell ⟨g, 0, none⟩ (.string (bs rest))) < rdMu g wr := by rw [rdMu_of k1, rdMu_of HI.out]; simp
          rw [cons_rest]
          exact ⟨⟨rest, by rw [← HS.out, spaceF_sp HC.out], v2, k1, k2, k3⟩, hmu⟩
        · have f1 : (((bs (c :: rest))[0].toNat : Int) == 10) = false := by rw [HG.out]; simpa using e1
          by_cases e2 : (c.toNat : Int) = 9
          · have f2 : (((bs (c :: rest))[0].toNat : Int) == 9) = true := by rw [HG.out]; simpa using e2
            have HC := hid (sp_iff.2 (.inr (.inr (.inl e2))))
            clear e0 e1 e2
            go_wp2_with fail
            obtain ⟨v2, k1, k2, k3⟩ := RdStep.trans HCH.out HV.out (HI.out.setS rest (by simp))
            have hmu : rdMu g (wr.setCell ⟨g, 0, none⟩ (.string (bs rest))) < rdMu g wr := by rw [rdMu_of k1, rdMu_of HI.out]; simp
            rw [cons_rest]
            exact ⟨⟨rest, by rw [← HS.out, spaceF_sp HC.out], v2, k1, k2, k3⟩, hmu⟩
          · have f2 : (((bs (c :: rest))[0].toNat : Int) == 9) = false := by rw [HG.out]; simpa using e2
            by_cases e3 : (c.toNat : Int) = 13
            · have f3 : (((bs (c :: rest))[0].toNat : Int) == 13) = true := by rw [HG.out]; simpa using e3
              have HC := hid (sp_iff.2 (.inr (.inr (.inr (e3)))))
              clear e0 e1 e2 e3
              go_wp2_with fail
              obtain ⟨v2, k1, k2, k3⟩ := RdStep.trans HCH.out HV.out (HI.out.setS rest (by simp))
              have hmu : rdMu g (wr.setCell ⟨g, 0, none⟩ (.string (bs rest))) < rdMu g wr := by rw [rdMu_of k1, rdMu_of HI.out]; simp
              rw [cons_rest]
              exact ⟨⟨rest, by rw [← HS.out, spaceF_sp HC.out], v2, k1, k2, k3⟩, hmu⟩
            · have f3 : (((bs (c :: rest))[0].toNat : Int) == 13) = false := by rw [HG.out]; simpa using e3
              have HC := hid (show ¬ spB c = true from fun h => by have := sp_iff.1 h; omega)
              clear e0 e1 e2 e3
              go_wp2_with fail
              refine bodyPost_end (v := .tuple #[]) (by simp [results, Tryd.results24, go_sem]) rfl ?_
              have e : r.space = { r with s := c :: rest } := by unfold Rd.space; rw [← HS.out, spaceF_no HC.out]
              rw [e]
              exact ⟨rfl, v1, HI.out, HCH.out, HV.out⟩
end
end Go.Proofs.YtlpmfkpefoegeacDoor
