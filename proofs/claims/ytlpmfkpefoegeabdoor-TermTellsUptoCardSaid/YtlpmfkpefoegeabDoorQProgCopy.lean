/-
  Copies of programs, of their own memory.
-/
import Derived.Test.YtlpmfkpefoegeabDoorQClauseCopy
namespace Go.Proofs.YtlpmfkpefoegeabDoor
set_option linter.unusedVariables false
set_option linter.unusedSimpArgs false
open Go.RowKit

theorem tyClause : ElemTy Tryd.prog 32 39 6 88 :=
  .mk' (z := .agg #[.int .i64 0, .int .i64 0, .string ByteArray.empty, .slice none 0 0, .slice none 0 0, .int .i64 0]) Tryd.underlying32 (by kernel_rfl) rfl (by omega) (by omega)

set_option maxHeartbeats 1000000 in
theorem progCopy_ok (l : List Cl) (A : Nat → Prop) (w : World) (v : Value) (hv : ClsR A w l v) :
    Calls Tryd.prog 29 #[v] w (Pure w fun v' w' => ClsR (New w) w' l v') := by
  obtain ⟨a, cap, b, off, rfl, hlc, hcm, hlb, ha, he⟩ := hv.at
  have HE := hid he
  have HA := hid ha
  clear hv he ha
  go_enter Tryd.func29, Tryd.ntmps29
  go_wp2_with fail
  go_loopw [3, 8] (fun v i wr => ∃ k : Nat, k ≤ l.length ∧ i = .int .i64 k ∧ Below w.heap.size w wr ∧ OwnR wr w.heap.size 39 6 Cl.rep (New w) (l.take k) v) (fun _ i _ => l.length - (intOf i).toNat)
  case atStart => exact ⟨0, Nat.zero_le _, rfl, Below.refl _ _, by simpa using OwnR.nil ..⟩
  case round =>
    obtain ⟨k, hk, rfl, hb, hown⟩ := hrel
    have hz := hb.size
    have HO := hid hown
    have HB := hid hb
    clear hown hb
    by_cases hlt : k < l.length
    · obtain ⟨rfl, hAb⟩ := HA.out (by omega)
      obtain ⟨sa, sc, ba, bc, c0, c1, c2, c3, c4, c5, hr⟩ := cl_cells HE.out hAb (Keeps.of_below HB.out) hlt
      have HC := hid (clauseCopy_ok l[k] _ (wr.alloc _) _ (Cl.rep_lasts.1 _ _ _ _ _ hr (Keeps.alloc _ _ (.cells (#[.int .i64 l[k].head.kind, .int .i64 l[k].head.n, .string l[k].head.s, .slice sa l[k].head.args.length sc, .slice ba l[k].body.length bc, .int .i64 l[k].vars] : Array Value) 39))))
      clear hr
      go_wp2_with fail
      refine (HC.out).mono ?_
      rintro e w1 ⟨v, rfl, hb1, us, rfl, hr⟩
      have hsz := hb1.size
      simp only [World.size_alloc] at hsz
      have hr0 := hr
      obtain ⟨sa', sc', ba', bc', rfl, -⟩ := hr0
      have HO1 := hid ((HO.out.alloc Cl.rep_lasts _).below Cl.rep_lasts hb1)
      have HN := hid (fresh_elem Cl.rep_lasts HO.out (by simp) (A := New w) (fun b hb => by simp [New] at hb ⊢; omega) hr)
      have HL := hid (show (l.take k).length < 4194304 ∧ w.heap.size ≤ w1.heap.size by simp; omega)
      have HB1 := hid ((HB.out.alloc hz _).trans (hb1.mono (by simp; omega)))
      clear hr hb1 HC
      go_wp2_with (at_builtin; refine wpList_app1 rfl (.tmp 12) (.tmp 15) 32 rfl w.heap.size 39 6 88 tyClause Cl.rep_lasts u3 (l.take k) rfl HO1.out l[k] [_, _, _, _, _, _] rfl rfl HN.out HL.out ?_; intro v' w2 hown2 hgrew)
      go_roundw
      case rel =>
        refine ⟨k + 1, by omega, by go_num, hgrew.below (HB1.out.alloc (by omega) _) (by simp; omega) (fun b hb => (HO.out.lt b hb).1), ?_⟩
        rw [List.take_succ_eq_append_getElem hlt]; exact hown2
      case measure => simp [intOf]; omega
    · have : k = l.length := by omega
      subst this
      go_wp2_with fail
      go_ret
      have hO := HO.out
      rw [List.take_length] at hO
      exact ⟨_, rfl, HB.out, hO.sl Cl.rep_lasts hlb (fun b hb => hb)⟩
end Go.Proofs.YtlpmfkpefoegeabDoor
