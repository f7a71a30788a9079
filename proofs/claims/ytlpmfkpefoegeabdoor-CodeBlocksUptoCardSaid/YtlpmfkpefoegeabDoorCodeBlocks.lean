/-
  querist/queristlaw.CodeBlocks returns true (the tied card), where what it reads is of bulk at most 1048576.
-/
import Derived.Test.YtlpmfkpefoegeabDoorHLoad
import Derived.Test.YtlpmfkpefoegeabDoorLCodeBlocks
import Derived.Test.YtlpmfkpefoegeabDoorCards
import Derived.Test.YtlpmfkpefoegeabDoorTie
import Derived.ProofKit
import Derived.OpenShut
import Derived.JoinedCond
import Derived.Carry
import Derived.Deep.DeepHandedRow
import Derived.Lib.LaidTab
namespace Go.Proofs.YtlpmfkpefoegeabDoor
set_option linter.unusedVariables false
set_option linter.unusedSimpArgs false
set_option maxRecDepth 100000
open Go.ChangeShapes Go.WideShapes Go.ChangeAt Go.RowKit

theorem codeBlocks_laid : laidOutB Tryd.prog = true := by kernel_rfl
theorem codeBlocks_own : ownKnob Tryd.prog.godebug = none := by kernel_rfl

theorem codeBlocks_contract (H : Type) (enc : TypeId × Value → H) (W : World) (base : Nat) (args : Array Value) (ds gs : List (DataW H)) (before : List MemPlace)
    (hval : ∀ (j : Nat) t v, Tryd.f6.params[j]? = some t → args[j]? = some v → Value.okWide Tryd.prog W .any base t v)
    (hk : Rows.uptoSmall H (ds ++ gs) = true)
    (hW : DataW.Whole enc Tryd.prog Tryd.f6.params.toList Rows.codeBlocksSpec.vars false W args.toList ds gs before) :
    Calls Tryd.prog 6 args W fun e W' => ∃ v, e = .returned v ∧ Rows.codeBlocksSpec.post enc Tryd.prog Tryd.f6 false true false false W args v W' := by
  have hW' := hW
  have hlt : ∀ p ∈ before, p.block < W.heap.size := fun p hp => hW.lt p hp
  obtain ⟨p, q, hA0, hV, rfl, hfz, hnd⟩ := hW
  have hA : DataW.TrodAll enc Tryd.prog W 0 (fun _ => true) true Tryd.f6.params.toList args.toList ds p := hA0
  rw [Tryd.params6] at hA hval
  obtain ⟨v0, vs0, d0, ds0, p0, q0, hargs, rfl, rfl, h0, r0⟩ := trodAll_cons hA
  obtain ⟨rfl, rfl, rfl⟩ := trodAll_nil r0
  obtain rfl : args = #[v0] := by cases args; simp_all
  obtain ⟨rfl, rfl⟩ := trodVars_none hV
  have hb : Rows.uptoBulkAll ([d0] ++ []) ≤ 1048576 := of_decide_eq_true hk
  simp only [List.append_nil, Rows.uptoBulkAll] at hb
  clear hA0
  have hag : ∀ (W' : World) (sp : Nat → Bool), Below W.heap.size W W' → (∀ p ∈ (p0 ++ []) ++ [], sp p.block = true) → DataW.TrodAll enc Tryd.prog W' 0 sp true [39] [v0] [d0] (p0 ++ []) := by
    intro W' sp hbel hsp
    exact trodAll_cons_mk (WideElems.Trod_stays codeBlocks_laid (by kernel_rfl) (of_decide_eq_true (by kernel_rfl)) h0 (fun x hx => hbel.same (hlt x (by simp [hx]))) (fun x hx => hsp x (by simp [hx]))) (trodAll_mk0)
  obtain ⟨c, uc, rfl, hc, nc⟩ := open_clause (hval 0 _ v0 rfl rfl) h0 (by omega)
  simp only [List.append_nil] at hW' hlt hag
  refine (codeBlocks_walk c (by omega) W uc hc).mono fun e W' hp => ?_
  obtain ⟨r, rfl, hbel, rfl⟩ := hp
  refine ⟨_, rfl, post_of_below (pv := []) hW' (fun _ _ _ => (trodAll_cons_mk (shut_bool Tryd.underlying4 _) trodAll_mk0)) (fun sp hsp => hag W' sp hbel hsp) (fun _ _ => rfl) (by simp) hbel
    (ok_one (by kernel_rfl) rfl (okWide_bool_mk Tryd.underlying4 _))⟩

/-- a world for the witness: the two tables as their initialisers lay them -/
def codeBlocksFirst : Array Value := match Go.Pinned.utf8First with
  | .agg l => (l.map fun x => match x with | .lit (.int k n) => Value.int k n | _ => .int .u8 0).toArray
  | _ => #[]
def codeBlocksLay (c : Array Value) (o : Obj) : Obj := match o with
  | .cells _ t frozen => .cells c t frozen
  | o => o
noncomputable def codeBlocksWorld (os : Os) : World :=
  { World.holding Tryd.prog os ⟨#[], #[], []⟩ with heap := ((World.holding Tryd.prog os ⟨#[], #[], []⟩).heap.modify 1 (codeBlocksLay codeBlocksFirst)).modify 2 (codeBlocksLay #[.int .u8 128, .int .u8 191, .int .u8 160, .int .u8 191, .int .u8 128, .int .u8 159, .int .u8 144, .int .u8 191, .int .u8 128, .int .u8 143, .int .u8 0, .int .u8 0, .int .u8 0, .int .u8 0, .int .u8 0, .int .u8 0, .int .u8 0, .int .u8 0, .int .u8 0, .int .u8 0, .int .u8 0, .int .u8 0, .int .u8 0, .int .u8 0, .int .u8 0, .int .u8 0, .int .u8 0, .int .u8 0, .int .u8 0, .int .u8 0, .int .u8 0, .int .u8 0]) }
theorem codeBlocks_laid_met (os : Os) : laidMet Tryd.prog Rows.codeBlocksUptoRow.laid ((codeBlocksWorld os).forCall (fun _ _ => 0) ⟨#[], #[.agg #[.int .i64 0, .int .i64 0, .string ByteArray.empty, .slice none 0 0, .slice none 0 0, .int .i64 0]], []⟩).memory :=
  laidMet_of_run' 8 (by kernel_rfl) (by kernel_rfl)
theorem codeBlocks_reads (os : Os) {H : Type} (enc : TypeId × Value → H) : ∃ places, DataW.whole enc Tryd.prog ((codeBlocksWorld os).forCall (fun _ _ => 0) ⟨#[], #[.agg #[.int .i64 0, .int .i64 0, .string ByteArray.empty, .slice none 0 0, .slice none 0 0, .int .i64 0]], []⟩).memory Tryd.f6.params.toList Rows.codeBlocksSpec.vars false (#[.agg #[.int .i64 0, .int .i64 0, .string ByteArray.empty, .slice none 0 0, .slice none 0 0, .int .i64 0]] : Array Value).toList 8 = some ([.agg [.agg [.lit (.int .i64 0), .lit (.int .i64 0), .lit (.string []), .nil], .nil, .lit (.int .i64 0)]], [], places) :=
  ⟨[], by kernel_rfl⟩

set_option maxRecDepth 100000 in
theorem codeBlocks_lifted (os : Os) (started : os.Started) (H : Type) (enc : TypeId × Value → H) (F : Stop.Interp) :
    ReturnsInHanded {} Tryd.checked os 6 .any ((Rows.OpenSpec.upto Rows.codeBlocksSpec).preRow enc Tryd.prog Tryd.f6 Rows.codeBlocksUptoRow.domain false Rows.codeBlocksUptoRow.laid) (((Rows.OpenSpec.upto Rows.codeBlocksSpec).at F).post enc Tryd.prog Tryd.f6 false true false false) := by
  obtain ⟨places, hx⟩ := codeBlocks_reads os enc
  refine returnsInHanded_of_row (C := Tryd.checked) (s := Rows.OpenSpec.upto Rows.codeBlocksSpec) codeBlocks_own started (by kernel_rfl) Tryd.func6
    (witness_row_at (enc := enc) (C := Tryd.checked) false (codeBlocksWorld os) #[.agg #[.int .i64 0, .int .i64 0, .string ByteArray.empty, .slice none 0 0, .slice none 0 0, .int .i64 0]] rfl (by kernel_rfl) (by kernel_rfl) (by kernel_rfl)
      (OpenSpec.preRow_of_cond 8 hx (by kernel_rfl) (fun k hk => by cases hk; kernel_rfl) (by kernel_rfl) (codeBlocks_laid_met os))) ?_
  intro W base args ds gs before hval hW _ hcond _ hL _ _
  exact codeBlocks_contract H enc W base args ds gs before hval (hcond _ rfl) hW

theorem codeBlocks_row : Rows.CodeBlocksUptoSaid :=
  OpenClaim.holds_of_cond 6 Tryd.f6 rfl rfl rfl rfl rfl rfl rfl ⟨rfl, rfl, rfl, rfl, rfl⟩ rfl rfl rfl rfl rfl (by kernel_rfl) Tryd.func6 (by kernel_rfl)
    (of_decide_eq_true (by kernel_rfl)) (by unfold Func.isWrapper; first | (rw [if_pos (by decide +kernel)]; kernel_rfl) | (rw [if_neg (by decide +kernel)]; exact ⟨rfl, rfl⟩))
    (fun os started H enc _ F => by rw [OpenClaim.pre_eq_preRow]; exact codeBlocks_lifted os started H enc F)

theorem codeBlocks_plain (f : FuncId) (fn : Func) (hf : Tryd.pinned.checked.prog.funcNamed "querist/queristlaw.CodeBlocks" = some f) (hfn : Tryd.pinned.checked.prog.funcs[f]? = some fn) :
    true = Tryd.pinned.checked.prog.looks [] ∧ ∀ (j : Nat) t, fn.params[j]? = some t → Tryd.pinned.checked.prog.wantsStandIn t = false := by
  obtain rfl : f = 6 := Option.some.inj ((show Tryd.prog.funcNamed "querist/queristlaw.CodeBlocks" = some 6 by kernel_rfl).symm.trans hf) |>.symm
  obtain rfl : fn = Tryd.f6 := (Option.some.inj (Tryd.func6.symm.trans hfn)).symm
  refine ⟨by kernel_rfl, fun j t ht => ?_⟩
  rw [Tryd.params6] at ht
  have hm := Array.mem_of_getElem? ht
  simp only [List.mem_toArray, List.mem_cons, List.not_mem_nil, or_false] at hm
  rcases hm with rfl
  · exact (show Tryd.prog.wantsStandIn 39 = false by kernel_rfl)

theorem codeBlocks_holds : Rows.CodeBlocksUptoCardSaid :=
  Claim7.holds_tied_plain_at .later [] _ _ _ _ codeBlocks_row (fun _ h => by cases h) (by kernel_rfl) (fun _ h => by cases h) codeBlocksUpto_row_tie rfl ⟨rfl, rfl⟩ (by kernel_rfl) rfl codeBlocks_plain (by kernel_rfl)
end Go.Proofs.YtlpmfkpefoegeabDoor
