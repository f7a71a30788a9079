/-
  A block that is being made: its beginning.
  Two lists of terms of a call's own, each grown by append; an append's step; two operations that may come up.
-/
import Derived.Test.YtlpmfkpefoegeabDoorQMakerG
import Derived.Test.YtlpmfkpefoegeabDoorQCopyHeap
namespace Go.Proofs.YtlpmfkpefoegeabDoor
set_option linter.unusedVariables false
set_option linter.unusedSimpArgs false
set_option maxRecDepth 100000
open Go.RowKit

/-- a cell for each variable -/
def begF (n : Nat) : List Ce := (List.range n).map fun (i : Nat) => (⟨0, (i : Int), ByteArray.empty⟩ : Ce)
theorem begF_len (n : Nat) : (begF n).length = n := by simp [begF]
theorem begF_succ (n : Nat) : begF (n + 1) = begF n ++ [⟨0, (n : Int), ByteArray.empty⟩] := by simp [begF, List.range_succ]

set_option maxHeartbeats 2000000 in
theorem begun_ok (n : Nat) (hn : n ≤ 65536) (w : World) :
    Calls Tryd.prog 54 #[.int .i64 (n : Int)] w (fun e w' => ∃ cv, e = .returned (.pointer (some ⟨w.heap.size, 0, none⟩)) ∧ Below w.heap.size w w' ∧ MkI w.heap.size (w.heap.size + 1) (begF n) cv w') := by
  have hcs := cell_set
  go_enter Tryd.func54, Tryd.ntmps54
  go_wp2_with fail
  have HX := hid (blk_new w (.cells #[.slice none 0 0] 75))
  have HB := hid ((Below.refl _ w).alloc (Nat.le_refl _) (.cells #[.slice none 0 0] 75))
  obtain ⟨g, hg⟩ : ∃ g, g = w.heap.size := ⟨_, rfl⟩
  have HG := hid hg
  have hz0 : g < (w.alloc (.cells #[.slice none 0 0] 75)).heap.size := by rw [hg]; simp
  rw [← hg] at HX
  rw [← hg]
  clear hg
  go_loopw [8] (fun i W => ∃ (j : Nat) (cv : Value), j ≤ n ∧ i = .int .i64 (j : Int) ∧ Below w.heap.size w W ∧ MkI g (g + 1) (begF j) cv W) (fun i _ => n - (intOf i).toNat)
  case atStart => exact ⟨0, _, Nat.zero_le _, rfl, HB.out, HX.out, OwnF.nil, by omega, by simp [begF], by omega⟩
  case round =>
    obtain ⟨j, cv, hj, rfl, hb, hm⟩ := hrel
    have HBL := hid hb
    have HM := hid hm
    obtain ⟨ca, cc, rfl, hl1, hmc⟩ := OwnF.val hm.own
    rw [begF_len] at hl1 hm HM
    obtain ⟨y0, yf⟩ := blk1 hm.box
    have hgs := blk_lt hm.box
    have hbw := hm.base_le
    have HOWB := hid (fun b (hb : ownB (.slice ca j cc) = some b) => hm.own.lt b hb)
    have HOR := hid (OwnF.ownR Ce.vals_len hm.own (fun _ => True))
    have HBX := hid (blk_alloc hm.box (.cells #[.int .i64 0, .int .i64 (j : Int), .string ByteArray.empty] 80))
    clear hb hm
    by_cases hlt : j < n
    · have hlt' : (j : Int) < (n : Int) := by omega
      have hl2 : (begF j).length < 4194304 := by rw [begF_len]; omega
      go_wp2_with (at_builtin; go_must (refine wpList_app1 rfl (.tmp 15) (.tmp 18) 47 rfl (g + 1) 80 3 32 tyCells Ce.rep_lasts (A := fun _ => True) (.slice ca j cc) (begF j) rfl HOR.out (⟨0, (j : Int), ByteArray.empty⟩ : Ce) [.int .i64 0, .int .i64 (j : Int), .string ByteArray.empty] rfl rfl ⟨⟨by unfold I64; simp only; omega, by unfold I64; simp only; omega, (show ByteArray.empty.size ≤ 1048576 by decide)⟩, rfl⟩ ⟨hl2, hbw⟩ ?_); go_must (intro v2 w2 hown hgrew; have HO2 := hid (OwnF.of_ownR hown); obtain ⟨va2, vc2, hv2, hvl2, hvm2⟩ := OwnF.val HO2.out; rw [List.length_append, List.length_singleton, begF_len] at hv2; subst hv2; have HB2 := hid (show w2.heap[g]? = _ from (hgrew.grown.block g (by simp; omega) (fun e => by have := (HOWB.out _ e.symm).1; omega)).trans HBX.out); obtain ⟨z0, zf⟩ := blk1 HB2.out; have hgs2 := blk_lt HB2.out; have HG2 := hid hgrew; have hz2 := hgrew.size; clear hown hgrew y0 yf))
      go_roundw
      case rel =>
        obtain ⟨cv', h1, h2, h3⟩ := mgrew_of HM.out (by rw [begF_len]; omega) (Ch.refl _ _) (Nat.le_refl _) HO2.out HB2.out HG2.out
        refine ⟨j + 1, cv', by omega, by go_num, ?_, by rw [begF_succ]; exact h1⟩
        refine ((Ch.of_below (M := fun _ => False) HBL.out).trans h2 (fun b hb => .inr ?_)).below (fun _ _ h => h)
        have hgw := HG.out
        rcases hb with rfl | hb
        · omega
        · have := (HOWB.out b hb).1; omega
      case measure => first | (simp [intOf]; done) | (simp [intOf]; omega)
    · have hje : j = n := by omega
      subst hje
      have hlt' : ¬ ((j : Int) < (j : Int)) := by omega
      clear hlt
      go_wp2_with fail
      go_ret
      have hm := HM.out
      rw [HG.out] at hm
      exact ⟨by rw [← HG.out]; rfl, HBL.out, _, hm⟩
end Go.Proofs.YtlpmfkpefoegeabDoor

namespace Go.Proofs.YtlpmfkpefoegeabDoor
set_option linter.unusedVariables false
set_option linter.unusedSimpArgs false
open Go.RowKit

/-- none of the two lists' own blocks -/
def Out (B : Nat) (av bv : Value) (b : Nat) : Prop := B ≤ b ∧ ownB av ≠ some b ∧ ownB bv ≠ some b

structure Two (B : Nat) (w : World) (la lb : List Tm) (av bv : Value) : Prop where
  a : OwnR w B 31 4 Tm.rep (fun b => B ≤ b ∧ ownB bv ≠ some b) la av
  b : OwnR w B 31 4 Tm.rep (fun b => B ≤ b ∧ ownB av ≠ some b) lb bv
  sep : ∀ k, ownB av = some k → ownB bv ≠ some k

theorem Two.swap {B : Nat} {w : World} {la lb : List Tm} {av bv : Value} (h : Two B w la lb av bv) : Two B w lb la bv av :=
  ⟨h.b, h.a, fun k h1 h2 => h.sep k h2 h1⟩
theorem Two.nil (B : Nat) (w : World) : Two B w [] [] (.slice none 0 0) (.slice none 0 0) := ⟨OwnR.nil .., OwnR.nil .., fun k h => by simp [ownB] at h⟩
theorem Two.keeps {B : Nat} {w w' : World} {la lb : List Tm} {av bv : Value} (h : Two B w la lb av bv) (hk : Keeps (fun b => B ≤ b) w w') : Two B w' la lb av bv :=
  ⟨h.a.keeps Tm.rep_lasts hk (fun _ h => h.1) (fun k e => (h.a.lt k e).1), h.b.keeps Tm.rep_lasts hk (fun _ h => h.1) (fun k e => (h.b.lt k e).1), h.sep⟩
theorem Two.below {B : Nat} {w w' : World} {la lb : List Tm} {av bv : Value} (h : Two B w la lb av bv) (hb : Below w.heap.size w w') : Two B w' la lb av bv := h.keeps (Keeps.of_below hb)

/-- what an append onto the first asks for -/
theorem Two.src {B : Nat} {w : World} {la lb ys : List Tm} {av bv x : Value} (h : Two B w la lb av bv) (hx : TmsR (Out B av bv) w ys x) :
    SlR 4 Tm.rep (fun b => (B ≤ b ∧ ownB bv ≠ some b) ∧ ownB av ≠ some b) w ys x := SlR.mono Tm.rep_lasts (by omega) hx (fun b _ hb => ⟨⟨hb.1, hb.2.2⟩, hb.2.1⟩)

theorem Grew.new {w w' : World} {v v' : Value} (h : Grew w w' v v') {b : Nat} (hb : b < w.heap.size) (hn : ownB v ≠ some b) : ownB v' ≠ some b := fun e => by
  rcases h.block with h1 | h1
  · exact hn (h1 ▸ e)
  · have := h1 b e; omega

theorem Two.app {B : Nat} {w w' : World} {la lb ys : List Tm} {av bv v' : Value} (h : Two B w la lb av bv) (h1 : OwnR w' B 31 4 Tm.rep (fun b => B ≤ b ∧ ownB bv ≠ some b) (la ++ ys) v') (hg : Grew w w' av v') :
    Two B w' (la ++ ys) lb v' bv := by
  refine ⟨h1, ?_, fun k e e2 => ?_⟩
  · have h2 := h.b.mono (A' := fun b => (B ≤ b ∧ ownB av ≠ some b) ∧ ownB v' ≠ some b) Tm.rep_lasts (fun b hb hb' => ⟨hb', hg.new hb hb'.2⟩)
    have h3 := h2.keeps (B := fun b => ownB av ≠ some b) Tm.rep_lasts (hg.keeps (fun _ h => h)) (fun b hb => hb.1.2) (fun k e e2 => h.sep k e2 e)
    exact h3.mono Tm.rep_lasts (fun b _ hb => ⟨hb.1.1, hb.2⟩)
  · exact hg.new (h.b.lt k e2).2 (fun e3 => h.sep k e3 e2) e

theorem Out.app {B : Nat} {w w' : World} {av bv v' z : Value} {zs : List Tm} (hg : Grew w w' av v') (hz : TmsR (Out B av bv) w zs z) : TmsR (Out B v' bv) w' zs z := by
  have h2 := SlR.mono (A' := fun b => Out B av bv b ∧ ownB v' ≠ some b) Tm.rep_lasts (by omega) hz (fun b hb hb' => ⟨hb', hg.new hb hb'.2.1⟩)
  have h3 := SlR.keeps Tm.rep_lasts h2 (hg.keeps (A := fun b => Out B av bv b ∧ ownB v' ≠ some b) (fun b hb => hb.1.2.1))
  exact SlR.mono Tm.rep_lasts (by omega) h3 (fun b _ hb => ⟨hb.1.1, hb.2, hb.1.2.2⟩)

theorem Out.appT {B : Nat} {w w' : World} {av bv v' : Value} {t : Tm} {us : List Value} (hg : Grew w w' av v') (hz : Tm.rep (Out B av bv) w t us) : Tm.rep (Out B v' bv) w' t us := by
  have h2 := Tm.rep_lasts.2.1 _ (fun b => Out B av bv b ∧ ownB v' ≠ some b) _ _ _ hz (fun b hb hb' => ⟨hb', hg.new hb hb'.2.1⟩)
  have h3 := Tm.rep_lasts.1 _ _ _ _ _ h2 (hg.keeps (A := fun b => Out B av bv b ∧ ownB v' ≠ some b) (fun b hb => hb.1.2.1))
  exact Tm.rep_lasts.2.1 _ _ _ _ _ h3 (fun b _ hb => ⟨hb.1.1, hb.2, hb.1.2.2⟩)

theorem Out.swap {B : Nat} {w : World} {av bv z : Value} {zs : List Tm} (hz : TmsR (Out B av bv) w zs z) : TmsR (Out B bv av) w zs z :=
  SlR.mono Tm.rep_lasts (by omega) hz (fun b _ hb => ⟨hb.1, hb.2.2, hb.2.1⟩)
theorem Out.swapT {B : Nat} {w : World} {av bv : Value} {t : Tm} {us : List Value} (hz : Tm.rep (Out B av bv) w t us) : Tm.rep (Out B bv av) w t us :=
  Tm.rep_lasts.2.1 _ _ _ _ _ hz (fun b _ hb => ⟨hb.1, hb.2.2, hb.2.1⟩)

/-- a block just made, of one term: it is read as a slice -/
theorem Out.made {B : Nat} {w : World} {av bv : Value} {la lb : List Tm} {t : Tm} {us : List Value} (h : Two B w la lb av bv) (hB : B ≤ w.heap.size) (ht : Tm.rep (Out B av bv) w t us) :
    TmsR (Out B av bv) (w.alloc (.cells us.toArray 31)) [t] (.slice (some ⟨w.heap.size, 0, none⟩) 1 1) := by
  have hl := Tm.rep_lasts.2.2
  refine ⟨w.heap.size, 0, ⟨by simp, .inr ⟨by simp, ⟨hB, fun e => by have := (h.a.lt _ e).2; omega, fun e => by have := (h.b.lt _ e).2; omega⟩, 1, rfl, by simp, by simp [maxLen]⟩⟩, ?_⟩
  exact elems_one Tm.rep_lasts _ (by obtain ⟨a, c, rfl, -⟩ := Tm.rep4 ht; rfl) ht

section
variable {P : Program} {ops : Array Oper} {Q : Exit → Act → World → Prop}
theorem wp_appS {w : World} {o : Oper} {a : Act} {K : Act → World → Prop} (s x : Operand) (t : TypeId)
    (ho : o.op = .call { callee := .builtin .append, args := #[s, x], argTypes := #[t, t] })
    (base : Nat) (e : TypeId) (size bytes : Nat) (hty : ElemTy P t e size bytes) {α : Type} {R : (Nat → Prop) → World → α → List Value → Prop} (hR : Lasts R) {A : Nat → Prop}
    (v : Value) (xs : List α) (hs : a.eval s = v) (hown : OwnR w base e size R A xs v) (xv : Value) (hxv : a.eval x = xv) (ys : List α) (hx : SlR size R (fun b => A b ∧ ownB v ≠ some b) w ys xv)
    (hlen : xs.length + ys.length ≤ 4194304) (hbase : base ≤ w.heap.size)
    (h : ∀ v' w', OwnR w' base e size R A (xs ++ ys) v' → Grew w w' v v' → K (a.put o.dst v') w') : o.wp P a w K Q := by
  obtain ⟨v', w', hr, k1, k2⟩ := run_appS (P := P) w base t o.type e size bytes hty hR v xs hown xv ys hx hlen hbase
  unfold Oper.wp execOp
  simp only [ho, resolve, invoke, builtin, Sem.run_bind, Sem.run_pure, Result.andThen_ok, List.map_toArray, List.map_cons, List.map_nil, hs, hxv, hr]
  exact h v' w' k1 k2

theorem wpAnyF_two {F : Nat → World → Prop} {i j : Nat} {fuel : Nat} {listed : Array Bool} {a : Act} {w : World} (hr : Region.ready .any ops listed = [i, j])
    (h1 : wpOp P ops Q i (fun a' w' => KeepF ops F i w w' ∧ wpAnyF P ops Q F fuel (listed.setIfInBounds i true) a' w') a w)
    (h2 : wpOp P ops Q j (fun a' w' => KeepF ops F j w w' ∧ wpAnyF P ops Q F fuel (listed.setIfInBounds j true) a' w') a w) : wpAnyF P ops Q F (fuel + 1) listed a w :=
  ⟨fun h0 => (by rw [hr] at h0; cases h0), fun k hk => (by
    rw [hr] at hk
    simp only [List.mem_cons, List.not_mem_nil, or_false] at hk
    rcases hk with rfl | rfl
    · exact h1
    · exact h2)⟩
end
end Go.Proofs.YtlpmfkpefoegeabDoor
