/-
  The reader in memory.
-/
import Derived.Test.YtlpmfkpefoegeacDoorPRead2
import Derived.Test.YtlpmfkpefoegeacDoorPNum
import Derived.Test.YtlpmfkpefoegeacDoorQOwn
import Derived.StillTailTactics
import Derived.BigQuiet
import Derived.Lib.LaidTab
import Derived.Lib.ItoaNum
import Derived.Lib.Strings
namespace Go.Proofs.YtlpmfkpefoegeacDoor
set_option linter.unusedVariables false
set_option linter.unusedSimpArgs false
open Go.RowKit
/-! texts -/
theorem bs_size (s : Str) : (bs s).size = s.length := by simp [bs, ByteArray.size]
theorem bs_data (s : Str) : (bs s).data.toList = s := by simp [bs]
theorem bs_toList (s : Str) : (bs s).toList = s := by rw [ByteArray.toList_eq, bs_data]
theorem bs_of (s : ByteArray) : bs s.data.toList = s := by simp [bs]
theorem bs_extract (s : Str) (a b : Nat) : (bs s).extract a b = bs ((s.drop a).take (b - a)) := by
  have h := Lib.extract_data (bs s) a b
  rw [bs_data] at h
  rw [← bs_of ((bs s).extract a b), h]
theorem bs_get (s : Str) (i : Nat) (h : i < (bs s).size) : (bs s)[i] = s[i]'(by rw [bs_size] at h; exact h) := by
  show (bs s).data[i] = _
  simp [bs]
structure Tabs (w : World) : Prop where
  pow : Lib.TabIs Tryd.prog w "internal/strconv.uint64pow10" .u64 Lib.pow10Tab
  syn : ∃ tp p, w.var? Tryd.prog "strconv.ErrSyntax" = some #[.iface tp p]
  rng : ∃ tp p, w.var? Tryd.prog "strconv.ErrRange" = some #[.iface tp p]
def TabsK (B : Nat) (w : World) : Prop := ∀ w', Keeps (fun b => b < B) w w' → Tabs w'
theorem TabsK.now {B : Nat} {w : World} (h : TabsK B w) : Tabs w := h w (Keeps.refl _ _)
theorem TabsK.keeps {B : Nat} {w w' : World} (h : TabsK B w) (hk : Keeps (fun b => b < B) w w') : TabsK B w' := fun w2 h2 => h w2 (hk.trans h2)
theorem TabsK.below {B : Nat} {w w' : World} (h : TabsK B w) (hk : Below w.heap.size w w') : TabsK B w' := h.keeps (Keeps.of_below hk)
def strV (s : Str) : List Value := [.string (bs s)]
def strOk (s : Str) : Prop := s.length ≤ 1048576
theorem strV_len (s : Str) : (strV s).length = 1 := rfl
theorem strV_one (s : Str) : ∀ u ∈ strV s, u.oneCell' = true := by simp [strV, Value.oneCell']
theorem tyStrs : ElemTy Tryd.prog 39 9 1 16 := .mk' (z := .string ByteArray.empty) Tryd.underlying39 (by kernel_rfl) rfl (by omega) (by omega)
abbrev OwnS (w : World) (base : Nat) (l : List Str) (v : Value) : Prop := OwnF strV strOk 9 1 w base l v
def RdM (g : Nat) (vv : Value) (b : Nat) : Prop := b = g ∨ ownB vv = some b
structure RdI (B base g : Nat) (vv : Value) (r : Rd) (w : World) : Prop where
  box : w.heap[g]? = some (.cells #[.string (bs r.s), vv, .bool r.bad] 53 (0, 0))
  vars : OwnS w base r.vars vv
  tab : TabsK B w
  bg : B ≤ g ∧ g < base ∧ base ≤ w.heap.size
  len : r.s.length + r.vars.length ≤ 2000
section
variable {B base g : Nat} {vv vv' : Value} {r r' : Rd} {w w' : World}
theorem RdI.lt (h : RdI B base g vv r w) : g < w.heap.size ∧ base ≤ w.heap.size := ⟨blk_lt h.box, h.bg.2.2⟩
theorem RdI.apart (h : RdI B base g vv r w) : ownB vv ≠ some g := fun e => by have := (h.vars.lt g e).1; have := h.bg; omega
theorem RdI.cells (h : RdI B base g vv r w) : w.cell? ⟨g, 0, none⟩ = some (.string (bs r.s)) ∧ w.cell? ⟨g, 1, none⟩ = some vv ∧ w.cell? ⟨g, 2, none⟩ = some (.bool r.bad) ∧ ∀ o, w.frozen? ⟨g, o, none⟩ = false :=
  ⟨(blk_cell h.box 0).trans rfl, (blk_cell h.box 1).trans rfl, (blk_cell h.box 2).trans rfl, fun o => by simp [World.frozen?, h.box]⟩
theorem RdI.below (h : RdI B base g vv r w) (hb : Below w.heap.size w w') : RdI B base g vv r w' :=
  ⟨blk_below h.box hb, h.vars.below hb, h.tab.below hb, ⟨h.bg.1, h.bg.2.1, Nat.le_trans h.bg.2.2 hb.size⟩, h.len⟩
def RdStep (B base g : Nat) (vv : Value) (r' : Rd) (w w' : World) : Prop :=
  ∃ vv', RdI B base g vv' r' w' ∧ Ch (RdM g vv) w w' ∧ (∀ b, ownB vv' = some b → ownB vv = some b ∨ w.heap.size ≤ b)
theorem RdStep.refl (h : RdI B base g vv r w) : RdStep B base g vv r w w := ⟨vv, h, Ch.refl _ _, fun b h => .inl h⟩
theorem RdStep.trans {r'' : Rd} {w'' : World} (hc : Ch (RdM g vv) w w') (hv : ∀ b, ownB vv' = some b → ownB vv = some b ∨ w.heap.size ≤ b) (h : RdStep B base g vv' r'' w' w'') : RdStep B base g vv r'' w w'' := by
  obtain ⟨v2, h1, h2, h3⟩ := h
  refine ⟨v2, h1, hc.trans h2 ?_, fun b hb => ?_⟩
  · rintro b (e | e)
    · exact .inl (.inl e)
    · exact (hv b e).imp (fun e => .inr e) id
  · rcases h3 b hb with e | e
    · exact hv b e
    · exact .inr (Nat.le_trans hc.size e)
theorem RdI.setS (h : RdI B base g vv r w) (s : Str) (hs : s.length ≤ r.s.length) : RdStep B base g vv { r with s := s } w (w.setCell ⟨g, 0, none⟩ (.string (bs s))) := by
  have hch0 : Ch (fun b => b = g) w (w.setCell ⟨g, 0, none⟩ (.string (bs s))) := (Ch.refl (fun b => b = g) w).setCell (p := ⟨g, 0, none⟩) (.inl rfl) _
  have hap := h.apart
  refine ⟨vv, ⟨(blk_set h.box 0 _).trans rfl, h.vars.kept fun k hk => hch0.block k (h.vars.lt k hk).2 (fun e => hap (e ▸ hk)), h.tab.keeps (hch0.keeps fun b hb hA e => by have := h.bg; omega), ⟨h.bg.1, h.bg.2.1, Nat.le_trans h.bg.2.2 hch0.size⟩, ?_⟩, hch0.mono fun b _ hb => .inl hb, fun b hb => .inl hb⟩
  have := h.len
  simp only; omega
theorem RdI.setBad (h : RdI B base g vv r w) (t : Bool) : RdStep B base g vv { r with bad := t } w (w.setCell ⟨g, 2, none⟩ (.bool t)) := by
  have hch0 : Ch (fun b => b = g) w (w.setCell ⟨g, 2, none⟩ (.bool t)) := (Ch.refl (fun b => b = g) w).setCell (p := ⟨g, 2, none⟩) (.inl rfl) _
  have hap := h.apart
  exact ⟨vv, ⟨(blk_set h.box 2 _).trans rfl, h.vars.kept fun k hk => hch0.block k (h.vars.lt k hk).2 (fun e => hap (e ▸ hk)), h.tab.keeps (hch0.keeps fun b hb hA e => by have := h.bg; omega), ⟨h.bg.1, h.bg.2.1, Nat.le_trans h.bg.2.2 hch0.size⟩, h.len⟩, hch0.mono fun b _ hb => .inl hb, fun b hb => .inl hb⟩
theorem RdI.setVars (h : RdI B base g vv r w) : RdStep B base g vv { r with vars := [] } w (w.setCell ⟨g, 1, none⟩ (.slice none 0 0)) := by
  have hch0 : Ch (fun b => b = g) w (w.setCell ⟨g, 1, none⟩ (.slice none 0 0)) := (Ch.refl (fun b => b = g) w).setCell (p := ⟨g, 1, none⟩) (.inl rfl) _
  refine ⟨.slice none 0 0, ⟨(blk_set h.box 1 _).trans rfl, OwnF.nil, h.tab.keeps (hch0.keeps fun b hb hA e => by have := h.bg; omega), ⟨h.bg.1, h.bg.2.1, Nat.le_trans h.bg.2.2 hch0.size⟩, ?_⟩, hch0.mono fun b _ hb => .inl hb, fun b hb => by simp [ownB] at hb⟩
  have := h.len
  simp only [List.length_nil]; omega
end
def rdMu (g : Nat) (w : World) : Nat := match w.cell? ⟨g, 0, none⟩ with
  | some (.string s) => s.size
  | _ => 0
theorem rdMu_of {B base g : Nat} {vv : Value} {r : Rd} {w : World} (h : RdI B base g vv r w) : rdMu g w = r.s.length := by
  unfold rdMu
  rw [h.cells.1]
  exact bs_size _
end Go.Proofs.YtlpmfkpefoegeacDoor
