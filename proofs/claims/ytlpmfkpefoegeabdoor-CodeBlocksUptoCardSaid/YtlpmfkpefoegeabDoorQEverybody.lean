/-
  What everybody knows, as the document's own answer has it.
-/
import Derived.Test.YtlpmfkpefoegeabDoorQFits
import Derived.BigQuiet
namespace Go.Proofs.YtlpmfkpefoegeabDoor
set_option linter.unusedVariables false
set_option linter.unusedSimpArgs false
set_option maxRecDepth 100000
open Go.RowKit

def knownAt : Nat → List UInt8 × Nat
  | 0 => ([33], 0) | 1 => ([116, 114, 117, 101], 0) | 2 => ([102, 97, 105, 108], 0) | 3 => ([101, 113], 2) | 4 => ([108, 101, 115, 115], 2) | _ => ([97, 100, 100], 3)

theorem known_iff (t : Tm) : t.Known ↔ ∃ q, q < 6 ∧ t.s.toList = (knownAt q).1 ∧ t.args.length = (knownAt q).2 := by
  constructor
  · rintro (⟨h, h1 | h1 | h1⟩ | ⟨h, h1 | h1⟩ | ⟨h, h1⟩)
    · exact ⟨0, by omega, h1, h⟩
    · exact ⟨1, by omega, h1, h⟩
    · exact ⟨2, by omega, h1, h⟩
    · exact ⟨3, by omega, h1, h⟩
    · exact ⟨4, by omega, h1, h⟩
    · exact ⟨5, by omega, h1, h⟩
  · rintro ⟨q, hq, h1, h2⟩
    match q, hq with
    | 0, _ => exact .inl ⟨h2, .inl h1⟩
    | 1, _ => exact .inl ⟨h2, .inr (.inl h1)⟩
    | 2, _ => exact .inl ⟨h2, .inr (.inr h1)⟩
    | 3, _ => exact .inr (.inl ⟨h2, .inl h1⟩)
    | 4, _ => exact .inr (.inl ⟨h2, .inr h1⟩)
    | 5, _ => exact .inr (.inr ⟨h2, h1⟩)

set_option maxHeartbeats 2000000 in
theorem everybody_ok (t : Tm) (A : Nat → Prop) (w : World) (vs : List Value) (hv : Tm.rep A w t vs) :
    Calls Tryd.prog 21 #[.agg vs.toArray] w (Pure w (BoolP t.Known)) := by
  obtain ⟨sa, sc, rfl, -⟩ := Tm.rep4 hv
  clear hv
  go_enter Tryd.func21, Tryd.ntmps21
  go_wp2_with fail
  have HX0 := hid (blk_alloc (blk_new w (.cells #[.int .i64 t.kind, .int .i64 t.n, .string t.s, .slice sa t.args.length sc] 31)) (.cells #[.string ⟨#[33, 47, 48]⟩, .string ⟨#[116, 114, 117, 101, 47, 48]⟩, .string ⟨#[102, 97, 105, 108, 47, 48]⟩, .string ⟨#[101, 113, 47, 50]⟩, .string ⟨#[108, 101, 115, 115, 47, 50]⟩, .string ⟨#[97, 100, 100, 47, 51]⟩] 9))
  have HY0 := hid (blk_new (w.alloc (.cells #[.int .i64 t.kind, .int .i64 t.n, .string t.s, .slice sa t.args.length sc] 31)) (.cells #[.string ⟨#[33, 47, 48]⟩, .string ⟨#[116, 114, 117, 101, 47, 48]⟩, .string ⟨#[102, 97, 105, 108, 47, 48]⟩, .string ⟨#[101, 113, 47, 50]⟩, .string ⟨#[108, 101, 115, 115, 47, 50]⟩, .string ⟨#[97, 100, 100, 47, 51]⟩] 9))
  have HB0 := hid (((Below.refl _ w).alloc (Nat.le_refl _) (.cells #[.int .i64 t.kind, .int .i64 t.n, .string t.s, .slice sa t.args.length sc] 31)).alloc (by simp) (.cells #[.string ⟨#[33, 47, 48]⟩, .string ⟨#[116, 114, 117, 101, 47, 48]⟩, .string ⟨#[102, 97, 105, 108, 47, 48]⟩, .string ⟨#[101, 113, 47, 50]⟩, .string ⟨#[108, 101, 115, 115, 47, 50]⟩, .string ⟨#[97, 100, 100, 47, 51]⟩] 9))
  have hz0 : (w.alloc (.cells #[.int .i64 t.kind, .int .i64 t.n, .string t.s, .slice sa t.args.length sc] 31)).heap.size = w.heap.size + 1 := by simp
  rw [hz0] at HY0
  generalize (w.alloc (.cells #[.int .i64 t.kind, .int .i64 t.n, .string t.s, .slice sa t.args.length sc] 31)).alloc (.cells #[.string ⟨#[33, 47, 48]⟩, .string ⟨#[116, 114, 117, 101, 47, 48]⟩, .string ⟨#[102, 97, 105, 108, 47, 48]⟩, .string ⟨#[101, 113, 47, 50]⟩, .string ⟨#[108, 101, 115, 115, 47, 50]⟩, .string ⟨#[97, 100, 100, 47, 51]⟩] 9) = wa at HX0 HY0 HB0 ⊢
  clear hz0
  go_loopw [8] (fun i W => ∃ j : Nat, j ≤ 6 ∧ i = .int .i64 (j : Int) ∧ Below wa.heap.size wa W ∧ ∀ q, q < j → ¬ (t.s.toList = (knownAt q).1 ∧ t.args.length = (knownAt q).2)) (fun i _ => 6 - (intOf i).toNat)
  case atStart => exact ⟨0, by omega, rfl, Below.refl _ _, fun q h => absurd h (Nat.not_lt_zero _)⟩
  case round =>
    obtain ⟨j, hj, rfl, hb, hq⟩ := hrel
    have HB := hid hb
    have HQ := hid hq
    have hz := hb.size
    obtain ⟨x0, x1, x2, x3, xf⟩ := blk4 (blk_below HX0.out hb)
    have HY := hid (blk_below HY0.out hb)
    clear hb hq
    by_cases h6 : j = 6
    · subst h6
      go_wp2_with fail
      go_ret
      exact ⟨_, rfl, HB0.out.trans (HB.out.mono HB0.out.size), _, rfl, ⟨(fun h => by cases h), fun h => by
        obtain ⟨q, h1, h2⟩ := (known_iff t).1 h
        exact absurd h2 (HQ.out q h1)⟩⟩
    by_cases h0 : j = 0
    · subst h0
      have c0 : wr.cell? ⟨w.heap.size + 1, 0, none⟩ = some (.string ⟨#[33, 47, 48]⟩) := (blk_cell HY.out 0).trans rfl
      by_cases e : t.s.toList = [33]
      · have e' : (t.s.toList == (ByteArray.extract ⟨#[33, 47, 48]⟩ 0 1).toList) = true := by rw [show (ByteArray.extract ⟨#[33, 47, 48]⟩ 0 1).toList = [33] by decide +kernel]; simpa using e
        by_cases e2 : t.args.length = 0
        · have HKN := hid ((known_iff t).2 ⟨0, by omega, e, e2⟩)
          have e2' : ((t.args.length : Int) == (((((⟨#[33, 47, 48]⟩ : ByteArray)[2]'(by decide)).toNat : Int) - 48) % 256)) = true := by rw [show (((((⟨#[33, 47, 48]⟩ : ByteArray)[2]'(by decide)).toNat : Int) - 48) % 256) = 0 by decide +kernel]; simp [e2]
          clear e e2
          go_wp2_with fail
          go_quiet (fail)
          go_wp2_with fail
          go_ret
          exact ⟨_, rfl, (HB0.out.trans (HB.out.mono HB0.out.size)).trans ⟨rfl, rfl, rfl, Nat.le_refl _, fun _ _ => rfl⟩, _, rfl, ⟨fun _ => HKN.out, fun _ => rfl⟩⟩
        · have HNK := hid (show ¬ (t.s.toList = (knownAt 0).1 ∧ t.args.length = (knownAt 0).2) from fun h => e2 h.2)
          have e2' : ((t.args.length : Int) == (((((⟨#[33, 47, 48]⟩ : ByteArray)[2]'(by decide)).toNat : Int) - 48) % 256)) = false := by rw [show (((((⟨#[33, 47, 48]⟩ : ByteArray)[2]'(by decide)).toNat : Int) - 48) % 256) = 0 by decide +kernel]; simpa using fun h : (t.args.length : Int) = 0 => e2 (by omega)
          clear e e2
          go_wp2_with fail
          go_quiet (fail)
          go_wp2_with fail
          refine ⟨⟨1, by omega, by go_num, HB.out.trans ⟨rfl, rfl, rfl, Nat.le_refl _, fun _ _ => rfl⟩, fun q hq => ?_⟩, by first | (simp [intOf]; done) | (simp [intOf]; omega)⟩
          by_cases h : q = 0
          · subst h; exact HNK.out
          · exact HQ.out q (by omega)
      · have HNK := hid (show ¬ (t.s.toList = (knownAt 0).1 ∧ t.args.length = (knownAt 0).2) from fun h => e h.1)
        have e' : (t.s.toList == (ByteArray.extract ⟨#[33, 47, 48]⟩ 0 1).toList) = false := by rw [show (ByteArray.extract ⟨#[33, 47, 48]⟩ 0 1).toList = [33] by decide +kernel]; simpa using e
        clear e
        go_wp2_with fail
        go_quiet (fail)
        go_wp2_with fail
        refine ⟨⟨1, by omega, by go_num, HB.out.trans ⟨rfl, rfl, rfl, Nat.le_refl _, fun _ _ => rfl⟩, fun q hq => ?_⟩, by first | (simp [intOf]; done) | (simp [intOf]; omega)⟩
        by_cases h : q = 0
        · subst h; exact HNK.out
        · exact HQ.out q (by omega)
    by_cases h1 : j = 1
    · subst h1
      have c1 : wr.cell? ⟨w.heap.size + 1, 1, none⟩ = some (.string ⟨#[116, 114, 117, 101, 47, 48]⟩) := (blk_cell HY.out 1).trans rfl
      by_cases e : t.s.toList = [116, 114, 117, 101]
      · have e' : (t.s.toList == (ByteArray.extract ⟨#[116, 114, 117, 101, 47, 48]⟩ 0 4).toList) = true := by rw [show (ByteArray.extract ⟨#[116, 114, 117, 101, 47, 48]⟩ 0 4).toList = [116, 114, 117, 101] by decide +kernel]; simpa using e
        by_cases e2 : t.args.length = 0
        · have HKN := hid ((known_iff t).2 ⟨1, by omega, e, e2⟩)
          have e2' : ((t.args.length : Int) == (((((⟨#[116, 114, 117, 101, 47, 48]⟩ : ByteArray)[5]'(by decide)).toNat : Int) - 48) % 256)) = true := by rw [show (((((⟨#[116, 114, 117, 101, 47, 48]⟩ : ByteArray)[5]'(by decide)).toNat : Int) - 48) % 256) = 0 by decide +kernel]; simp [e2]
          clear e e2
          go_wp2_with fail
          go_quiet (fail)
          go_wp2_with fail
          go_ret
          exact ⟨_, rfl, (HB0.out.trans (HB.out.mono HB0.out.size)).trans ⟨rfl, rfl, rfl, Nat.le_refl _, fun _ _ => rfl⟩, _, rfl, ⟨fun _ => HKN.out, fun _ => rfl⟩⟩
        · have HNK := hid (show ¬ (t.s.toList = (knownAt 1).1 ∧ t.args.length = (knownAt 1).2) from fun h => e2 h.2)
          have e2' : ((t.args.length : Int) == (((((⟨#[116, 114, 117, 101, 47, 48]⟩ : ByteArray)[5]'(by decide)).toNat : Int) - 48) % 256)) = false := by rw [show (((((⟨#[116, 114, 117, 101, 47, 48]⟩ : ByteArray)[5]'(by decide)).toNat : Int) - 48) % 256) = 0 by decide +kernel]; simpa using fun h : (t.args.length : Int) = 0 => e2 (by omega)
          clear e e2
          go_wp2_with fail
          go_quiet (fail)
          go_wp2_with fail
          refine ⟨⟨2, by omega, by go_num, HB.out.trans ⟨rfl, rfl, rfl, Nat.le_refl _, fun _ _ => rfl⟩, fun q hq => ?_⟩, by first | (simp [intOf]; done) | (simp [intOf]; omega)⟩
          by_cases h : q = 1
          · subst h; exact HNK.out
          · exact HQ.out q (by omega)
      · have HNK := hid (show ¬ (t.s.toList = (knownAt 1).1 ∧ t.args.length = (knownAt 1).2) from fun h => e h.1)
        have e' : (t.s.toList == (ByteArray.extract ⟨#[116, 114, 117, 101, 47, 48]⟩ 0 4).toList) = false := by rw [show (ByteArray.extract ⟨#[116, 114, 117, 101, 47, 48]⟩ 0 4).toList = [116, 114, 117, 101] by decide +kernel]; simpa using e
        clear e
        go_wp2_with fail
        go_quiet (fail)
        go_wp2_with fail
        refine ⟨⟨2, by omega, by go_num, HB.out.trans ⟨rfl, rfl, rfl, Nat.le_refl _, fun _ _ => rfl⟩, fun q hq => ?_⟩, by first | (simp [intOf]; done) | (simp [intOf]; omega)⟩
        by_cases h : q = 1
        · subst h; exact HNK.out
        · exact HQ.out q (by omega)
    by_cases h2 : j = 2
    · subst h2
      have c2 : wr.cell? ⟨w.heap.size + 1, 2, none⟩ = some (.string ⟨#[102, 97, 105, 108, 47, 48]⟩) := (blk_cell HY.out 2).trans rfl
      by_cases e : t.s.toList = [102, 97, 105, 108]
      · have e' : (t.s.toList == (ByteArray.extract ⟨#[102, 97, 105, 108, 47, 48]⟩ 0 4).toList) = true := by rw [show (ByteArray.extract ⟨#[102, 97, 105, 108, 47, 48]⟩ 0 4).toList = [102, 97, 105, 108] by decide +kernel]; simpa using e
        by_cases e2 : t.args.length = 0
        · have HKN := hid ((known_iff t).2 ⟨2, by omega, e, e2⟩)
          have e2' : ((t.args.length : Int) == (((((⟨#[102, 97, 105, 108, 47, 48]⟩ : ByteArray)[5]'(by decide)).toNat : Int) - 48) % 256)) = true := by rw [show (((((⟨#[102, 97, 105, 108, 47, 48]⟩ : ByteArray)[5]'(by decide)).toNat : Int) - 48) % 256) = 0 by decide +kernel]; simp [e2]
          clear e e2
          go_wp2_with fail
          go_quiet (fail)
          go_wp2_with fail
          go_ret
          exact ⟨_, rfl, (HB0.out.trans (HB.out.mono HB0.out.size)).trans ⟨rfl, rfl, rfl, Nat.le_refl _, fun _ _ => rfl⟩, _, rfl, ⟨fun _ => HKN.out, fun _ => rfl⟩⟩
        · have HNK := hid (show ¬ (t.s.toList = (knownAt 2).1 ∧ t.args.length = (knownAt 2).2) from fun h => e2 h.2)
          have e2' : ((t.args.length : Int) == (((((⟨#[102, 97, 105, 108, 47, 48]⟩ : ByteArray)[5]'(by decide)).toNat : Int) - 48) % 256)) = false := by rw [show (((((⟨#[102, 97, 105, 108, 47, 48]⟩ : ByteArray)[5]'(by decide)).toNat : Int) - 48) % 256) = 0 by decide +kernel]; simpa using fun h : (t.args.length : Int) = 0 => e2 (by omega)
          clear e e2
          go_wp2_with fail
          go_quiet (fail)
          go_wp2_with fail
          refine ⟨⟨3, by omega, by go_num, HB.out.trans ⟨rfl, rfl, rfl, Nat.le_refl _, fun _ _ => rfl⟩, fun q hq => ?_⟩, by first | (simp [intOf]; done) | (simp [intOf]; omega)⟩
          by_cases h : q = 2
          · subst h; exact HNK.out
          · exact HQ.out q (by omega)
      · have HNK := hid (show ¬ (t.s.toList = (knownAt 2).1 ∧ t.args.length = (knownAt 2).2) from fun h => e h.1)
        have e' : (t.s.toList == (ByteArray.extract ⟨#[102, 97, 105, 108, 47, 48]⟩ 0 4).toList) = false := by rw [show (ByteArray.extract ⟨#[102, 97, 105, 108, 47, 48]⟩ 0 4).toList = [102, 97, 105, 108] by decide +kernel]; simpa using e
        clear e
        go_wp2_with fail
        go_quiet (fail)
        go_wp2_with fail
        refine ⟨⟨3, by omega, by go_num, HB.out.trans ⟨rfl, rfl, rfl, Nat.le_refl _, fun _ _ => rfl⟩, fun q hq => ?_⟩, by first | (simp [intOf]; done) | (simp [intOf]; omega)⟩
        by_cases h : q = 2
        · subst h; exact HNK.out
        · exact HQ.out q (by omega)
    by_cases h3 : j = 3
    · subst h3
      have c3 : wr.cell? ⟨w.heap.size + 1, 3, none⟩ = some (.string ⟨#[101, 113, 47, 50]⟩) := (blk_cell HY.out 3).trans rfl
      by_cases e : t.s.toList = [101, 113]
      · have e' : (t.s.toList == (ByteArray.extract ⟨#[101, 113, 47, 50]⟩ 0 2).toList) = true := by rw [show (ByteArray.extract ⟨#[101, 113, 47, 50]⟩ 0 2).toList = [101, 113] by decide +kernel]; simpa using e
        by_cases e2 : t.args.length = 2
        · have HKN := hid ((known_iff t).2 ⟨3, by omega, e, e2⟩)
          have e2' : ((t.args.length : Int) == (((((⟨#[101, 113, 47, 50]⟩ : ByteArray)[3]'(by decide)).toNat : Int) - 48) % 256)) = true := by rw [show (((((⟨#[101, 113, 47, 50]⟩ : ByteArray)[3]'(by decide)).toNat : Int) - 48) % 256) = 2 by decide +kernel]; simp [e2]
          clear e e2
          go_wp2_with fail
          go_quiet (fail)
          go_wp2_with fail
          go_ret
          exact ⟨_, rfl, (HB0.out.trans (HB.out.mono HB0.out.size)).trans ⟨rfl, rfl, rfl, Nat.le_refl _, fun _ _ => rfl⟩, _, rfl, ⟨fun _ => HKN.out, fun _ => rfl⟩⟩
        · have HNK := hid (show ¬ (t.s.toList = (knownAt 3).1 ∧ t.args.length = (knownAt 3).2) from fun h => e2 h.2)
          have e2' : ((t.args.length : Int) == (((((⟨#[101, 113, 47, 50]⟩ : ByteArray)[3]'(by decide)).toNat : Int) - 48) % 256)) = false := by rw [show (((((⟨#[101, 113, 47, 50]⟩ : ByteArray)[3]'(by decide)).toNat : Int) - 48) % 256) = 2 by decide +kernel]; simpa using fun h : (t.args.length : Int) = 2 => e2 (by omega)
          clear e e2
          go_wp2_with fail
          go_quiet (fail)
          go_wp2_with fail
          refine ⟨⟨4, by omega, by go_num, HB.out.trans ⟨rfl, rfl, rfl, Nat.le_refl _, fun _ _ => rfl⟩, fun q hq => ?_⟩, by first | (simp [intOf]; done) | (simp [intOf]; omega)⟩
          by_cases h : q = 3
          · subst h; exact HNK.out
          · exact HQ.out q (by omega)
      · have HNK := hid (show ¬ (t.s.toList = (knownAt 3).1 ∧ t.args.length = (knownAt 3).2) from fun h => e h.1)
        have e' : (t.s.toList == (ByteArray.extract ⟨#[101, 113, 47, 50]⟩ 0 2).toList) = false := by rw [show (ByteArray.extract ⟨#[101, 113, 47, 50]⟩ 0 2).toList = [101, 113] by decide +kernel]; simpa using e
        clear e
        go_wp2_with fail
        go_quiet (fail)
        go_wp2_with fail
        refine ⟨⟨4, by omega, by go_num, HB.out.trans ⟨rfl, rfl, rfl, Nat.le_refl _, fun _ _ => rfl⟩, fun q hq => ?_⟩, by first | (simp [intOf]; done) | (simp [intOf]; omega)⟩
        by_cases h : q = 3
        · subst h; exact HNK.out
        · exact HQ.out q (by omega)
    by_cases h4 : j = 4
    · subst h4
      have c4 : wr.cell? ⟨w.heap.size + 1, 4, none⟩ = some (.string ⟨#[108, 101, 115, 115, 47, 50]⟩) := (blk_cell HY.out 4).trans rfl
      by_cases e : t.s.toList = [108, 101, 115, 115]
      · have e' : (t.s.toList == (ByteArray.extract ⟨#[108, 101, 115, 115, 47, 50]⟩ 0 4).toList) = true := by rw [show (ByteArray.extract ⟨#[108, 101, 115, 115, 47, 50]⟩ 0 4).toList = [108, 101, 115, 115] by decide +kernel]; simpa using e
        by_cases e2 : t.args.length = 2
        · have HKN := hid ((known_iff t).2 ⟨4, by omega, e, e2⟩)
          have e2' : ((t.args.length : Int) == (((((⟨#[108, 101, 115, 115, 47, 50]⟩ : ByteArray)[5]'(by decide)).toNat : Int) - 48) % 256)) = true := by rw [show (((((⟨#[108, 101, 115, 115, 47, 50]⟩ : ByteArray)[5]'(by decide)).toNat : Int) - 48) % 256) = 2 by decide +kernel]; simp [e2]
          clear e e2
          go_wp2_with fail
          go_quiet (fail)
          go_wp2_with fail
          go_ret
          exact ⟨_, rfl, (HB0.out.trans (HB.out.mono HB0.out.size)).trans ⟨rfl, rfl, rfl, Nat.le_refl _, fun _ _ => rfl⟩, _, rfl, ⟨fun _ => HKN.out, fun _ => rfl⟩⟩
        · have HNK := hid (show ¬ (t.s.toList = (knownAt 4).1 ∧ t.args.length = (knownAt 4).2) from fun h => e2 h.2)
          have e2' : ((t.args.length : Int) == (((((⟨#[108, 101, 115, 115, 47, 50]⟩ : ByteArray)[5]'(by decide)).toNat : Int) - 48) % 256)) = false := by rw [show (((((⟨#[108, 101, 115, 115, 47, 50]⟩ : ByteArray)[5]'(by decide)).toNat : Int) - 48) % 256) = 2 by decide +kernel]; simpa using fun h : (t.args.length : Int) = 2 => e2 (by omega)
          clear e e2
          go_wp2_with fail
          go_quiet (fail)
          go_wp2_with fail
          refine ⟨⟨5, by omega, by go_num, HB.out.trans ⟨rfl, rfl, rfl, Nat.le_refl _, fun _ _ => rfl⟩, fun q hq => ?_⟩, by first | (simp [intOf]; done) | (simp [intOf]; omega)⟩
          by_cases h : q = 4
          · subst h; exact HNK.out
          · exact HQ.out q (by omega)
      · have HNK := hid (show ¬ (t.s.toList = (knownAt 4).1 ∧ t.args.length = (knownAt 4).2) from fun h => e h.1)
        have e' : (t.s.toList == (ByteArray.extract ⟨#[108, 101, 115, 115, 47, 50]⟩ 0 4).toList) = false := by rw [show (ByteArray.extract ⟨#[108, 101, 115, 115, 47, 50]⟩ 0 4).toList = [108, 101, 115, 115] by decide +kernel]; simpa using e
        clear e
        go_wp2_with fail
        go_quiet (fail)
        go_wp2_with fail
        refine ⟨⟨5, by omega, by go_num, HB.out.trans ⟨rfl, rfl, rfl, Nat.le_refl _, fun _ _ => rfl⟩, fun q hq => ?_⟩, by first | (simp [intOf]; done) | (simp [intOf]; omega)⟩
        by_cases h : q = 4
        · subst h; exact HNK.out
        · exact HQ.out q (by omega)
    by_cases h5 : j = 5
    · subst h5
      have c5 : wr.cell? ⟨w.heap.size + 1, 5, none⟩ = some (.string ⟨#[97, 100, 100, 47, 51]⟩) := (blk_cell HY.out 5).trans rfl
      by_cases e : t.s.toList = [97, 100, 100]
      · have e' : (t.s.toList == (ByteArray.extract ⟨#[97, 100, 100, 47, 51]⟩ 0 3).toList) = true := by rw [show (ByteArray.extract ⟨#[97, 100, 100, 47, 51]⟩ 0 3).toList = [97, 100, 100] by decide +kernel]; simpa using e
        by_cases e2 : t.args.length = 3
        · have HKN := hid ((known_iff t).2 ⟨5, by omega, e, e2⟩)
          have e2' : ((t.args.length : Int) == (((((⟨#[97, 100, 100, 47, 51]⟩ : ByteArray)[4]'(by decide)).toNat : Int) - 48) % 256)) = true := by rw [show (((((⟨#[97, 100, 100, 47, 51]⟩ : ByteArray)[4]'(by decide)).toNat : Int) - 48) % 256) = 3 by decide +kernel]; simp [e2]
          clear e e2
          go_wp2_with fail
          go_quiet (fail)
          go_wp2_with fail
          go_ret
          exact ⟨_, rfl, (HB0.out.trans (HB.out.mono HB0.out.size)).trans ⟨rfl, rfl, rfl, Nat.le_refl _, fun _ _ => rfl⟩, _, rfl, ⟨fun _ => HKN.out, fun _ => rfl⟩⟩
        · have HNK := hid (show ¬ (t.s.toList = (knownAt 5).1 ∧ t.args.length = (knownAt 5).2) from fun h => e2 h.2)
          have e2' : ((t.args.length : Int) == (((((⟨#[97, 100, 100, 47, 51]⟩ : ByteArray)[4]'(by decide)).toNat : Int) - 48) % 256)) = false := by rw [show (((((⟨#[97, 100, 100, 47, 51]⟩ : ByteArray)[4]'(by decide)).toNat : Int) - 48) % 256) = 3 by decide +kernel]; simpa using fun h : (t.args.length : Int) = 3 => e2 (by omega)
          clear e e2
          go_wp2_with fail
          go_quiet (fail)
          go_wp2_with fail
          refine ⟨⟨6, by omega, by go_num, HB.out.trans ⟨rfl, rfl, rfl, Nat.le_refl _, fun _ _ => rfl⟩, fun q hq => ?_⟩, by first | (simp [intOf]; done) | (simp [intOf]; omega)⟩
          by_cases h : q = 5
          · subst h; exact HNK.out
          · exact HQ.out q (by omega)
      · have HNK := hid (show ¬ (t.s.toList = (knownAt 5).1 ∧ t.args.length = (knownAt 5).2) from fun h => e h.1)
        have e' : (t.s.toList == (ByteArray.extract ⟨#[97, 100, 100, 47, 51]⟩ 0 3).toList) = false := by rw [show (ByteArray.extract ⟨#[97, 100, 100, 47, 51]⟩ 0 3).toList = [97, 100, 100] by decide +kernel]; simpa using e
        clear e
        go_wp2_with fail
        go_quiet (fail)
        go_wp2_with fail
        refine ⟨⟨6, by omega, by go_num, HB.out.trans ⟨rfl, rfl, rfl, Nat.le_refl _, fun _ _ => rfl⟩, fun q hq => ?_⟩, by first | (simp [intOf]; done) | (simp [intOf]; omega)⟩
        by_cases h : q = 5
        · subst h; exact HNK.out
        · exact HQ.out q (by omega)
    omega
end Go.Proofs.YtlpmfkpefoegeabDoor
