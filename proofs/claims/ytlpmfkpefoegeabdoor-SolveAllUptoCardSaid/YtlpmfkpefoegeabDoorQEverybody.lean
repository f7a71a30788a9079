/-
  queristref.Shifted.
  What everybody knows, as the document's own answer has it.
-/
import Derived.Test.YtlpmfkpefoegeabDoorQRenamedS
import Derived.Test.YtlpmfkpefoegeabDoorROpenC
import Derived.BigQuiet
namespace Go.Proofs.YtlpmfkpefoegeabDoor
set_option linter.unusedVariables false
set_option linter.unusedSimpArgs false
open Go.RowKit
theorem tmod_low (n : Int) : -1099511627776 < n.tmod 1099511627776 ∧ n.tmod 1099511627776 < 1099511627776 ∧ (n.tmod 1099511627776 + 1099511627776) % 1099511627776 = low n := by
  unfold low
  rcases Int.le_total 0 n with h | h
  · rw [Int.tmod_eq_emod_of_nonneg h]; omega
  · obtain ⟨m, rfl⟩ : ∃ m, n = -m := ⟨-n, by omega⟩
    rw [Int.neg_tmod, Int.tmod_eq_emod_of_nonneg (by omega)]; omega
set_option maxHeartbeats 400000 in
theorem low_ok (n : Int) (hn : I64 n) (w : World) : Calls Tryd.prog 126 #[.int .i64 n] w fun e w' => e = .returned (.int .i64 (low n)) ∧ w = w' := by
  have hb : -9223372036854775808 ≤ n ∧ n ≤ 9223372036854775807 := hn
  obtain ⟨h1, h2, h3⟩ := tmod_low n
  have H3 := hid h3
  clear h3
  go_enter Tryd.func126, Tryd.ntmps126
  go_wp2_with fail
  go_ret
  refine ⟨?_, rfl⟩
  show Ending.returned (.int .i64 ((n.tmod 1099511627776 + 1099511627776) % 1099511627776)) = _
  rw [H3.out]
def ShInv (d : Int) (p5 p3 : Addr) (_ : Unit) (M : Nat → Prop) (w : World) : Prop :=
  (∀ b, M b ↔ (b = p5.block ∨ b = p3.block)) ∧ w.cell? p5 = some (.func (.func 126) #[] #[]) ∧ w.cell? p3 = some (.int .i64 d)
theorem shInv_law (d : Int) (p5 p3 : Addr) : StLaw (ShInv d p5 p3) := by
  refine ⟨fun st M w h b hb => ?_, fun st M w w' h hk => ?_⟩
  · obtain ⟨h1, h2, h3⟩ := h
    rcases (h1 b).1 hb with rfl | rfl
    · exact World.block_lt_of_cell? w _ h2
    · exact World.block_lt_of_cell? w _ h3
  · obtain ⟨h1, h2, h3⟩ := h
    refine ⟨h1, ?_, ?_⟩
    · rw [← h2]; exact World.cell?_of_block (hk.block _ (World.block_lt_of_cell? w _ h2) ((h1 _).2 (.inl rfl)))
    · rw [← h3]; exact World.cell?_of_block (hk.block _ (World.block_lt_of_cell? w _ h3) ((h1 _).2 (.inr rfl)))
set_option maxHeartbeats 400000 in
theorem clo_shifted (d : Int) (hd : I64 d) (p5 p3 : Addr) : CloS (ShInv d p5 p3) (fun st n => (low n + low d, st)) (fun _ => 0) p5 p3 := by
  intro st M w n hi _ hn
  have HI := hid hi
  obtain ⟨-, h2, h3⟩ := hi
  have c1 := low_ok n hn
  have c2 := low_ok d hd
  have b1 := low_bd n
  have b2 := low_bd d
  have hwr : IntKind.i64.wrap (low n + low d) = low n + low d := IntWalk.i64_in _ ⟨by omega, by omega⟩
  have HC1 := hid c1
  have HC2 := hid c2
  clear c1 c2
  go_enter Tryd.func128, Tryd.ntmps128
  go_wp2_with fail
  refine wp_region_F (F := fun k w' => (k = 0 ∨ k = 3 ∨ k = 4) → w'.cell? p5 = some (.func (.func 126) #[] #[]) ∧ w'.cell? p3 = some (.int .i64 d)) (by kernel_rfl) ?_
  refine wpAnyF_take (i := 0) (v := ?_) rfl (by kernel_rfl) (by kernel_rfl) (by kernel_rfl) (fun _ _ _ h => h) (Or.inl ⟨by rfl, ?_⟩) (fun _ => ⟨h2, h3⟩) ?_
  rotate_left
  · (intro w' hw; obtain ⟨q0, q1⟩ := hw (by omega); go_simp <;> with_reducible rfl)
  try simp only [Act.put, List.setIfInBounds_toArray, List.set_cons_zero, List.set_cons_succ]
  refine wpAnyF_take (i := 1) (v := ?_) rfl (by kernel_rfl) (by kernel_rfl) (by kernel_rfl) (fun _ _ _ h => h) (Or.inl ⟨by rfl, ?_⟩) (fun _ => ⟨h2, h3⟩) ?_
  rotate_left
  · (intro w' hw; clear hw; go_simp <;> with_reducible rfl)
  try simp only [Act.put, List.setIfInBounds_toArray, List.set_cons_zero, List.set_cons_succ]
  refine wpAnyF_take (i := 3) (v := ?_) rfl (by kernel_rfl) (by kernel_rfl) (by kernel_rfl) (fun _ _ _ h => h) (Or.inl ⟨by rfl, ?_⟩) (fun _ => ⟨h2, h3⟩) ?_
  rotate_left
  · (intro w' hw; obtain ⟨q0, q1⟩ := hw (by omega); go_simp <;> with_reducible rfl)
  try simp only [Act.put, List.setIfInBounds_toArray, List.set_cons_zero, List.set_cons_succ]
  refine wpAnyF_take (i := 4) (v := ?_) rfl (by kernel_rfl) (by kernel_rfl) (by kernel_rfl) (fun _ _ _ h => h) (Or.inl ⟨by rfl, ?_⟩) (fun _ => ⟨h2, h3⟩) ?_
  rotate_left
  · (intro w' hw; obtain ⟨q0, q1⟩ := hw (by omega); go_simp <;> with_reducible rfl)
  try simp only [Act.put, List.setIfInBounds_toArray, List.set_cons_zero, List.set_cons_succ]
  refine wpAnyF_one (i := 2) (by kernel_rfl) (wpOp_run rfl (by rfl) ?_)
  go_simp
  refine (HC1.out _).mono ?_
  rintro e w1 ⟨rfl, rfl⟩
  refine ⟨fun _ _ h => h, ?_⟩
  try simp only [Act.put, List.setIfInBounds_toArray, List.set_cons_zero, List.set_cons_succ]
  refine wpAnyF_one (i := 5) (by kernel_rfl) (wpOp_run rfl (by rfl) ?_)
  go_simp
  refine (HC2.out _).mono ?_
  rintro e w1 ⟨rfl, rfl⟩
  refine ⟨fun _ _ h => h, ?_⟩
  try simp only [Act.put, List.setIfInBounds_toArray, List.set_cons_zero, List.set_cons_succ]
  refine wpAnyF_take (i := 6) (v := ?_) rfl (by kernel_rfl) (by kernel_rfl) (by kernel_rfl) (fun _ _ _ h => h) (Or.inl ⟨by rfl, ?_⟩) (fun h => by omega) ?_
  rotate_left
  · (intro w' hw; clear hw; go_simp <;> with_reducible rfl)
  try simp only [Act.put, List.setIfInBounds_toArray, List.set_cons_zero, List.set_cons_succ]
  refine wpAnyF_one (i := 7) (by kernel_rfl) (wpOp_run rfl (by rfl) ?_)
  go_simp
  refine ⟨fun _ _ h => h, wpAnyF_done (by kernel_rfl) ?_ _⟩
  go_wp2_with fail
  go_ret
  exact ⟨rfl, by unfold I64; omega, M, (Ch.refl M w).drew, fun b hb => .inl hb, (shInv_law d p5 p3).keeps _ _ _ _ HI.out (Keeps.drew _ _)⟩
theorem renS_ren (g : Int → Int) : ∀ (t : Tm) (u : Unit), t.renS (fun st n => (g n, st)) u = (t.ren g, u) := by
  intro t
  induction t using Tm.induct with
  | h k n s l ih =>
    intro u
    have hL : ∀ (r : List Tm), (∀ t ∈ r, t ∈ l) → Tm.renSL (fun st n => (g n, st)) u r = (Tm.renL g r, u) := by
      intro r
      induction r with
      | nil => intro _; rfl
      | cons x r ihr =>
        intro hm
        rw [Tm.renSL, ih x (hm x (List.mem_cons_self ..)) u, ihr (fun t ht => hm t (List.mem_cons_of_mem _ ht))]
        rfl
    have h1 := hL l (fun _ h => h)
    by_cases e : k = 0
    · simp only [Tm.renS, Tm.num, e, if_true, Tm.ren, h1]
    · simp only [Tm.renS, Tm.num, e, if_false, Tm.ren, h1]
set_option maxHeartbeats 400000 in
theorem shifted_ok (t : Tm) (d : Int) (hd : I64 d) (ht : t.nodes ≤ 4194304) (A : Nat → Prop) (w : World) (vs : List Value) (hv : Tm.rep A w t vs) :
    Calls Tryd.prog 97 #[.agg vs.toArray, .int .i64 d] w (Pure w fun v w' => ∃ us, v = .agg us.toArray ∧ Tm.rep (New w) w' (t.ren fun n => low n + low d) us) := by
  obtain ⟨sa, sc, rfl, -⟩ := Tm.rep4 hv
  have HV := hid hv
  clear hv
  go_enter Tryd.func97, Tryd.ntmps97
  go_wp2_with fail
  generalize hW : ((((w.alloc (.cells #[.int .i64 t.kind, .int .i64 t.n, .string t.s, .slice sa t.args.length sc] 31)).alloc (.cells #[.int .i64 d] 3)).alloc (.cells #[.int .i64 0, .int .i64 0, .string { data := #[] }, .slice none 0 0] 31)).alloc (.cells #[.func (.func 126) #[] #[]] 99)) = W
  have hk : Keeps (fun _ => True) w W := by subst hW; exact (((Keeps.alloc _ _ _).trans (Keeps.alloc _ _ _)).trans (Keeps.alloc _ _ _)).trans (Keeps.alloc _ _ _)
  have hsW : W.heap.size = w.heap.size + 4 := by subst hW; simp
  have hb : Below w.heap.size w W := by subst hW; exact below_pure (below_pure (below_pure (below_pure (Below.refl _ _))))
  have q3 : W.heap[w.heap.size + 1 + 1]? = some (.cells #[.int .i64 0, .int .i64 0, .string ByteArray.empty, .slice none 0 0] 31 (0, 0)) := by subst hW; exact blk_alloc (heap3 _ _ _ _).2.2 _
  have hinv : ShInv d ⟨w.heap.size + 1 + 1 + 1, 0, none⟩ ⟨w.heap.size + 1, 0, none⟩ () (fun b => b = w.heap.size + 1 + 1 + 1 ∨ b = w.heap.size + 1) W := by
    refine ⟨fun b => Iff.rfl, ?_, ?_⟩
    · subst hW; rw [blk_cell (heap4 _ _ _ _ _).2.2.2]; rfl
    · subst hW; rw [blk_cell (heap4 _ _ _ _ _).2.1]; rfl
  have hrep := Tm.rep_lasts.2.1 _ (fun b => A b ∧ b < w.heap.size) _ _ _ HV.out (fun b hb h => ⟨h, hb⟩)
  have HR := (renS_ok (shInv_law d _ _) (fun _ _ => by simp) (clo_shifted d hd _ _) t () _ (fun b => A b ∧ b < w.heap.size) W _ hinv (by simpa using ht) (Tm.rep_lasts.1 _ _ _ _ _ hrep (hk.mono fun _ _ _ => trivial)) (fun b hb => ⟨by omega, by rintro (h | h) <;> omega⟩))
  rw [renS_ren] at HR
  refine HR.mono ?_
  rintro e w1 ⟨us, M', rfl, hch, hM', -, hr⟩
  obtain ⟨sa', sc', rfl, -⟩ := Tm.rep4 hr
  have q4 := (hch.block _ (blk_lt q3) (by rintro (h | h) <;> omega)).trans q3
  obtain ⟨y0, y1, y2, y3, yf⟩ := blk4 q4
  have hcs := cell_set
  have HB := hid hb
  have HCH := hid hch
  have HRR := hid hr
  have hz := hch.size
  clear hr hch hb hk hinv hrep HR q3 q4 hM'
  go_wp2_with fail
  refine bodyPost_ret (v := .agg #[.int .i64 (t.ren fun n => low n + low d).kind, .int .i64 (t.ren fun n => low n + low d).n, .string (t.ren fun n => low n + low d).s, .slice sa' (t.ren fun n => low n + low d).args.length sc']) (by simp [results, Tryd.results97, go_sem, hcs, y0, y1, y2, y3]) rfl ⟨_, rfl, ?_, [_, _, _, _], rfl, ?_⟩
  · have h1 : Below w.heap.size w w1 := (((Ch.of_below (M := fun _ => False) HB.out).trans HCH.out (fun b hb => .inr (by rcases hb with h | h <;> omega))).below (fun _ _ h => h))
    refine Below.setCell (Below.setCell (Below.setCell (Below.setCell h1 ?_ _) ?_ _) ?_ _) ?_ _ <;> simp <;> omega
  · have h1 := Tm.rep_lasts.2.1 _ (fun b => New w b ∧ b ≠ w.heap.size + 1 + 1) _ _ _ HRR.out (fun b _ hb => by simp only [New]; omega)
    refine Tm.rep_lasts.2.1 _ _ _ _ _ (Tm.rep_lasts.1 _ _ _ _ _ h1 ?_) (fun b _ hb => hb.1)
    refine Keeps.trans (Keeps.trans (Keeps.trans (Keeps.setCell _ _ _ _ ?_) (Keeps.setCell _ _ _ _ ?_)) (Keeps.setCell _ _ _ _ ?_)) (Keeps.setCell _ _ _ _ ?_) <;> simp
end Go.Proofs.YtlpmfkpefoegeabDoor

namespace Go.Proofs.YtlpmfkpefoegeabDoor
set_option linter.unusedVariables false
set_option linter.unusedSimpArgs false
set_option maxRecDepth 100000
open Go.RowKit
def knownAt : Nat → List UInt8 × Nat
  | 0 => ([33], 0) | 1 => ([116, 114, 117, 101], 0) | 2 => ([102, 97, 105, 108], 0) | 3 => ([101, 113], 2) | 4 => ([108, 101, 115, 115], 2) | _ => ([97, 100, 100], 3)
theorem known_iff (t : Tm) : t.Known ↔ ∃ q, q < 6 ∧ t.s.toList = (knownAt q).1 ∧ t.args.length = (knownAt q).2 := by
  constructor
  · rintro (⟨h, h1 | h1 | h1⟩ | ⟨h, h1 | h1⟩ | ⟨h, h1⟩)
    · exact ⟨0, by omega, h1, h⟩
    · exact ⟨1, by omega, h1, h⟩
    · exact ⟨2, by omega, h1, h⟩
    · exact ⟨3, by omega, h1, h⟩
    · exact ⟨4, by omega, h1, h⟩
    · exact ⟨5, by omega, h1, h⟩
  · rintro ⟨q, hq, h1, h2⟩
    match q, hq with
    | 0, _ => exact .inl ⟨h2, .inl h1⟩
    | 1, _ => exact .inl ⟨h2, .inr (.inl h1)⟩
    | 2, _ => exact .inl ⟨h2, .inr (.inr h1)⟩
    | 3, _ => exact .inr (.inl ⟨h2, .inl h1⟩)
    | 4, _ => exact .inr (.inl ⟨h2, .inr h1⟩)
    | 5, _ => exact .inr (.inr ⟨h2, h1⟩)
set_option maxHeartbeats 2000000 in
theorem everybody_ok (t : Tm) (A : Nat → Prop) (w : World) (vs : List Value) (hv : Tm.rep A w t vs) :
    Calls Tryd.prog 21 #[.agg vs.toArray] w (Pure w (BoolP t.Known)) := by
  obtain ⟨sa, sc, rfl, -⟩ := Tm.rep4 hv
  clear hv
  go_enter Tryd.func21, Tryd.ntmps21
  go_wp2_with fail
  have HX0 := hid (blk_alloc (blk_new w (.cells #[.int .i64 t.kind, .int .i64 t.n, .string t.s, .slice sa t.args.length sc] 31)) (.cells #[.string ⟨#[33, 47, 48]⟩, .string ⟨#[116, 114, 117, 101, 47, 48]⟩, .string ⟨#[102, 97, 105, 108, 47, 48]⟩, .string ⟨#[101, 113, 47, 50]⟩, .string ⟨#[108, 101, 115, 115, 47, 50]⟩, .string ⟨#[97, 100, 100, 47, 51]⟩] 9))
  have HY0 := hid (blk_new (w.alloc (.cells #[.int .i64 t.kind, .int .i64 t.n, .string t.s, .slice sa t.args.length sc] 31)) (.cells #[.string ⟨#[33, 47, 48]⟩, .string ⟨#[116, 114, 117, 101, 47, 48]⟩, .string ⟨#[102, 97, 105, 108, 47, 48]⟩, .string ⟨#[101, 113, 47, 50]⟩, .string ⟨#[108, 101, 115, 115, 47, 50]⟩, .string ⟨#[97, 100, 100, 47, 51]⟩] 9))
  have HB0 := hid (((Below.refl _ w).alloc (Nat.le_refl _) (.cells #[.int .i64 t.kind, .int .i64 t.n, .string t.s, .slice sa t.args.length sc] 31)).alloc (by simp) (.cells #[.string ⟨#[33, 47, 48]⟩, .string ⟨#[116, 114, 117, 101, 47, 48]⟩, .string ⟨#[102, 97, 105, 108, 47, 48]⟩, .string ⟨#[101, 113, 47, 50]⟩, .string ⟨#[108, 101, 115, 115, 47, 50]⟩, .string ⟨#[97, 100, 100, 47, 51]⟩] 9))
  have hz0 : (w.alloc (.cells #[.int .i64 t.kind, .int .i64 t.n, .string t.s, .slice sa t.args.length sc] 31)).heap.size = w.heap.size + 1 := by simp
  rw [hz0] at HY0
  generalize (w.alloc (.cells #[.int .i64 t.kind, .int .i64 t.n, .string t.s, .slice sa t.args.length sc] 31)).alloc (.cells #[.string ⟨#[33, 47, 48]⟩, .string ⟨#[116, 114, 117, 101, 47, 48]⟩, .string ⟨#[102, 97, 105, 108, 47, 48]⟩, .string ⟨#[101, 113, 47, 50]⟩, .string ⟨#[108, 101, 115, 115, 47, 50]⟩, .string ⟨#[97, 100, 100, 47, 51]⟩] 9) = wa at HX0 HY0 HB0 ⊢
  clear hz0
  go_loopw [8] (fun i W => ∃ j : Nat, j ≤ 6 ∧ i = .int .i64 (j : Int) ∧ Below wa.heap.size wa W ∧ ∀ q, q < j → ¬ (t.s.toList = (knownAt q).1 ∧ t.args.length = (knownAt q).2)) (fun i _ => 6 - (intOf i).toNat)
  case atStart => exact ⟨0, by omega, rfl, Below.refl _ _, fun q h => absurd h (Nat.not_lt_zero _)⟩
  case round =>
    obtain ⟨j, hj, rfl, hb, hq⟩ := hrel
    have HB := hid hb
    have HQ := hid hq
    have hz := hb.size
    obtain ⟨x0, x1, x2, x3, xf⟩ := blk4 (blk_below HX0.out hb)
    have HY := hid (blk_below HY0.out hb)
    clear hb hq
    by_cases h6 : j = 6
    · subst h6
      go_wp2_with fail
      go_ret
      exact ⟨_, rfl, HB0.out.trans (HB.out.mono HB0.out.size), _, rfl, ⟨(fun h => by cases h), fun h => by
        obtain ⟨q, h1, h2⟩ := (known_iff t).1 h
        exact absurd h2 (HQ.out q h1)⟩⟩
    by_cases h0 : j = 0
    · subst h0
      have c0 : wr.cell? ⟨w.heap.size + 1, 0, none⟩ = some (.string ⟨#[33, 47, 48]⟩) := (blk_cell HY.out 0).trans rfl
      by_cases e : t.s.toList = [33]
      · have e' : (t.s.toList == (ByteArray.extract ⟨#[33, 47, 48]⟩ 0 1).toList) = true := by rw [show (ByteArray.extract ⟨#[33, 47, 48]⟩ 0 1).toList = [33] by decide +kernel]; simpa using e
        by_cases e2 : t.args.length = 0
        · have HKN := hid ((known_iff t).2 ⟨0, by omega, e, e2⟩)
          have e2' : ((t.args.length : Int) == (((((⟨#[33, 47, 48]⟩ : ByteArray)[2]'(by decide)).toNat : Int) - 48) % 256)) = true := by rw [show (((((⟨#[33, 47, 48]⟩ : ByteArray)[2]'(by decide)).toNat : Int) - 48) % 256) = 0 by decide +kernel]; simp [e2]
          clear e e2
          go_wp2_with fail
          go_quiet (fail)
          go_wp2_with fail
          go_ret
          exact ⟨_, rfl, (HB0.out.trans (HB.out.mono HB0.out.size)).trans ⟨rfl, rfl, rfl, Nat.le_refl _, fun _ _ => rfl⟩, _, rfl, ⟨fun _ => HKN.out, fun _ => rfl⟩⟩
        · have HNK := hid (show ¬ (t.s.toList = (knownAt 0).1 ∧ t.args.length = (knownAt 0).2) from fun h => e2 h.2)
          have e2' : ((t.args.length : Int) == (((((⟨#[33, 47, 48]⟩ : ByteArray)[2]'(by decide)).toNat : Int) - 48) % 256)) = false := by rw [show (((((⟨#[33, 47, 48]⟩ : ByteArray)[2]'(by decide)).toNat : Int) - 48) % 256) = 0 by decide +kernel]; simpa using fun h : (t.args.length : Int) = 0 => e2 (by omega)
          clear e e2
          go_wp2_with fail
          go_quiet (fail)
          go_wp2_with fail
          refine ⟨⟨1, by omega, by go_num, HB.out.trans ⟨rfl, rfl, rfl, Nat.le_refl _, fun _ _ => rfl⟩, fun q hq => ?_⟩, by first | (simp [intOf]; done) | (simp [intOf]; omega)⟩
          by_cases h : q = 0
          · subst h; exact HNK.out
          · exact HQ.out q (by omega)
      · have HNK := hid (show ¬ (t.s.toList = (knownAt 0).1 ∧ t.args.length = (knownAt 0).2) from fun h => e h.1)
        have e' : (t.s.toList == (ByteArray.extract ⟨#[33, 47, 48]⟩ 0 1).toList) = false := by rw [show (ByteArray.extract ⟨#[33, 47, 48]⟩ 0 1).toList = [33] by decide +kernel]; simpa using e
        clear e
        go_wp2_with fail
        go_quiet (fail)
        go_wp2_with fail
        refine ⟨⟨1, by omega, by go_num, HB.out.trans ⟨rfl, rfl, rfl, Nat.le_refl _, fun _ _ => rfl⟩, fun q hq => ?_⟩, by first | (simp [intOf]; done) | (simp [intOf]; omega)⟩
        by_cases h : q = 0
        · subst h; exact HNK.out
        · exact HQ.out q (by omega)
    by_cases h1 : j = 1
    · subst h1
      have c1 : wr.cell? ⟨w.heap.size + 1, 1, none⟩ = some (.string ⟨#[116, 114, 117, 101, 47, 48]⟩) := (blk_cell HY.out 1).trans rfl
      by_cases e : t.s.toList = [116, 114, 117, 101]
      · have e' : (t.s.toList == (ByteArray.extract ⟨#[116, 114, 117, 101, 47, 48]⟩ 0 4).toList) = true := by rw [show (ByteArray.extract ⟨#[116, 114, 117, 101, 47, 48]⟩ 0 4).toList = [116, 114, 117, 101] by decide +kernel]; simpa using e
        by_cases e2 : t.args.length = 0
        · have HKN := hid ((known_iff t).2 ⟨1, by omega, e, e2⟩)
          have e2' : ((t.args.length : Int) == (((((⟨#[116, 114, 117, 101, 47, 48]⟩ : ByteArray)[5]'(by decide)).toNat : Int) - 48) % 256)) = true := by rw [show (((((⟨#[116, 114, 117, 101, 47, 48]⟩ : ByteArray)[5]'(by decide)).toNat : Int) - 48) % 256) = 0 by decide +kernel]; simp [e2]
          clear e e2
          go_wp2_with fail
          go_quiet (fail)
          go_wp2_with fail
          go_ret
          exact ⟨_, rfl, (HB0.out.trans (HB.out.mono HB0.out.size)).trans ⟨rfl, rfl, rfl, Nat.le_refl _, fun _ _ => rfl⟩, _, rfl, ⟨fun _ => HKN.out, fun _ => rfl⟩⟩
        · have HNK := hid (show ¬ (t.s.toList = (knownAt 1).1 ∧ t.args.length = (knownAt 1).2) from fun h => e2 h.2)
          have e2' : ((t.args.length : Int) == (((((⟨#[116, 114, 117, 101, 47, 48]⟩ : ByteArray)[5]'(by decide)).toNat : Int) - 48) % 256)) = false := by rw [show (((((⟨#[116, 114, 117, 101, 47, 48]⟩ : ByteArray)[5]'(by decide)).toNat : Int) - 48) % 256) = 0 by decide +kernel]; simpa using fun h : (t.args.length : Int) = 0 => e2 (by omega)
          clear e e2
          go_wp2_with fail
          go_quiet (fail)
          go_wp2_with fail
          refine ⟨⟨2, by omega, by go_num, HB.out.trans ⟨rfl, rfl, rfl, Nat.le_refl _, fun _ _ => rfl⟩, fun q hq => ?_⟩, by first | (simp [intOf]; done) | (simp [intOf]; omega)⟩
          by_cases h : q = 1
          · subst h; exact HNK.out
          · exact HQ.out q (by omega)
      · have HNK := hid (show ¬ (t.s.toList = (knownAt 1).1 ∧ t.args.length = (knownAt 1).2) from fun h => e h.1)
        have e' : (t.s.toList == (ByteArray.extract ⟨#[116, 114, 117, 101, 47, 48]⟩ 0 4).toList) = false := by rw [show (ByteArray.extract ⟨#[116, 114, 117, 101, 47, 48]⟩ 0 4).toList = [116, 114, 117, 101] by decide +kernel]; simpa using e
        clear e
        go_wp2_with fail
        go_quiet (fail)
        go_wp2_with fail
        refine ⟨⟨2, by omega, by go_num, HB.out.trans ⟨rfl, rfl, rfl, Nat.le_refl _, fun _ _ => rfl⟩, fun q hq => ?_⟩, by first | (simp [intOf]; done) | (simp [intOf]; omega)⟩
        by_cases h : q = 1
        · subst h; exact HNK.out
        · exact HQ.out q (by omega)
    by_cases h2 : j = 2
    · subst h2
      have c2 : wr.cell? ⟨w.heap.size + 1, 2, none⟩ = some (.string ⟨#[102, 97, 105, 108, 47, 48]⟩) := (blk_cell HY.out 2).trans rfl
      by_cases e : t.s.toList = [102, 97, 105, 108]
      · have e' : (t.s.toList == (ByteArray.extract ⟨#[102, 97, 105, 108, 47, 48]⟩ 0 4).toList) = true := by rw [show (ByteArray.extract ⟨#[102, 97, 105, 108, 47, 48]⟩ 0 4).toList = [102, 97, 105, 108] by decide +kernel]; simpa using e
        by_cases e2 : t.args.length = 0
        · have HKN := hid ((known_iff t).2 ⟨2, by omega, e, e2⟩)
          have e2' : ((t.args.length : Int) == (((((⟨#[102, 97, 105, 108, 47, 48]⟩ : ByteArray)[5]'(by decide)).toNat : Int) - 48) % 256)) = true := by rw [show (((((⟨#[102, 97, 105, 108, 47, 48]⟩ : ByteArray)[5]'(by decide)).toNat : Int) - 48) % 256) = 0 by decide +kernel]; simp [e2]
          clear e e2
          go_wp2_with fail
          go_quiet (fail)
          go_wp2_with fail
          go_ret
          exact ⟨_, rfl, (HB0.out.trans (HB.out.mono HB0.out.size)).trans ⟨rfl, rfl, rfl, Nat.le_refl _, fun _ _ => rfl⟩, _, rfl, ⟨fun _ => HKN.out, fun _ => rfl⟩⟩
        · have HNK := hid (show ¬ (t.s.toList = (knownAt 2).1 ∧ t.args.length = (knownAt 2).2) from fun h => e2 h.2)
          have e2' : ((t.args.length : Int) == (((((⟨#[102, 97, 105, 108, 47, 48]⟩ : ByteArray)[5]'(by decide)).toNat : Int) - 48) % 256)) = false := by rw [show (((((⟨#[102, 97, 105, 108, 47, 48]⟩ : ByteArray)[5]'(by decide)).toNat : Int) - 48) % 256) = 0 by decide +kernel]; simpa using fun h : (t.args.length : Int) = 0 => e2 (by omega)
          clear e e2
          go_wp2_with fail
          go_quiet (fail)
          go_wp2_with fail
          refine ⟨⟨3, by omega, by go_num, HB.out.trans ⟨rfl, rfl, rfl, Nat.le_refl _, fun _ _ => rfl⟩, fun q hq => ?_⟩, by first | (simp [intOf]; done) | (simp [intOf]; omega)⟩
          by_cases h : q = 2
          · subst h; exact HNK.out
          · exact HQ.out q (by omega)
      · have HNK := hid (show ¬ (t.s.toList = (knownAt 2).1 ∧ t.args.length = (knownAt 2).2) from fun h => e h.1)
        have e' : (t.s.toList == (ByteArray.extract ⟨#[102, 97, 105, 108, 47, 48]⟩ 0 4).toList) = false := by rw [show (ByteArray.extract ⟨#[102, 97, 105, 108, 47, 48]⟩ 0 4).toList = [102, 97, 105, 108] by decide +kernel]; simpa using e
        clear e
        go_wp2_with fail
        go_quiet (fail)
        go_wp2_with fail
        refine ⟨⟨3, by omega, by go_num, HB.out.trans ⟨rfl, rfl, rfl, Nat.le_refl _, fun _ _ => rfl⟩, fun q hq => ?_⟩, by first | (simp [intOf]; done) | (simp [intOf]; omega)⟩
        by_cases h : q = 2
        · subst h; exact HNK.out
        · exact HQ.out q (by omega)
    by_cases h3 : j = 3
    · subst h3
      have c3 : wr.cell? ⟨w.heap.size + 1, 3, none⟩ = some (.string ⟨#[101, 113, 47, 50]⟩) := (blk_cell HY.out 3).trans rfl
      by_cases e : t.s.toList = [101, 113]
      · have e' : (t.s.toList == (ByteArray.extract ⟨#[101, 113, 47, 50]⟩ 0 2).toList) = true := by rw [show (ByteArray.extract ⟨#[101, 113, 47, 50]⟩ 0 2).toList = [101, 113] by decide +kernel]; simpa using e
        by_cases e2 : t.args.length = 2
        · have HKN := hid ((known_iff t).2 ⟨3, by omega, e, e2⟩)
          have e2' : ((t.args.length : Int) == (((((⟨#[101, 113, 47, 50]⟩ : ByteArray)[3]'(by decide)).toNat : Int) - 48) % 256)) = true := by rw [show (((((⟨#[101, 113, 47, 50]⟩ : ByteArray)[3]'(by decide)).toNat : Int) - 48) % 256) = 2 by decide +kernel]; simp [e2]
          clear e e2
          go_wp2_with fail
          go_quiet (fail)
          go_wp2_with fail
          go_ret
          exact ⟨_, rfl, (HB0.out.trans (HB.out.mono HB0.out.size)).trans ⟨rfl, rfl, rfl, Nat.le_refl _, fun _ _ => rfl⟩, _, rfl, ⟨fun _ => HKN.out, fun _ => rfl⟩⟩
        · have HNK := hid (show ¬ (t.s.toList = (knownAt 3).1 ∧ t.args.length = (knownAt 3).2) from fun h => e2 h.2)
          have e2' : ((t.args.length : Int) == (((((⟨#[101, 113, 47, 50]⟩ : ByteArray)[3]'(by decide)).toNat : Int) - 48) % 256)) = false := by rw [show (((((⟨#[101, 113, 47, 50]⟩ : ByteArray)[3]'(by decide)).toNat : Int) - 48) % 256) = 2 by decide +kernel]; simpa using fun h : (t.args.length : Int) = 2 => e2 (by omega)
          clear e e2
          go_wp2_with fail
          go_quiet (fail)
          go_wp2_with fail
          refine ⟨⟨4, by omega, by go_num, HB.out.trans ⟨rfl, rfl, rfl, Nat.le_refl _, fun _ _ => rfl⟩, fun q hq => ?_⟩, by first | (simp [intOf]; done) | (simp [intOf]; omega)⟩
          by_cases h : q = 3
          · subst h; exact HNK.out
          · exact HQ.out q (by omega)
      · have HNK := hid (show ¬ (t.s.toList = (knownAt 3).1 ∧ t.args.length = (knownAt 3).2) from fun h => e h.1)
        have e' : (t.s.toList == (ByteArray.extract ⟨#[101, 113, 47, 50]⟩ 0 2).toList) = false := by rw [show (ByteArray.extract ⟨#[101, 113, 47, 50]⟩ 0 2).toList = [101, 113] by decide +kernel]; simpa using e
        clear e
        go_wp2_with fail
        go_quiet (fail)
        go_wp2_with fail
        refine ⟨⟨4, by omega, by go_num, HB.out.trans ⟨rfl, rfl, rfl, Nat.le_refl _, fun _ _ => rfl⟩, fun q hq => ?_⟩, by first | (simp [intOf]; done) | (simp [intOf]; omega)⟩
        by_cases h : q = 3
        · subst h; exact HNK.out
        · exact HQ.out q (by omega)
    by_cases h4 : j = 4
    · subst h4
      have c4 : wr.cell? ⟨w.heap.size + 1, 4, none⟩ = some (.string ⟨#[108, 101, 115, 115, 47, 50]⟩) := (blk_cell HY.out 4).trans rfl
      by_cases e : t.s.toList = [108, 101, 115, 115]
      · have e' : (t.s.toList == (ByteArray.extract ⟨#[108, 101, 115, 115, 47, 50]⟩ 0 4).toList) = true := by rw [show (ByteArray.extract ⟨#[108, 101, 115, 115, 47, 50]⟩ 0 4).toList = [108, 101, 115, 115] by decide +kernel]; simpa using e
        by_cases e2 : t.args.length = 2
        · have HKN := hid ((known_iff t).2 ⟨4, by omega, e, e2⟩)
          have e2' : ((t.args.length : Int) == (((((⟨#[108, 101, 115, 115, 47, 50]⟩ : ByteArray)[5]'(by decide)).toNat : Int) - 48) % 256)) = true := by rw [show (((((⟨#[108, 101, 115, 115, 47, 50]⟩ : ByteArray)[5]'(by decide)).toNat : Int) - 48) % 256) = 2 by decide +kernel]; simp [e2]
          clear e e2
          go_wp2_with fail
          go_quiet (fail)
          go_wp2_with fail
          go_ret
          exact ⟨_, rfl, (HB0.out.trans (HB.out.mono HB0.out.size)).trans ⟨rfl, rfl, rfl, Nat.le_refl _, fun _ _ => rfl⟩, _, rfl, ⟨fun _ => HKN.out, fun _ => rfl⟩⟩
        · have HNK := hid (show ¬ (t.s.toList = (knownAt 4).1 ∧ t.args.length = (knownAt 4).2) from fun h => e2 h.2)
          have e2' : ((t.args.length : Int) == (((((⟨#[108, 101, 115, 115, 47, 50]⟩ : ByteArray)[5]'(by decide)).toNat : Int) - 48) % 256)) = false := by rw [show (((((⟨#[108, 101, 115, 115, 47, 50]⟩ : ByteArray)[5]'(by decide)).toNat : Int) - 48) % 256) = 2 by decide +kernel]; simpa using fun h : (t.args.length : Int) = 2 => e2 (by omega)
          clear e e2
          go_wp2_with fail
          go_quiet (fail)
          go_wp2_with fail
          refine ⟨⟨5, by omega, by go_num, HB.out.trans ⟨rfl, rfl, rfl, Nat.le_refl _, fun _ _ => rfl⟩, fun q hq => ?_⟩, by first | (simp [intOf]; done) | (simp [intOf]; omega)⟩
          by_cases h : q = 4
          · subst h; exact HNK.out
          · exact HQ.out q (by omega)
      · have HNK := hid (show ¬ (t.s.toList = (knownAt 4).1 ∧ t.args.length = (knownAt 4).2) from fun h => e h.1)
        have e' : (t.s.toList == (ByteArray.extract ⟨#[108, 101, 115, 115, 47, 50]⟩ 0 4).toList) = false := by rw [show (ByteArray.extract ⟨#[108, 101, 115, 115, 47, 50]⟩ 0 4).toList = [108, 101, 115, 115] by decide +kernel]; simpa using e
        clear e
        go_wp2_with fail
        go_quiet (fail)
        go_wp2_with fail
        refine ⟨⟨5, by omega, by go_num, HB.out.trans ⟨rfl, rfl, rfl, Nat.le_refl _, fun _ _ => rfl⟩, fun q hq => ?_⟩, by first | (simp [intOf]; done) | (simp [intOf]; omega)⟩
        by_cases h : q = 4
        · subst h; exact HNK.out
        · exact HQ.out q (by omega)
    by_cases h5 : j = 5
    · subst h5
      have c5 : wr.cell? ⟨w.heap.size + 1, 5, none⟩ = some (.string ⟨#[97, 100, 100, 47, 51]⟩) := (blk_cell HY.out 5).trans rfl
      by_cases e : t.s.toList = [97, 100, 100]
      · have e' : (t.s.toList == (ByteArray.extract ⟨#[97, 100, 100, 47, 51]⟩ 0 3).toList) = true := by rw [show (ByteArray.extract ⟨#[97, 100, 100, 47, 51]⟩ 0 3).toList = [97, 100, 100] by decide +kernel]; simpa using e
        by_cases e2 : t.args.length = 3
        · have HKN := hid ((known_iff t).2 ⟨5, by omega, e, e2⟩)
          have e2' : ((t.args.length : Int) == (((((⟨#[97, 100, 100, 47, 51]⟩ : ByteArray)[4]'(by decide)).toNat : Int) - 48) % 256)) = true := by rw [show (((((⟨#[97, 100, 100, 47, 51]⟩ : ByteArray)[4]'(by decide)).toNat : Int) - 48) % 256) = 3 by decide +kernel]; simp [e2]
          clear e e2
          go_wp2_with fail
          go_quiet (fail)
          go_wp2_with fail
          go_ret
          exact ⟨_, rfl, (HB0.out.trans (HB.out.mono HB0.out.size)).trans ⟨rfl, rfl, rfl, Nat.le_refl _, fun _ _ => rfl⟩, _, rfl, ⟨fun _ => HKN.out, fun _ => rfl⟩⟩
        · have HNK := hid (show ¬ (t.s.toList = (knownAt 5).1 ∧ t.args.length = (knownAt 5).2) from fun h => e2 h.2)
          have e2' : ((t.args.length : Int) == (((((⟨#[97, 100, 100, 47, 51]⟩ : ByteArray)[4]'(by decide)).toNat : Int) - 48) % 256)) = false := by rw [show (((((⟨#[97, 100, 100, 47, 51]⟩ : ByteArray)[4]'(by decide)).toNat : Int) - 48) % 256) = 3 by decide +kernel]; simpa using fun h : (t.args.length : Int) = 3 => e2 (by omega)
          clear e e2
          go_wp2_with fail
          go_quiet (fail)
          go_wp2_with fail
          refine ⟨⟨6, by omega, by go_num, HB.out.trans ⟨rfl, rfl, rfl, Nat.le_refl _, fun _ _ => rfl⟩, fun q hq => ?_⟩, by first | (simp [intOf]; done) | (simp [intOf]; omega)⟩
          by_cases h : q = 5
          · subst h; exact HNK.out
          · exact HQ.out q (by omega)
      · have HNK := hid (show ¬ (t.s.toList = (knownAt 5).1 ∧ t.args.length = (knownAt 5).2) from fun h => e h.1)
        have e' : (t.s.toList == (ByteArray.extract ⟨#[97, 100, 100, 47, 51]⟩ 0 3).toList) = false := by rw [show (ByteArray.extract ⟨#[97, 100, 100, 47, 51]⟩ 0 3).toList = [97, 100, 100] by decide +kernel]; simpa using e
        clear e
        go_wp2_with fail
        go_quiet (fail)
        go_wp2_with fail
        refine ⟨⟨6, by omega, by go_num, HB.out.trans ⟨rfl, rfl, rfl, Nat.le_refl _, fun _ _ => rfl⟩, fun q hq => ?_⟩, by first | (simp [intOf]; done) | (simp [intOf]; omega)⟩
        by_cases h : q = 5
        · subst h; exact HNK.out
        · exact HQ.out q (by omega)
    omega
end Go.Proofs.YtlpmfkpefoegeabDoor
