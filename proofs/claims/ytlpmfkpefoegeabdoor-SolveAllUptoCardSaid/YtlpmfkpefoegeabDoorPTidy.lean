/-
  Maps keyed by integers, as lists of pairs.
  queristref.Tidied: a map keeps which numbers were met.
  Plain laws of tidying: what is tidy is tidy; it does not matter which numbers there were.
-/
import Derived.Test.YtlpmfkpefoegeabDoorQLib
import Derived.Carry
import Derived.Test.YtlpmfkpefoegeabDoorQRenamedT
import Derived.Test.YtlpmfkpefoegeabDoorQGood
namespace Go.Proofs.YtlpmfkpefoegeabDoor
set_option linter.unusedVariables false
set_option linter.unusedSimpArgs false
open Go.RowKit
def MapIs (w : World) (r : Nat) (L : List (Int × Value)) : Prop :=
  ∃ es clock, w.heap[r]? = some (.map es clock) ∧ es.toList.map (fun e => (e.key, e.val)) = L.map (fun p => (Value.int .i64 p.1, p.2))
theorem MapIs.lt {w : World} {r : Nat} {L : List (Int × Value)} (h : MapIs w r L) : r < w.heap.size := by
  obtain ⟨es, clock, h, _⟩ := h
  exact blk_lt h
theorem MapIs.keeps {A : Nat → Prop} {w w' : World} {r : Nat} {L : List (Int × Value)} (h : MapIs w r L) (hk : Keeps A w w') (hA : A r) : MapIs w' r L := by
  obtain ⟨es, clock, h1, h2⟩ := h
  exact ⟨es, clock, blk_keeps h1 hk hA, h2⟩
theorem MapIs.made (w : World) : MapIs (w.alloc (.map #[] 0)) w.heap.size [] := ⟨#[], 0, blk_new _ _, rfl⟩
def mget (L : List (Int × Value)) (n : Int) : Option Value := (L.find? (fun p => p.1 == n)).map (·.2)
theorem findNow_int (n : Int) : ∀ (es : List MapEntry) (L : List (Int × Value)) (i : Nat), es.map (fun e => (e.key, e.val)) = L.map (fun p => (Value.int .i64 p.1, p.2)) →
    ∃ r, Instr.findNow (.int .i64) (.int .i64 n) es i = some r ∧ r.map (·.2) = mget L n ∧ (∀ k x, r = some (k, x) → i ≤ k ∧ (∃ e, es[k - i]? = some e ∧ e.key = .int .i64 n) ∧ ∀ j, j < k - i → ∀ p, L[j]? = some p → p.1 ≠ n)
  | [], L, i, h => by
    have : L = [] := by simpa using h.symm
    subst this
    exact ⟨none, rfl, rfl, fun k x h => by cases h⟩
  | e :: es, [], i, h => by simp at h
  | e :: es, p :: L, i, h => by
    simp only [List.map_cons, List.cons.injEq, Prod.mk.injEq] at h
    obtain ⟨⟨hk, hv⟩, hr⟩ := h
    by_cases hn : n = p.1
    · subst hn
      refine ⟨some (i, e.val), ?_, ?_, ?_⟩
      · simp [Instr.findNow, Instr.sameNow, hk]
      · simp [mget, hv]
      · intro k x h
        simp only [Option.some.injEq, Prod.mk.injEq] at h
        obtain ⟨rfl, rfl⟩ := h
        exact ⟨Nat.le_refl _, ⟨e, by simp, hk⟩, fun j hj => by omega⟩
    · obtain ⟨r, h1, h2, h3⟩ := findNow_int n es L (i + 1) hr
      refine ⟨r, ?_, ?_, ?_⟩
      · rw [Instr.findNow, hk]
        have hb : (n == p.1) = false := by simpa using hn
        simp [Instr.sameNow, hb, h1]
      · rw [h2]
        have : (p.1 == n) = false := by simp; omega
        simp [mget, this]
      · intro k x h
        obtain ⟨h4, ⟨e', h5, h6⟩, h7⟩ := h3 k x h
        refine ⟨by omega, ⟨e', ?_, h6⟩, fun j hj q hq => ?_⟩
        · rw [show k - i = (k - (i + 1)) + 1 by omega]; simpa using h5
        · cases j with
          | zero => simp at hq; subst hq; omega
          | succ j => exact h7 j (by omega) q (by simpa using hq)
def IntMapTy (P : Program) (t e : TypeId) (z : Value) : Prop :=
  ∃ k, P.underlying t = some (.map k e) ∧ P.underlying k = some (.int .i64) ∧ ∀ w, (zeroValue e).run P w = .ok z w
section
variable {P : Program} {t e : TypeId} {z : Value} {w : World} {r : Nat} {L : List (Int × Value)} {n : Int}
theorem run_findKey (k : TypeId) (hk : P.underlying k = some (.int .i64)) (es : List MapEntry) (x : Option (Nat × Value)) (h : Instr.findNow (.int .i64) (.int .i64 n) es 0 = some x) :
    (Instr.findKey k (.int .i64 n) es).run P w = .ok x w := by
  simp [Instr.findKey, run_underlying hk, h]
theorem run_checkKey (k : TypeId) (hk : P.underlying k = some (.int .i64)) (b : Bool) : (Instr.checkKey b 10000 k (.int .i64 n)).run P w = .ok () w := by
  rw [show (10000 : Nat) = 9999 + 1 from rfl, Instr.checkKey]
  simp [run_underlying hk]
theorem run_mlookup_ok (hty : IntMapTy P t e z) (h : MapIs w r L) :
    (Instr.lookup t (.map (some r)) (.int .i64 n) true).run P w = .ok (.tuple #[(mget L n).getD z, .bool (mget L n).isSome]) w := by
  obtain ⟨k, ht, hk, hz⟩ := hty
  obtain ⟨es, clock, h1, h2⟩ := h
  obtain ⟨x, h3, h4, -⟩ := findNow_int n es.toList L 0 h2
  have h5 := run_findKey (P := P) (w := w) k hk es.toList x h3
  have h6 := run_checkKey (P := P) (w := w) (n := n) k hk es.isEmpty
  rw [← h4]
  cases x with
  | none => simp [Instr.lookup, run_underlying ht, getObj, Sem.run, h1, h5, h6, hz]
  | some p => simp [Instr.lookup, run_underlying ht, getObj, Sem.run, h1, h5, h6]
theorem run_mlookup (hty : IntMapTy P t e z) (h : MapIs w r L) :
    (Instr.lookup t (.map (some r)) (.int .i64 n) false).run P w = .ok ((mget L n).getD z) w := by
  obtain ⟨k, ht, hk, hz⟩ := hty
  obtain ⟨es, clock, h1, h2⟩ := h
  obtain ⟨x, h3, h4, -⟩ := findNow_int n es.toList L 0 h2
  have h5 := run_findKey (P := P) (w := w) k hk es.toList x h3
  have h6 := run_checkKey (P := P) (w := w) (n := n) k hk es.isEmpty
  rw [← h4]
  cases x with
  | none => simp [Instr.lookup, run_underlying ht, getObj, Sem.run, h1, h5, h6, hz]
  | some p => simp [Instr.lookup, run_underlying ht, getObj, Sem.run, h1, h5, h6]
theorem run_mlen (hty : IntMapTy P t e z) (h : MapIs w r L) (ty : TypeId) :
    (Builtin.len_ #[t] ty #[.map (some r)]).run P w = .ok (.int .i64 L.length) w := by
  obtain ⟨k, ht, hk, hz⟩ := hty
  obtain ⟨es, clock, h1, h2⟩ := h
  have h3 : es.size = L.length := by have := congrArg List.length h2; simpa using this
  simp [Builtin.len_, run_underlying ht, getObj, Sem.run, h1, goInt, h3]
theorem run_mput_new (hty : IntMapTy P t e z) (h : MapIs w r L) (hn : mget L n = none) (v : Value) :
    ∃ w', (Instr.mapUpdate t (.map (some r)) (.int .i64 n) v).run P w = .ok () w' ∧ MapIs w' r (L ++ [(n, v)]) ∧ Ch (fun b => b = r) w w' ∧ w'.heap.size = w.heap.size := by
  obtain ⟨k, ht, hk, hz⟩ := hty
  obtain ⟨es, clock, h1, h2⟩ := h
  obtain ⟨x, h3, h4, -⟩ := findNow_int n es.toList L 0 h2
  rw [hn] at h4
  have hx : x = none := by cases x <;> simp_all
  subst hx
  have h5 := run_findKey (P := P) (w := w) k hk es.toList none h3
  have h6 := run_checkKey (P := P) (w := w) (n := n) k hk false
  have hlt := blk_lt h1
  refine ⟨{ w with heap := w.heap.setIfInBounds r (.map (es.push { key := .int .i64 n, val := v, born := clock }) (clock + 1)) }, ?_, ⟨es.push { key := .int .i64 n, val := v, born := clock }, clock + 1, ?_, ?_⟩, ⟨rfl, rfl, rfl, by simp, fun b hb hne => ?_⟩, by simp⟩
  · simp [Instr.mapUpdate, run_underlying ht, getObj, setObj, Sem.run, h1, h5, h6]
  · simp [hlt]
  · simp [h2]
  · rw [Array.getElem?_setIfInBounds_ne (Ne.symm hne)]
end
end Go.Proofs.YtlpmfkpefoegeabDoor

namespace Go.Proofs.YtlpmfkpefoegeabDoor
set_option linter.unusedVariables false
set_option linter.unusedSimpArgs false
open Go.RowKit
def seenF (st : List Int) (n : Int) : Int × List Int := if n ∈ st then ((st.idxOf n : Nat), st) else ((st.length : Nat), st ++ [n])
theorem seenF_sz (st : List Int) (n : Int) : (seenF st n).2.length ≤ st.length + 1 := by
  unfold seenF; split <;> simp
def seenL (st : List Int) : List (Int × Value) := st.zipIdx.map fun p => (p.1, .int .i64 (p.2 : Nat))
theorem seenL_snoc (st : List Int) (n : Int) : seenL (st ++ [n]) = seenL st ++ [(n, .int .i64 (st.length : Nat))] := by
  simp [seenL, List.zipIdx_append]
theorem seenL_get (n : Int) : ∀ (st : List Int) (k : Nat), mget (st.zipIdx k |>.map fun p => (p.1, Value.int .i64 (p.2 : Nat))) n = if n ∈ st then some (.int .i64 ((k + st.idxOf n : Nat) : Int)) else none
  | [], k => by simp [mget]
  | x :: st, k => by
    have ih := seenL_get n st (k + 1)
    by_cases h : x = n
    · subst h
      simp [mget]
    · have h' : (x == n) = false := by simpa using h
      have hn : ¬ n = x := fun e => h e.symm
      have h1 : mget (((x :: st).zipIdx k).map fun p => (p.1, Value.int .i64 (p.2 : Nat))) n = mget ((st.zipIdx (k + 1)).map fun p => (p.1, Value.int .i64 (p.2 : Nat))) n := by
        simp [mget, List.zipIdx_cons, h']
      rw [h1, ih]
      simp only [List.mem_cons, hn, false_or, List.idxOf_cons, h', cond_false]
      split
      · congr 3; omega
      · rfl
theorem seenL_at (st : List Int) (n : Int) : mget (seenL st) n = if n ∈ st then some (.int .i64 ((st.idxOf n : Nat) : Int)) else none := by
  have := seenL_get n st 0
  simpa [seenL] using this
theorem seenL_length (st : List Int) : (seenL st).length = st.length := by simp [seenL]
def TiInv (p3 : Addr) (st : List Int) (M : Nat → Prop) (w : World) : Prop :=
  ∃ r, (∀ b, M b ↔ (b = p3.block ∨ b = r)) ∧ r ≠ p3.block ∧ w.cell? p3 = some (.map (some r)) ∧ MapIs w r (seenL st)
theorem tiInv_law (p3 : Addr) : StLaw (TiInv p3) := by
  refine ⟨fun st M w h b hb => ?_, fun st M w w' h hk => ?_⟩
  · obtain ⟨r, h1, h2, h3, h4⟩ := h
    rcases (h1 b).1 hb with rfl | rfl
    · exact World.block_lt_of_cell? w _ h3
    · exact h4.lt
  · obtain ⟨r, h1, h2, h3, h4⟩ := h
    refine ⟨r, h1, h2, ?_, h4.keeps hk ((h1 _).2 (.inr rfl))⟩
    rw [← h3]; exact World.cell?_of_block (hk.block _ (World.block_lt_of_cell? w _ h3) ((h1 _).2 (.inl rfl)))
theorem tyMapII : IntMapTy Tryd.prog 203 3 (.int .i64 0) :=
  ⟨3, Tryd.underlying203, Tryd.underlying3, fun _ => by kernel_rfl⟩
theorem i64_nat {k : Nat} (h : k ≤ 4194304) : I64 (k : Int) := by unfold I64; omega
set_option maxHeartbeats 400000 in
theorem clo_tidied (p3 : Addr) : CloT (TiInv p3) seenF List.length p3 := by
  intro st M w n hi hsz hn
  have HI := hid hi
  obtain ⟨r, hM, hr, hc, hm⟩ := hi
  have hl1 := run_mlookup_ok (n := n) tyMapII hm
  have hat := seenL_at st n
  by_cases hin : n ∈ st
  · have hl2 := run_mlookup (n := n) tyMapII hm
    rw [hat, if_pos hin] at hl1 hl2
    simp only [Option.getD_some, Option.isSome_some] at hl1 hl2
    have hidx : st.idxOf n < st.length := List.idxOf_lt_length_of_mem hin
    have HIN := hid hin
    have HM := hid hM
    clear hat hin hM hm
    go_enter Tryd.func145, Tryd.ntmps145
    go_wp2_with fail
    go_ret
    refine ⟨by simp [seenF, HIN.out], by simp only [seenF, HIN.out, if_true]; exact i64_nat (by omega), M, Ch.refl M w, fun b hb => .inl hb, by simpa [seenF, HIN.out] using HI.out⟩
  · rw [hat, if_neg hin] at hl1
    rw [if_neg hin] at hat
    simp only [Option.getD_none, Option.isSome_none] at hl1
    have hlen := fun ty => run_mlen tyMapII hm ty
    simp only [seenL_length] at hlen
    obtain ⟨w2, hput, hm2, hch, hsz2⟩ := run_mput_new tyMapII hm hat (.int .i64 (st.length : Nat))
    rw [← seenL_snoc] at hm2
    have hl2 := run_mlookup (n := n) tyMapII hm2
    rw [seenL_at, if_pos (by simp)] at hl2
    have hidx : (st ++ [n]).idxOf n = st.length := by rw [List.idxOf_append, if_neg hin]; simp
    simp only [hidx, Option.getD_some] at hl2
    have hc2 : w2.cell? p3 = some (.map (some r)) := by rw [← hc]; exact World.cell?_of_block (hch.block _ (World.block_lt_of_cell? w _ hc) (fun e => hr e.symm))
    have HIN := hid hin
    have HM := hid hM
    have HM2 := hid hm2
    have HCH := hid hch
    clear hat hin hM hm hm2 hch hsz2 hidx
    go_enter Tryd.func145, Tryd.ntmps145
    go_wp2_with fail
    go_ret
    refine ⟨by simp [seenF, HIN.out], by simp only [seenF, HIN.out, if_false]; exact i64_nat (by omega), M, HCH.out.mono (fun b _ hb => (HM.out b).2 (.inr hb)), fun b hb => .inl hb, ?_⟩
    have : (seenF st n).2 = st ++ [n] := by simp [seenF, HIN.out]
    rw [this]
    exact ⟨r, HM.out, hr, hc2, HM2.out⟩
set_option maxHeartbeats 1000000 in
theorem tidied_ok (l : List Tm) (hnd : Tm.nodesL l ≤ 4194304) (A : Nat → Prop) (w : World) (v : Value) (hv : TmsR A w l v) :
    Calls Tryd.prog 124 #[v] w (Pure w fun v' w' => TmsR (New w) w' (Tm.renSL seenF [] l).1 v') := by
  obtain ⟨a, cap, b, off, rfl, hlc, hcm, hlb, ha, he⟩ := hv.at
  have HE := hid he
  have HA := hid ha
  have HV := hid hv
  clear hv he ha
  have hmm := @run_makeMap Tryd.prog
  go_enter Tryd.func124, Tryd.ntmps124
  go_wp2_with fail
  go_loopw [4, 10] (fun v i wr => ∃ (j : Nat) (sj : List Int) (Mj : Nat → Prop), j ≤ l.length ∧ i = .int .i64 j ∧ w.heap.size + 2 ≤ wr.heap.size ∧ Below w.heap.size w wr ∧ (∀ b, Mj b → w.heap.size ≤ b) ∧ TiInv ⟨w.heap.size + 1, 0, none⟩ sj Mj wr ∧
      sj = (Tm.renSL seenF [] (l.take j)).2 ∧ (∀ b, ownB v = some b → ¬ Mj b) ∧
      OwnR wr (w.heap.size + 2) 31 4 Tm.rep (fun b => w.heap.size + 2 ≤ b ∧ ¬ Mj b) (Tm.renSL seenF [] (l.take j)).1 v) (fun _ i _ => l.length - (intOf i).toNat)
  case atStart =>
    refine ⟨0, [], fun b => b = w.heap.size + 1 ∨ b = w.heap.size, Nat.zero_le _, rfl, by simp, below_pure (below_pure (Below.refl _ _)), fun b hb => by omega, ⟨w.heap.size, fun b => Iff.rfl, by simp, ?_, ?_⟩, by simp [Tm.renSL], by simp [ownB], by simpa [Tm.renSL] using OwnR.nil ..⟩
    · rw [blk_cell (heap2 _ _ _).2]; rfl
    · exact (MapIs.made w).keeps (Keeps.alloc (fun _ => True) _ _) trivial
  case round =>
    obtain ⟨j, sj, Mj, hj, rfl, hz, hb, hMj, hst, hsj, hob, hown⟩ := hrel
    have hvl : (Tm.renSL seenF [] (l.take j)).1.length = j := by rw [Tm.renSL_length]; simp; omega
    have HB := hid hb
    have HMJ := hid hMj
    have HST := hid hst
    have HSJ := hid hsj
    have HOB := hid hob
    have HO := hid hown
    have HVL := hid hvl
    clear hb hMj hst hsj hob hown hvl hmm
    by_cases hlt : j < l.length
    · obtain ⟨rfl, hAb⟩ := HA.out (by omega)
      obtain ⟨sa, sc, c0, c1, c2, c3, hr⟩ := tm_cells HE.out hAb (Keeps.of_below HB.out) hlt
      have lb : b < wr.heap.size := World.block_lt_of_cell? wr _ c0
      -- what the term leads to lies below
      have hr0 := HE.out
      obtain ⟨vs0, hl0, hrep0, hrow0⟩ := hr0 j _ (List.getElem?_eq_getElem hlt)
      obtain ⟨sa0, sc0, rfl, -⟩ := Tm.rep4 hrep0
      obtain ⟨-, -, -, d3⟩ := rowAt4 (RowAt.keeps hAb hrow0 (Keeps.of_below (A := A) HB.out))
      have hsame : Value.slice sa l[j].args.length sc = Value.slice sa0 l[j].args.length sc0 := Option.some.inj (c3.symm.trans d3)
      simp only [Value.slice.injEq, true_and] at hsame
      obtain ⟨rfl, rfl⟩ := hsame
      have hrep1 := Tm.rep_lasts.2.1 _ (fun b => A b ∧ b < w.heap.size) _ _ _ hrep0 (fun b hb h => ⟨h, hb⟩)
      have HR := hid (Tm.rep_lasts.1 _ _ wr _ _ hrep1 (Keeps.of_below HB.out))
      clear hr hr0 hl0 hrep0 hrow0 d3 hrep1
      go_wp2_with fail
      have hnd2 : sj.length + l[j].nodes ≤ 4194304 := by
        have h1 := Tm.renSL_szL (sz := List.length) seenF_sz (l.take j) []
        rw [← HSJ.out] at h1
        have h2 := Tm.nodesL_take l j hlt
        simp only [List.length_nil] at h1
        omega
      refine (renT_ok (tiInv_law _) seenF_sz (clo_tidied _) l[j] sj Mj (fun b => A b ∧ b < w.heap.size) _ [_, _, _, _] ((tiInv_law _).keeps _ _ _ _ HST.out (Keeps.alloc _ _ _)) hnd2 (Tm.rep_lasts.1 _ _ _ _ _ HR.out (Keeps.alloc _ _ _)) (fun b hb => ⟨by simp; omega, fun h => by have := HMJ.out b h; omega⟩)).mono ?_
      rintro e w1 ⟨us, M2, rfl, hch, hM2, hst2, hr⟩
      obtain ⟨sa', sc', rfl, -⟩ := Tm.rep4 hr
      have hsz := hch.size
      simp only [World.size_alloc] at hsz hM2 hr
      have hlt2 := HO.out.lt
      have hM2l := (tiInv_law _).lt _ _ _ hst2
      have hMM : ∀ b, M2 b → w.heap.size ≤ b := fun b hb => by
        rcases hM2 b hb with h1 | h1
        · exact HMJ.out b h1
        · omega
      have hn2 : ∀ b, b < wr.heap.size + 1 → ¬ Mj b → ¬ M2 b := fun b hb hn h => by
        rcases hM2 b h with h1 | h1
        · exact hn h1
        · omega
      have hHO := HO.out.alloc Tm.rep_lasts (.cells #[.int .i64 l[j].kind, .int .i64 l[j].n, .string l[j].s, .slice sa l[j].args.length sc] 31)
      have HO1 := hid (((hHO.mono (A' := fun b => w.heap.size + 2 ≤ b ∧ ¬ M2 b ∧ ¬ Mj b) Tm.rep_lasts (fun b hb hb' => ⟨hb'.1, hn2 b (by simpa using hb) hb'.2, hb'.2⟩)).keeps (B := fun b => ¬ Mj b) Tm.rep_lasts (hch.keeps fun _ _ h => h) (fun _ h => h.2.2) HOB.out).mono (A' := fun b => w.heap.size + 2 ≤ b ∧ ¬ M2 b) Tm.rep_lasts (fun b _ hb => ⟨hb.1, hb.2.1⟩))
      have HOB2 : Hid (∀ b, ownB u4 = some b → ¬ M2 b) := fun b hb => hn2 b (by have := (hlt2 b hb).2; omega) (HOB.out b hb)
      have HN := hid (show Tm.rep (fun b => (w.heap.size + 2 ≤ b ∧ ¬ M2 b) ∧ ownB u4 ≠ some b) w1 _ _ from Tm.rep_lasts.2.1 _ _ _ _ _ hr fun b _ hb => ⟨⟨by omega, hb.2⟩, fun e => by have := (hlt2 b e).2; omega⟩)
      have HL := hid (show (Tm.renSL seenF [] (l.take j)).1.length < 4194304 ∧ w.heap.size + 2 ≤ w1.heap.size by rw [HVL.out]; omega)
      have HB2 := hid (show Below w.heap.size w w1 from ((Ch.of_below (M := fun _ => False) (HB.out.alloc (by omega) _)).trans hch (fun b hb => .inr (HMJ.out b hb))).below (fun _ _ h => h))
      have HST2 := hid hst2
      have HM2l := hid hM2l
      have HMM := hid hMM
      clear hr hch hHO hst2 hM2l hMM hn2 hM2
      go_wp2_with (at_builtin; refine wpList_app1 rfl (.tmp 14) (.tmp 18) 29 rfl (w.heap.size + 2) 31 4 56 tyTerm Tm.rep_lasts u4 _ rfl HO1.out (Tm.renS seenF sj l[j]).1 [_, _, _, _] rfl rfl HN.out HL.out ?_; intro v2 w2 hown2 hgrew)
      go_roundw
      case rel =>
        have hk2 := hgrew.keeps (A := fun b => ownB u4 ≠ some b) (fun _ h => h)
        have hka := (Keeps.alloc (fun b => ownB u4 ≠ some b) w1 (.cells #[.int .i64 (Tm.renS seenF sj l[j]).1.kind, .int .i64 (Tm.renS seenF sj l[j]).1.n, .string (Tm.renS seenF sj l[j]).1.s, .slice sa' (Tm.renS seenF sj l[j]).1.args.length sc'] 31)).trans hk2
        refine ⟨j + 1, (Tm.renS seenF sj l[j]).2, M2, by omega, by go_num, by have := hgrew.size; simp only [World.size_alloc] at this; omega, hgrew.below (HB2.out.alloc (by omega) _) (by simp; omega) (fun b hb => by have := (hlt2 b hb).1; omega), HMM.out, (tiInv_law _).keeps _ _ _ _ HST2.out (hka.mono fun b _ hb e => HOB2.out b e hb), ?_, fun b hb hm => ?_, ?_⟩
        · rw [List.take_succ_eq_append_getElem hlt, Tm.renSL_snoc, ← HSJ.out]
        · rcases hgrew.block with h1 | h1
          · exact HOB2.out b (h1.symm.trans hb) hm
          · have h2 := h1 b hb
            have h3 := HM2l.out b hm
            simp only [World.size_alloc] at h2
            omega
        · rw [List.take_succ_eq_append_getElem hlt, Tm.renSL_snoc, ← HSJ.out]; exact hown2
      case measure => simp [intOf]; omega
    · have : j = l.length := by omega
      subst this
      go_wp2_with fail
      go_ret
      have hO := HO.out
      rw [List.take_length] at hO
      exact ⟨_, rfl, HB.out, (hO.mono Tm.rep_lasts (fun b _ hb => show New w b by unfold New; omega)).sl Tm.rep_lasts (by rw [Tm.renSL_length]; exact hlb) (fun b hb => by unfold New; omega)⟩
end Go.Proofs.YtlpmfkpefoegeabDoor

namespace Go.Proofs.YtlpmfkpefoegeabDoor
set_option linter.unusedVariables false
set_option linter.unusedSimpArgs false
def tidy (l : List Tm) : List Tm := (Tm.renSL seenF [] l).1
namespace Tm
inductive Vars (p : Int → Prop) : Tm → Prop where
  | mk (k n : Int) (s : ByteArray) (l : List Tm) (h : k = 0 → p n) (hl : ∀ t ∈ l, Vars p t) : Vars p (mk k n s l)
theorem Good.vars {v : Int} : ∀ {t : Tm}, t.Good v → t.Vars (fun n => 0 ≤ n ∧ n < v) := by
  intro t
  induction t using induct with
  | h k n s l ih =>
    intro h
    cases h with
    | var _ h0 h1 => exact .mk _ _ _ _ (fun _ => ⟨h0, h1⟩) (fun t ht => by cases ht)
    | atom _ _ => exact .mk _ _ _ _ (fun h => by cases h) (fun t ht => by cases ht)
    | int _ _ _ => exact .mk _ _ _ _ (fun h => by cases h) (fun t ht => by cases ht)
    | comp _ _ _ _ _ _ h4 => exact .mk _ _ _ _ (fun h => by cases h) (fun t ht => ih t ht (h4 t ht))
end Tm
section
variable {p : Int → Prop} {g : Int → Int}
end
end Go.Proofs.YtlpmfkpefoegeabDoor
