/-
  The solver: undo.
-/
import Derived.Test.YtlpmfkpefoegeabQSolveE
namespace Go.Proofs.Ytlpmfkpefoegeab
set_option linter.unusedVariables false
set_option linter.unusedSimpArgs false
open Go.RowKit

theorem map_eraseIdx {α β : Type} (f : α → β) : ∀ (l : List α) (i : Nat), (l.eraseIdx i).map f = (l.map f).eraseIdx i
  | [], _ => rfl
  | x :: l, 0 => rfl
  | x :: l, i + 1 => by simp [map_eraseIdx f l i]

section
variable {P : Program} {t e : TypeId} {z : Value} {w : World} {r : Nat} {L1 L2 : List (Int × Value)} {n : Int} {v : Value}
/-- a key goes -/
theorem run_mdelete (hty : IntMapTy P t e z) (h : MapIs w r (L1 ++ (n, v) :: L2)) (hn : ∀ p ∈ L1, p.1 ≠ n) (kt : TypeId) :
    ∃ w', (∀ ty, (Builtin.delete_ #[t, kt] ty #[.map (some r), .int .i64 n]).run P w = .ok (.tuple #[]) w') ∧ MapIs w' r (L1 ++ L2) ∧ Ch (fun b => b = r) w w' ∧ w'.heap.size = w.heap.size := by
  obtain ⟨k, ht, hk, hz⟩ := hty
  obtain ⟨es, clock, h1, h2⟩ := h
  obtain ⟨x, h3, h4, h5⟩ := findNow_int n es.toList (L1 ++ (n, v) :: L2) 0 h2
  have hg : mget (L1 ++ (n, v) :: L2) n = some v := by
    unfold mget
    rw [List.find?_append, List.find?_eq_none.2 (by simpa using hn)]
    simp
  rw [hg] at h4
  match x, h3, h4, h5 with
  | none, h3, h4, h5 => simp at h4
  | some (i, u), h3, h4, h5 =>
    obtain ⟨-, ⟨en, he1, he2⟩, h6⟩ := h5 i u rfl
    simp only [Nat.sub_zero] at he1 h6
    have hL : es.toList.length = (L1 ++ (n, v) :: L2).length := by have := congrArg List.length h2; simpa using this
    have hi : i = L1.length := by
      rcases Nat.lt_trichotomy i L1.length with h7 | h7 | h7
      · have h8 : (es.toList.map (fun e => (e.key, e.val)))[i]? = some (en.key, en.val) := by rw [List.getElem?_map, he1]; rfl
        rw [h2, List.getElem?_map, List.getElem?_append_left h7, List.getElem?_eq_getElem h7] at h8
        simp only [Option.map_some, Option.some.injEq, Prod.mk.injEq] at h8
        rw [he2] at h8
        have := h8.1
        simp only [Value.int.injEq, true_and] at this
        exact absurd this (hn _ (List.getElem_mem h7))
      · exact h7
      · exact absurd rfl (h6 L1.length h7 (n, v) (by simp))
    subst hi
    have h7 := run_findKey (P := P) (w := w) k hk es.toList _ h3
    have h8 := run_checkKey (P := P) (w := w) (n := n) k hk es.isEmpty
    have hlt := blk_lt h1
    refine ⟨{ w with heap := w.heap.setIfInBounds r (.map (es.eraseIdxIfInBounds L1.length) clock) }, fun ty => ?_, ⟨es.eraseIdxIfInBounds L1.length, clock, ?_, ?_⟩, ⟨rfl, rfl, rfl, by simp, fun b hb hne => ?_⟩, by simp⟩
    · simp [Builtin.delete_, run_underlying ht, getObj, setObj, Sem.run, h1, h7, h8]
    · simp [hlt]
    · have hb : L1.length < es.size := by rw [Array.length_toList] at hL; rw [hL]; simp
      rw [Array.eraseIdxIfInBounds, dif_pos hb, Array.toList_eraseIdx, map_eraseIdx, h2, ← map_eraseIdx, List.eraseIdx_append_of_length_le (Nat.le_refl _)]
      simp
    · rw [Array.getElem?_setIfInBounds_ne (Ne.symm hne)]
end

section
variable {base : Nat} {P : List Cl} {q g mb xb : Nat} {pv tv cv ov : Value} {s : Sv} {w : World}
/-- what undo comes to -/
def SUndoPost (base : Nat) (P : List Cl) (q g mb : Nat) (pv tv cv ov : Value) (s' : Sv) (w : World) (e : Ending) (w' : World) : Prop := ∃ r, e = .returned r ∧ SStep base P q g mb pv tv cv ov s' w w'

/-- so much is bound no more -/
theorem SvI.untrail {n : Nat} {wr : World} {ta : Option Addr} {tc : Nat} (h : SvI base P q g mb g pv (.slice ta s.env.length tc) cv ov s w) (hT : OwnN w base ((s.env.take n).map (·.1)) (.slice ta n tc)) (hn : n ≤ s.env.length)
    (hc : Ch (fun b => b = mb) w wr) (hE : ∃ L, MapIs wr mb L ∧ EnvL (SA g mb g (.slice ta s.env.length tc) cv ov) w (s.env.take n) L) (hap : Apart g mb (.slice ta s.env.length tc) cv ov) (hgm : mb ≠ g) :
    SStep base P q g mb pv (.slice ta s.env.length tc) cv ov { s with env := s.env.take n } w (wr.setCell ⟨g, 2, none⟩ (.slice ta n tc)) := by
  have hlt := h.lt
  have ho : ownB (.slice ta n tc) = ownB (.slice ta s.env.length tc) := by cases ta <;> rfl
  have hch0 : Ch (fun b => b = g ∨ b = mb) w (wr.setCell ⟨g, 2, none⟩ (.slice ta n tc)) := (hc.mono fun b _ e => .inr e).setCell (p := ⟨g, 2, none⟩) (.inl (.inl rfl)) _
  have hch : Ch (SM g mb (.slice ta s.env.length tc) cv ov) w (wr.setCell ⟨g, 2, none⟩ (.slice ta n tc)) := hch0.mono fun b _ hb => hb.elim .inl fun e => .inr (.inl e)
  have hk0 : Keeps (fun b => ¬ (b = g ∨ b = mb)) w (wr.setCell ⟨g, 2, none⟩ (.slice ta n tc)) := hch0.keeps fun b _ hb => hb
  have hlb := h.sm_lt
  have htt : ∀ b, ownB (.slice ta n tc) = some b → ownB (.slice ta s.env.length tc) = some b ∨ w.heap.size ≤ b := fun b hb => .inl (ho ▸ hb)
  have hmid := sa_midg (tv' := .slice ta n tc) (cv' := cv) (ov' := ov) hch htt (fun b h => .inl h) (fun b h => .inl h)
  refine ⟨.slice ta n tc, cv, ov, ?_, hch, htt, fun b h => .inl h, fun b h => .inl h⟩
  obtain ⟨h1, h2, h3, h4, h5, h6, h7, h8, h8', h8'', h9, h10, h11, h12, h13, h14, h15, h16⟩ := h
  refine ⟨(blk_set ((hc.block g hlt.1 (fun e => hgm e.symm)).trans h1) 2 _).trans rfl, ?_, ?_, ?_, ?_, ?_, h7, h8, h8', Nat.lt_of_lt_of_le h8'' hch.size, .inl rfl, h10, h11, h12, h13, by simp only [List.length_take]; omega, h15, h16⟩
  · exact SlR.keeps Cl.rep_lasts h2 (hch.keeps fun b hb hA e => by have := (hlb b e).1; omega)
  · obtain ⟨L, hm, hL⟩ := hE
    exact ⟨L, hm.keeps (Keeps.setCell (fun b => b ≠ g) _ _ _ (fun h => h rfl)) hgm, ((hL.mono (A' := fun b => SA g mb g (.slice ta s.env.length tc) cv ov b ∧ b < w.heap.size) fun b hb hA => ⟨hA, hb⟩).keeps hmid.1).mono fun b _ hb => hmid.2 b hb⟩
  · exact ⟨Own.keeps hT.1 hk0 (fun b hb e => e.elim (fun e => hap.tg (by rw [← ho, ← e]; exact hb)) (fun e => hap.tm (by rw [← ho, ← e]; exact hb))), hT.2⟩
  · refine ((h5.mono (A' := fun b => SA g mb g (.slice ta s.env.length tc) cv ov b ∧ b < w.heap.size) chcR_lasts fun b hb hA => ⟨hA, hb⟩).keeps chcR_lasts hk0 (fun b hb e => hb.1.1 (e.elim .inl fun e => .inr (.inl e))) (fun b hb e => e.elim (fun e => hap.cg (e ▸ hb)) (fun e => hap.cm (e ▸ hb)))).mono chcR_lasts fun b _ hb => hmid.2 b hb
  · refine ((h6.mono (A' := fun b => SA g mb g (.slice ta s.env.length tc) cv ov b ∧ b < w.heap.size) evR_lasts fun b hb hA => ⟨hA, hb⟩).keeps evR_lasts hk0 (fun b hb e => hb.1.1 (e.elim .inl fun e => .inr (.inl e))) (fun b hb e => e.elim (fun e => hap.og (e ▸ hb)) (fun e => hap.om (e ▸ hb)))).mono evR_lasts fun b _ hb => hmid.2 b hb

theorem take_drop_at {α : Type} (l : List α) (n j : Nat) (h : n + j < l.length) : l.take n ++ l.drop (n + j) = l.take n ++ l[n + j] :: l.drop (n + (j + 1)) := by
  rw [List.drop_eq_getElem_cons h]; rfl

set_option maxRecDepth 100000 in
set_option maxHeartbeats 4000000 in
theorem sundo_ok (n : Nat) (h : SvI base P q g mb g pv tv cv ov s w) (hn : n ≤ s.env.length) (hE : (s.env.map (·.1)).Nodup) :
    Calls Try.prog 61 #[.pointer (some ⟨g, 0, none⟩), .int .i64 (n : Int)] w (SUndoPost base P q g mb pv tv cv ov { s with env := s.env.take n } w) := by
  have HU := hid h
  have HN := hid hn
  have HND := hid hE
  have HAP := hid h.apart
  have hgm := h.mb_ne
  have hgm' : g ≠ mb := fun e => hgm e.symm
  obtain ⟨pa, pc, ta, tc, ca, cc, oa, oc, rfl, rfl, rfl, rfl, -, -, ht1, ht2, -⟩ := h.vals
  obtain ⟨hl1, hl2, hl3⟩ := h.lt
  obtain ⟨b0, b1, b2, b3, b4, b5, b6, b7, bf⟩ := box8 h.box
  have hlen := h.len
  have hcs := cell_set
  obtain ⟨L, hM, hL⟩ := h.env
  have HM := hid hM
  have HL := hid hL
  have hkeys := hL.keys
  have HLK := hid hkeys
  have hLl : L.length = s.env.length := by have := congrArg List.length hkeys; simpa using this
  have HLL := hid hLl
  have hT : OwnN w base (s.env.map (·.1)) (.slice ta (s.env.map (·.1)).length tc) := by simpa using h.trail
  have HT := hid hT
  have hsl := hT.sl (by simp; omega) (A := fun _ => True) (fun _ _ => trivial)
  have HDR := hid (SlR.dropS hsl (show n ≤ (s.env.map (·.1)).length by simpa using hn))
  simp only [List.length_map] at HDR
  obtain ⟨sa, hsa⟩ : ∃ sa, sa = (if tc = n then ta else ta.map fun x => x.add (n * 1)) := ⟨_, rfl⟩
  rw [← hsa] at HDR
  have HSA := hid hsa
  obtain ⟨_, _, db, doff, e, -, -, -, hda, hde⟩ := SlR.at HDR.out
  simp only [Value.slice.injEq, List.length_drop, List.length_map] at e
  obtain ⟨rfl, -, rfl⟩ := e
  have HDA := hid hda
  have HDE := hid hde
  have qS : ∀ W : World, (Instr.slice 28 (.slice ta s.env.length tc) (some (.int .i64 (n : Int))) none none).run Try.prog W = .ok (.slice sa (s.env.length - n) (tc - n)) W := fun W => by
    rw [HSA.out]
    exact slice_from_numsS W ta s.env.length tc n hn
  have hn1 : (n : Int) ≤ (s.env.length : Int) := by omega
  have hn0 : (0 : Int) ≤ (n : Int) := Int.natCast_nonneg _
  have hnt : (n : Int) ≤ (tc : Int) := by omega
  unfold maxLen at ht2
  clear h hE hM hL hkeys hLl hT hsl hsa hda hde hn
  go_enter Try.func61, Try.ntmps61
  go_wp2_with fail
  go_loopw [5, 13] (fun _ i wr => ∃ j : Nat, j ≤ s.env.length - n ∧ i = .int .i64 (j : Int) ∧ MapIs wr mb (L.take n ++ L.drop (n + j)) ∧ Ch (fun b => b = mb) w wr) (fun _ i _ => s.env.length - n - (intOf i).toNat)
  case atStart => exact ⟨0, Nat.zero_le _, rfl, by rw [Nat.add_zero, List.take_append_drop]; exact HM.out, Ch.refl _ _⟩
  case round =>
    obtain ⟨j, hj, rfl, hm, hch⟩ := hrel
    have HM4 := hid hm
    have HCH := hid hch
    have HB4 := hid ((hch.block g hl1 hgm').trans HU.out.box)
    obtain ⟨d0, d1, d2, d3, d4, d5, d6, d7, df⟩ := box8 HB4.out
    clear b0 b1 b2 b3 b4 b5 b6 b7 bf hm hch
    by_cases hlt : j < s.env.length - n
    · have hjl : n + j < L.length := by rw [HLL.out]; omega
      have hjm : n + j < (s.env.map (·.1)).length := by simp; omega
      have hkey : (L[n + j]).1 = (s.env.map (·.1))[n + j] := by
        have := HLK.out
        have h2 : (L.map (·.1))[n + j]'(by simpa using hjl) = (s.env.map (·.1))[n + j] := by simp only [this]
        simpa using h2
      obtain ⟨rfl, -⟩ := HDA.out (by simp; omega)
      obtain ⟨vs, hvl, ⟨hvk, rfl⟩, hrow⟩ := HDE.out j ((s.env.map (·.1))[n + j]) (by rw [List.getElem?_drop]; exact List.getElem?_eq_getElem hjm)
      have hcell := hrow 0 (.int .i64 ((s.env.map (·.1))[n + j])) rfl
      have hdb : db < w.heap.size := World.block_lt_of_cell? w _ hcell
      have hdm : db ≠ mb := by
        intro e
        subst e
        obtain ⟨es, clock, h1, _⟩ := HM.out
        simp [World.cell?, h1] at hcell
      have hc4 := (World.cell?_of_block (a := ⟨db, doff + j * 1 + 0, none⟩) (HCH.out.block db hdb hdm)).trans hcell
      simp only [Nat.mul_one, Nat.add_zero] at hc4
      obtain ⟨⟨kn, kv⟩, hkk⟩ : ∃ x, x = L[n + j] := ⟨_, rfl⟩
      have hm4 := HM4.out
      rw [take_drop_at L n j hjl, ← hkk] at hm4
      rw [← hkk] at hkey
      simp only at hkey
      rw [← hkey] at hc4
      obtain ⟨w2, hdel, hm5, hch5, hsz5⟩ := run_mdelete tyEnv hm4 (by
        intro p hp e
        obtain ⟨i, hi, rfl⟩ := List.mem_iff_getElem.1 hp
        have hi' : i < n := by simp at hi; omega
        have hil : i < L.length := by omega
        have h2 : ((L.take n)[i]).1 = (s.env.map (·.1))[i]'(by simp; omega) := by
          have := HLK.out
          have h2 : (L.map (·.1))[i]'(by simpa using hil) = (s.env.map (·.1))[i]'(by simp; omega) := by simp only [this]
          simpa using h2
        rw [h2, hkey] at e
        have := (List.getElem_inj HND.out).1 e
        omega) 3
      have HM5 := hid hm5
      have HCH5 := hid (HCH.out.trans hch5 (fun b h => .inl h))
      have hj0 : (0 : Int) ≤ (j : Int) := Int.natCast_nonneg _
      clear hm4 hm5 hch5 hsz5 hkk hkey hcell hrow hvk hvl hjm hjl
      go_wp2_with fail
      go_roundw
      case rel => exact ⟨j + 1, by omega, by go_num, HM5.out, HCH5.out⟩
      case measure => simp [intOf]; omega
    · have hje : j = s.env.length - n := by omega
      have HM6 := hid (show MapIs wr mb (L.take n) by
        have := HM4.out
        rw [hje, List.drop_eq_nil_of_le (by rw [HLL.out]; have := HN.out; omega), List.append_nil] at this
        exact this)
      clear hje
      go_wp2_with fail
      refine bodyPost_end (v := .tuple #[]) (by simp [results, Try.results61, go_sem]) rfl ?_
      have hT0 : OwnN w base ((s.env.take n).map (·.1)) (.slice ta n tc) := by
        rw [List.map_take]
        have := HT.out
        exact OwnF.take numV_len this (k := n) (by simpa using HN.out)
      exact ⟨_, rfl, HU.out.untrail hT0 HN.out HCH.out ⟨_, HM6.out, HL.out.take n⟩ HAP.out hgm⟩
end
end Go.Proofs.Ytlpmfkpefoegeab
