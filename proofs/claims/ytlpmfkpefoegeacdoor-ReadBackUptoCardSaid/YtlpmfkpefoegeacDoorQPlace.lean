/-
  term.place: a number's place among those that were met.
-/
import Derived.Test.YtlpmfkpefoegeacDoorQTidied
namespace Go.Proofs.YtlpmfkpefoegeacDoor
set_option linter.unusedVariables false
set_option linter.unusedSimpArgs false
open Go.RowKit
theorem blk_free {w : World} {g : Nat} {E : TypeId} {c : Array Value} (h : w.heap[g]? = some (.cells c E (0, 0))) (o : Nat) : w.frozen? ⟨g, o, none⟩ = false := by simp [World.frozen?, h]
theorem OwnR.elems {α : Type} {w : World} {base : Nat} {E : TypeId} {size : Nat} {R : (Nat → Prop) → World → α → List Value → Prop} {A : Nat → Prop} {xs : List α} {v : Value} (hR : Lasts R)
    (h : OwnR w base E size R A xs v) : ∃ b off, (0 < xs.length → ∃ cap, v = .slice (some ⟨b, off, none⟩) xs.length cap) ∧ Elems A w size R xs b off := by
  obtain ⟨vals, hl, ho, he⟩ := h
  have hsz : ∀ (i : Nat) (vs : List Value), vals[i]? = some vs → vs.length = size := fun i vs hv => by
    have hi : i < xs.length := by have := (List.getElem?_eq_some_iff.1 hv).1; omega
    exact (he i _ vs (List.getElem?_eq_getElem hi) hv).1
  rcases ho.2 with ⟨h0, a, rfl⟩ | ⟨g, cap, cur, rfl, hc, hb, hg, hnc, hcm, hcs, htake⟩
  · have : xs = [] := List.eq_nil_of_length_eq_zero h0
    subst this
    exact ⟨0, 0, fun h => by simp at h, fun i x hx => by simp at hx⟩
  · refine ⟨g, 0, fun _ => ⟨cap, rfl⟩, fun i x hx => ?_⟩
    have hi : i < vals.length := by have := (List.getElem?_eq_some_iff.1 hx).1; omega
    have hv := List.getElem?_eq_getElem hi
    obtain ⟨h1, h2⟩ := he i x _ hx hv
    refine ⟨vals[i], h1, hR.2.1 _ _ w x _ h2 (fun b _ hb => hb.1), fun j u hj => ?_⟩
    have hjl : j < size := by have := (List.getElem?_eq_some_iff.1 hj).1; omega
    rw [Nat.zero_add]
    exact ho.cells rfl hc _ u (by rw [flatten_get vals hsz i j _ hv hjl]; exact hj)
def intR (_ : Nat → Prop) (_ : World) (n : Int) (vs : List Value) : Prop := vs = [.int .i64 n] ∧ I64 n
theorem intR_lasts : Lasts intR := ⟨fun _ _ _ _ _ h _ => h, fun _ _ _ _ _ h _ => h, fun _ _ _ _ h u hu => by obtain ⟨rfl, _⟩ := h; simp at hu; subst hu; rfl⟩
theorem tyInts : ElemTy Tryd.prog 43 3 1 8 := .mk' (z := .int .i64 0) Tryd.underlying43 (by kernel_rfl) rfl (by omega) (by omega)
def PlInv (base bs : Nat) (st : List Int) (M : Nat → Prop) (w : World) : Prop :=
  ∃ v, w.heap[bs]? = some (.cells #[v] 43 (0, 0)) ∧ OwnR w base 3 1 intR (fun _ => True) st v ∧ base ≤ w.heap.size ∧ bs < base ∧ (∀ b, M b ↔ (b = bs ∨ ownB v = some b))
theorem plInv_law (base bs : Nat) : StLaw (PlInv base bs) := by
  refine ⟨fun st M w h b hb => ?_, fun st M w w' h hk => ?_⟩
  · obtain ⟨v, h1, h2, h3, h4, h5⟩ := h
    rcases (h5 b).1 hb with rfl | h6
    · exact blk_lt h1
    · exact (h2.lt b h6).2
  · obtain ⟨v, h1, h2, h3, h4, h5⟩ := h
    exact ⟨v, blk_keeps h1 hk ((h5 _).2 (.inl rfl)), by
      obtain ⟨vals, k1, k2, k3⟩ := h2
      exact ⟨vals, k1, k2.keeps hk (fun b hb => (h5 b).2 (.inr hb)), k3⟩, Nat.le_trans h3 hk.size, h4, h5⟩
theorem idxOf_first {st : List Int} {n : Int} {k : Nat} (hk : k < st.length) (h : st[k] = n) (hb : ∀ i (hi : i < k), st[i]'(by omega) ≠ n) : n ∈ st ∧ st.idxOf n = k := by
  have hm : n ∈ st := h ▸ List.getElem_mem hk
  refine ⟨hm, ?_⟩
  have h1 := List.idxOf_lt_length_of_mem hm
  have h2 : st[st.idxOf n] = n := List.getElem_idxOf h1
  rcases Nat.lt_trichotomy (st.idxOf n) k with h3 | h3 | h3
  · exact absurd h2 (hb _ h3)
  · exact h3
  · have h4 := List.not_of_lt_findIdx (p := (· == n)) (xs := st) (i := k) (by simpa [List.idxOf] using h3)
    simp [h] at h4
set_option maxHeartbeats 1000000 in
theorem place_ok (base bs : Nat) (st : List Int) (M : Nat → Prop) (w : World) (n : Int) (hi : PlInv base bs st M w) (hsz : st.length < 4194304) (hn : I64 n) :
    Calls Tryd.prog 20 #[.pointer (some ⟨bs, 0, none⟩), .int .i64 n] w (NumPost (PlInv base bs) M w (seenF st n)) := by
  have HI := hid hi
  obtain ⟨v, hblk, hown, hbase, hbs, hM⟩ := hi
  obtain ⟨va, vc, rfl, hvc⟩ := hown.val
  have HO := hid hown
  have HM := hid hM
  have hc0 : w.cell? ⟨bs, 0, none⟩ = some (.slice va st.length vc) := by rw [blk_cell hblk]; rfl
  have hf0 : w.frozen? ⟨bs, 0, none⟩ = false := by simp [World.frozen?, hblk]
  have HB := hid hblk
  have HE := hid (show ∃ b off, (0 < st.length → va = some ⟨b, off, none⟩) ∧ ∀ i (hi : i < st.length), w.cell? ⟨b, off + i, none⟩ = some (.int .i64 st[i]) by
    obtain ⟨b, off, h1, h2⟩ := hown.elems intR_lasts
    refine ⟨b, off, fun h0 => by have := h1 h0; simpa using this, fun i hi => ?_⟩
    obtain ⟨vs, -, ⟨rfl, -⟩, h3⟩ := h2 i _ (List.getElem?_eq_getElem hi)
    have := h3 0 _ rfl
    simpa using this)
  clear hown hM hblk
  obtain ⟨b, off, hva, hel⟩ := HE.out
  have HVA := hid hva
  have HEL := hid hel
  clear hva hel HE
  go_enter Tryd.func20, Tryd.ntmps20
  go_wp2_with fail
  go_loopw [11] (fun i wr => ∃ j : Nat, j ≤ st.length ∧ i = .int .i64 j ∧ w = wr ∧ ∀ i (hi : i < j) (hj : j ≤ st.length), st[i]'(by omega) ≠ n) (fun i _ => st.length - (intOf i).toNat)
  case atStart => exact ⟨0, Nat.zero_le _, rfl, rfl, fun i hi => by omega⟩
  case round =>
    obtain ⟨j, hj, rfl, rfl, hpre⟩ := hrel
    have HP := hid hpre
    clear hpre
    by_cases hlt : j < st.length
    · obtain rfl := HVA.out (by omega)
      have hcell := HEL.out j hlt
      by_cases he : st[j] = n
      · have he' : (st[j] == n) = true := by simpa using he
        have HEQ := hid he
        clear he
        go_wp2_with fail
        go_ret
        obtain ⟨h1, h2⟩ := idxOf_first hlt HEQ.out (fun i hi => HP.out i hi hj)
        refine ⟨by simp [seenF, h1, h2], by simp only [seenF, h1, if_true, h2]; exact i64_nat (by omega), M, Ch.refl M _, fun b hb => .inl hb, by simpa [seenF, h1] using HI.out⟩
      · have he' : (st[j] == n) = false := by simpa using he
        have HEQ := hid he
        clear he
        go_wp2_with fail
        go_roundw
        case rel =>
          refine ⟨j + 1, by omega, by go_num, (by first | rfl | trivial), fun i hi hj' => ?_⟩
          by_cases hij : i = j
          · subst hij; exact HEQ.out
          · exact HP.out i (by omega) hj
        case measure => simp [intOf]; omega
    · have : j = st.length := by omega
      subst this
      have hnin : n ∉ st := fun h => by
        obtain ⟨i, hi, he⟩ := List.mem_iff_getElem.1 h
        exact HP.out i hi (Nat.le_refl _) he
      have HNIN := hid hnin
      have HL := hid (show st.length < 4194304 ∧ base ≤ w.heap.size from ⟨hsz, hbase⟩)
      have hlt2 := HO.out.lt
      have hnbs : ownB (.slice va st.length vc) ≠ some bs := fun e => by have := (hlt2 _ e).1; omega
      clear hnin
      go_wp2_with (at_builtin; go_must (refine wpList_app1 rfl (.tmp 24) (.tmp 26) 43 rfl base 3 1 8 tyInts intR_lasts (.slice va st.length vc) st rfl HO.out n [.int .i64 n] rfl rfl ⟨rfl, hn⟩ HL.out ?_); go_must ( intro v2 w2 hown2 hgrew; obtain ⟨va2, vc2, hv2, hvc2⟩ := hown2.val; rw [show (st ++ [n]).length = st.length + 1 by simp] at hv2; subst hv2; have hB2 := blk_keeps HB.out ((Keeps.alloc (fun b => ownB (.slice va st.length vc) ≠ some b) w (.cells #[.int .i64 n] 3)).trans (hgrew.keeps (fun _ h => h))) hnbs; have hcs := cell_set; have hc2 : w2.cell? ⟨bs, 0, none⟩ = some (.slice va st.length vc) := (blk_cell hB2 0).trans rfl; have hf2 := blk_free hB2 0; have HB2 := hid hB2; have HO2 := hid hown2; have HG := hid hgrew; clear hB2 hown2 hgrew))
      go_ret
      have hs1 : (seenF st n) = (((st.length : Nat) : Int), st ++ [n]) := by simp [seenF, HNIN.out]
      rw [hs1]
      have hG := HG.out
      have hz2 := hG.size
      simp only [World.size_alloc] at hz2
      have hlt3 := HO2.out.lt
      have hbs2 : ownB (.slice va2 (st.length + 1) vc2) ≠ some bs := fun e => by have := (hlt3 _ e).1; omega
      refine ⟨rfl, i64_nat (by omega), fun b => b = bs ∨ ownB (.slice va2 (st.length + 1) vc2) = some b, ?_, fun b hb => ?_, ?_⟩
      · exact (hG.ch ((Ch.refl M w).alloc _) (fun b hb => .inl ((HM.out b).2 (.inr hb)))).setCell (.inl ((HM.out bs).2 (.inl rfl))) _
      · rcases hb with rfl | hb
        · exact .inl ((HM.out _).2 (.inl rfl))
        · rcases hG.block with h1 | h1
          · exact .inl ((HM.out b).2 (.inr (h1.symm.trans hb)))
          · have := h1 b hb
            simp only [World.size_alloc] at this
            exact .inr (by omega)
      · refine ⟨_, blk_set HB2.out 0 _, ?_, by simp; omega, hbs, fun b => Iff.rfl⟩
        obtain ⟨vals, k1, k2, k3⟩ := HO2.out
        exact ⟨vals, k1, k2.keeps (Keeps.setCell (fun b => b ≠ bs) w2 ⟨bs, 0, none⟩ _ (by simp)) (fun k hk e => hbs2 (e ▸ hk)), k3⟩
end Go.Proofs.YtlpmfkpefoegeacDoor
