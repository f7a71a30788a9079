/-
  The reader: variable.
-/
import Derived.Test.YtlpmfkpefoegeacDoorQRd4
import Derived.Test.YtlpmfkpefoegeacDoorQLoad
namespace Go.Proofs.YtlpmfkpefoegeacDoor
set_option linter.unusedVariables false
set_option linter.unusedSimpArgs false
open Go.RowKit
def VG (w : World) (vv vv' : Value) : Prop := ∀ b, ownB vv' = some b → ownB vv = some b ∨ w.heap.size ≤ b
section
variable {B base g : Nat} {vv vv' : Value} {r r' : Rd} {w w' : World}
theorem RdI.keeps (h : RdI B base g vv r w) (hk : Keeps (fun b => b < B ∨ RdM g vv b) w w') : RdI B base g vv r w' :=
  ⟨blk_keeps h.box hk (.inr (.inl rfl)), h.vars.kept fun k e => hk.block k (h.vars.lt k e).2 (.inr (.inr e)), h.tab.keeps (hk.mono fun b _ hb => .inl hb), ⟨h.bg.1, h.bg.2.1, Nat.le_trans h.bg.2.2 hk.size⟩, h.len⟩
theorem RdI.rm_lt (h : RdI B base g vv r w) : ∀ b, RdM g vv b → b < w.heap.size := by
  rintro b (rfl | e)
  · exact h.lt.1
  · exact (h.vars.lt b e).2
theorem RdI.other (h : RdI B base g vv r w) {b o : Nat} {u : Value} (hb : ¬ RdM g vv b) (hB : B ≤ b) : RdI B base g vv r (w.setCell ⟨b, o, none⟩ u) :=
  h.keeps (Keeps.setCell _ _ _ _ (fun e => by rcases e with e | e; · simp only at e; omega
                                              · exact hb e))
theorem VG.refl (w : World) (vv : Value) : VG w vv vv := fun b h => .inl h
theorem VG.trans {v2 : Value} (h : VG w vv vv') (h' : VG w' vv' v2) (hs : w.heap.size ≤ w'.heap.size) : VG w vv v2 := fun b hb => by
  rcases h' b hb with e | e
  · exact h b e
  · exact .inr (Nat.le_trans hs e)
theorem VG.rm (h : VG w vv vv') : ∀ b, RdM g vv' b → RdM g vv b ∨ w.heap.size ≤ b := by
  rintro b (e | e)
  · exact .inl (.inl e)
  · exact (h b e).imp .inr id
theorem RdI.pushV {nm : Str} {v2 : Value} {w2 : World} {cells : Array Value} (h : RdI B base g vv r w) (hroom : r.s.length + r.vars.length + 1 ≤ 2000)
    (hown : OwnS w2 base (r.vars ++ [nm]) v2) (hg : Grew (w.alloc (.cells cells 9)) w2 vv v2) :
    RdI B base g v2 { r with vars := r.vars ++ [nm] } (w2.setCell ⟨g, 1, none⟩ v2) ∧ Ch (RdM g vv) w (w2.setCell ⟨g, 1, none⟩ v2) ∧ VG w vv v2 := by
  have hap := h.apart
  have hlt := h.lt
  have hog : VG w vv v2 := fun b hb => by
    rcases hg.block with e | e
    · exact .inl (e ▸ hb)
    · have := e b hb; simp only [World.size_alloc] at this; exact .inr (by omega)
  have hch : Ch (RdM g vv) w (w2.setCell ⟨g, 1, none⟩ v2) :=
    (hg.ch ((Ch.refl _ _).alloc _) (fun b hb => .inl (.inr hb))).setCell (p := ⟨g, 1, none⟩) (.inl (.inl rfl)) _
  have hB2 : w2.heap[g]? = _ := (hg.grown.block g (by simp; omega) (fun e => hap e.symm)).trans (blk_alloc h.box _)
  refine ⟨⟨(blk_set hB2 1 _).trans rfl, hown.kept fun k hk => Below.heap_setCell _ _ _ _ (fun e => ?_), h.tab.keeps (hch.keeps fun b hb hA e => ?_), ⟨h.bg.1, h.bg.2.1, Nat.le_trans h.bg.2.2 hch.size⟩, ?_⟩, hch, hog⟩
  · simp only at e
    subst e
    rcases hog _ hk with e | e
    · exact hap e
    · omega
  · rcases e with rfl | e
    · have := h.bg; omega
    · have := (h.vars.lt b e).1; have := h.bg; omega
  · simp only [List.length_append, List.length_singleton]; omega
end
theorem idx_at {l : List Str} {k : Nat} {x : Str} (hk : k < l.length) (hx : l[k] = x) (hn : ∀ i (hi : i < k), l[i]'(by omega) ≠ x) : x ∈ l ∧ l.idxOf x = k := by
  refine ⟨hx ▸ List.getElem_mem hk, ?_⟩
  induction l generalizing k with
  | nil => simp at hk
  | cons y l ih =>
    cases k with
    | zero => simp only [List.getElem_cons_zero] at hx; subst hx; simp
    | succ k =>
      have h0 := hn 0 (by omega)
      simp only [List.getElem_cons_zero] at h0
      rw [List.idxOf_cons, show (y == x) = false from beq_eq_false_iff_ne.2 h0]
      simp only [cond_false, Nat.add_right_cancel_iff]
      exact ih (by simpa using hk) (by simpa using hx) (fun i hi => by have := hn (i + 1) (by omega); simpa using this)
theorem rbox3 {w : World} {g : Nat} {E : TypeId} {v0 v1 v2 : Value} (h : w.heap[g]? = some (.cells #[v0, v1, v2] E (0, 0))) :
    w.cell? ⟨g, 0, none⟩ = some v0 ∧ w.cell? ⟨g, 1, none⟩ = some v1 ∧ w.cell? ⟨g, 2, none⟩ = some v2 ∧ ∀ o, w.frozen? ⟨g, o, none⟩ = false :=
  ⟨(blk_cell h 0).trans rfl, (blk_cell h 1).trans rfl, (blk_cell h 2).trans rfl, fun o => by simp [World.frozen?, h]⟩
def RTm (B base g : Nat) (vv : Value) (x : Tm × Rd) (w : World) (e : Ending) (w' : World) : Prop :=
  ∃ us vv', e = .returned (.agg us.toArray) ∧ RdI B base g vv' x.2 w' ∧ Ch (RdM g vv) w w' ∧ VG w vv vv' ∧ Tm.rep (fun b => w.heap.size ≤ b ∧ ¬ RdM g vv' b) w' x.1 us
theorem strR_lasts : Lasts (flatR strV strOk) := flatR_lasts strV_one
section
variable {B base g : Nat} {vv : Value} {r : Rd} {w : World}
def varR (r : Rd) (nm : Str) : Tm × Rd := (.mk 0 (varF r.vars nm).1 ⟨#[]⟩ [], { r with vars := (varF r.vars nm).2 })
set_option maxHeartbeats 4000000 in
theorem rvar_ok (nm : Str) (hnm : nm.length ≤ 2000) (h : RdI B base g vv r w) (hroom : r.s.length + r.vars.length + 1 ≤ 2000) :
    Calls Tryd.prog 41 #[.pointer (some ⟨g, 0, none⟩), .string (bs nm)] w (RTm B base g vv (varR r nm) w) := by
  have HU := hid h
  have HR := hid hroom
  have HNM := hid hnm
  obtain ⟨b0, b1, b2, bf⟩ := h.cells
  have hgl := h.lt.1
  obtain ⟨va, vc, hv, hvl, hvm⟩ := h.vars.val
  have hlen : r.vars.length ≤ 2000 := by omega
  subst hv
  unfold maxLen at hvm
  clear h hroom hnm
  go_enter Tryd.func41, Tryd.ntmps41
  go_wp2_with fail
  obtain ⟨W1, hW1⟩ : ∃ W1, W1 = w.alloc (.cells #[.int .i64 0, .int .i64 0, .string ⟨#[]⟩, .slice none 0 0] 27) := ⟨_, rfl⟩
  have HB1 := hid (show Below w.heap.size w W1 by rw [hW1]; exact (Below.refl _ _).alloc (Nat.le_refl _) _)
  have HX1 := hid (show W1.heap[w.heap.size]? = some (.cells #[.int .i64 0, .int .i64 0, .string ⟨#[]⟩, .slice none 0 0] 27 (0, 0)) by rw [hW1]; exact blk_new _ _)
  have HI1 := hid (HU.out.below HB1.out)
  rw [← hW1]
  have HZ1 := hid (show W1.heap.size = w.heap.size + 1 by rw [hW1]; simp)
  clear hW1 b0 b1 b2 bf
  obtain ⟨b0, b1, b2, bf⟩ := HI1.out.cells
  have hgl1 := HI1.out.lt.1
  have hxl := blk_lt HX1.out
  obtain ⟨x0, x1, x2, x3, xf⟩ := blk4 HX1.out
  have hcs := cell_set
  go_loopw [12] (fun i wr => ∃ k : Nat, k ≤ r.vars.length ∧ i = .int .i64 (k : Int) ∧ (∀ i (hi : i < r.vars.length), i < k → r.vars[i] ≠ nm) ∧ wr = W1) (fun i _ => r.vars.length - (intOf i).toNat)
  case atStart => exact ⟨0, Nat.zero_le _, rfl, fun i hi h => by omega, rfl⟩
  case round =>
    obtain ⟨k, hk, rfl, hno, rfl⟩ := hrel
    have HNO := hid hno
    have hk0 : (0 : Int) ≤ (k : Int) := Int.natCast_nonneg _
    clear hno
    by_cases hlt : k < r.vars.length
    · have hlt' : (k : Int) < (r.vars.length : Int) := by omega
      obtain ⟨gb, cap, hve, -, -, -, hob, hfz, hgbl, hgb, hcell⟩ := OwnF.at strV_len HI1.out.vars (by omega)
      simp only [Value.slice.injEq, true_and] at hve
      obtain ⟨rfl, rfl⟩ := hve
      have hc := hcell k hlt 0 _ rfl
      rw [Nat.mul_one, Nat.add_zero] at hc
      clear hcell hfz
      by_cases he : r.vars[k] = nm
      · have hE : ((bs r.vars[k]).toList == (bs nm).toList) = true := by rw [he]; simp
        have HID := hid (idx_at hlt he (fun i hi => HNO.out i (by omega) hi))
        clear he
        go_wp2_with fail
        refine bodyPost_ret (v := .agg #[.int .i64 0, .int .i64 (k : Int), .string ⟨#[]⟩, .slice none 0 0]) (by simp [results, Tryd.results41, go_sem, hcs, x0, x1, x2, x3]; try rfl) rfl ?_
        have hv : varR r nm = (.mk 0 (k : Int) ⟨#[]⟩ [], r) := by
          unfold varR varF
          rw [if_pos HID.out.1, HID.out.2]
        rw [hv]
        have hni : ¬ RdM g (.slice (some ⟨gb, 0, none⟩) r.vars.length vc) w.heap.size := fun e => by have := HU.out.rm_lt _ e; omega
        have hBx : B ≤ w.heap.size := by have := HU.out.bg; omega
        have hli : I64 (k : Int) := by unfold I64; omega
        exact ⟨[_, _, _, _], _, rfl, (((HI1.out.other hni hBx).other hni hBx).other hni hBx).other hni hBx,
          ((((Ch.of_below HB1.out).setCell (p := ⟨w.heap.size, 0, none⟩) (.inr (Nat.le_refl _)) _).setCell (p := ⟨w.heap.size, 1, none⟩) (.inr (Nat.le_refl _)) _).setCell (p := ⟨w.heap.size, 2, none⟩) (.inr (Nat.le_refl _)) _).setCell (p := ⟨w.heap.size, 3, none⟩) (.inr (Nat.le_refl _)) _,
          VG.refl _ _, Tm.rep_iff.2 ⟨by unfold I64; omega, hli, by simp [ByteArray.size], _, rfl, SlR.nil ..⟩⟩
      · have hE : ((bs r.vars[k]).toList == (bs nm).toList) = false := by rw [bs_toList, bs_toList]; simpa using he
        have HE := hid he
        clear he
        go_wp2_with fail
        go_roundw
        case rel => exact ⟨k + 1, by omega, by go_num, fun i hi h => by
            by_cases hik : i = k
            · subst hik; exact HE.out
            · exact HNO.out i hi (by omega), by first | rfl | trivial⟩
        case measure => simp [intOf]; omega
    · have hke : k = r.vars.length := by omega
      subst hke
      have HAP := hid HI1.out.apart
      have HNO2 := hid (show nm ∉ r.vars from fun hm => by
        obtain ⟨i, hi, he⟩ := List.getElem_of_mem hm
        exact HNO.out i hi hi he)
      clear hk hlt HNO
      go_wp2_with (at_builtin; go_must (refine wpList_app1 rfl (.tmp 27) (.tmp 29) 39 rfl base 9 1 16 tyStrs strR_lasts (A := fun _ => True) (.slice va r.vars.length vc) r.vars rfl (OwnF.ownR strV_len HI1.out.vars _) nm [.string (bs nm)] (by rfl) rfl ⟨by have := HNM.out; unfold strOk; omega, rfl⟩ ⟨by omega, HI1.out.bg.2.2⟩ ?_); go_must (intro v2 w2 hown hgrew; have hB2 := (hgrew.grown.block g (by simp; omega) (fun e => HAP.out e.symm)).trans (blk_alloc HI1.out.box _); have hX2 := (hgrew.grown.block w.heap.size (by simp; omega) (fun e => by have := (HI1.out.vars.lt _ e.symm).1; have := HU.out.bg; have := HU.out.lt; have := (HU.out.vars.lt _ e.symm).2; omega)).trans (blk_alloc HX1.out _); obtain ⟨va2, vc2, hv2, hvl2, hvm2⟩ := OwnR.val' hown; rw [show (r.vars ++ [nm]).length = r.vars.length + 1 by simp] at hv2; subst hv2; have HO2 := hid hown; have HG2 := hid hgrew; have HX2 := hid hX2; obtain ⟨k0, k1, k2, kf⟩ := rbox3 hB2; obtain ⟨y0, y1, y2, y3, yf⟩ := blk4 hX2; have hgl2 := blk_lt hB2; have hxl2 := blk_lt hX2; clear hown hgrew hB2 hX2))
      refine bodyPost_ret (v := .agg #[.int .i64 0, .int .i64 (r.vars.length : Int), .string ⟨#[]⟩, .slice none 0 0]) (by simp [results, Tryd.results41, go_sem, hcs, y0, y1, y2, y3, k1, hgl2, hxl2, show ¬ g = w.heap.size by omega]; try omega) rfl ?_
      have hv : varR r nm = (.mk 0 (r.vars.length : Int) ⟨#[]⟩ [], { r with vars := r.vars ++ [nm] }) := by
        unfold varR varF
        rw [if_neg HNO2.out]
      rw [hv]
      obtain ⟨p1, p2, p3⟩ := HI1.out.pushV HR.out (OwnF.of_ownR HO2.out) HG2.out
      have hni : ¬ RdM g (.slice va2 (r.vars.length + 1) vc2) w.heap.size := fun e => by
        rcases e with e | e
        · have := HU.out.lt.1; omega
        · rcases p3 _ e with e | e
          · have := (HU.out.vars.lt _ e).2; omega
          · have := HZ1.out; omega
      have hBx : B ≤ w.heap.size := by have := HU.out.bg; omega
      have hli : I64 (r.vars.length : Int) := by unfold I64; omega
      have hch : Ch (RdM g (.slice va r.vars.length vc)) w _ := (Ch.of_below HB1.out).trans p2 (fun b hb => .inl hb)
      exact ⟨[_, _, _, _], _, rfl, (((p1.other hni hBx).other hni hBx).other hni hBx).other hni hBx,
        (((hch.setCell (p := ⟨w.heap.size, 0, none⟩) (.inr (Nat.le_refl _)) _).setCell (p := ⟨w.heap.size, 1, none⟩) (.inr (Nat.le_refl _)) _).setCell (p := ⟨w.heap.size, 2, none⟩) (.inr (Nat.le_refl _)) _).setCell (p := ⟨w.heap.size, 3, none⟩) (.inr (Nat.le_refl _)) _,
        fun b hb => (p3 b hb).imp id (fun e => by have := HZ1.out; omega), Tm.rep_iff.2 ⟨by unfold I64; omega, hli, by simp [ByteArray.size], _, rfl, SlR.nil ..⟩⟩
end
end Go.Proofs.YtlpmfkpefoegeacDoor
