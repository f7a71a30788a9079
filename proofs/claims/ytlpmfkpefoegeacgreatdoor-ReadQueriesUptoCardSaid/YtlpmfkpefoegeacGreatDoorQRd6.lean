/-
  The reader: term, but for words of small letters.
-/
import Derived.Test.YtlpmfkpefoegeacGreatDoorQRd4
import Derived.Test.YtlpmfkpefoegeacGreatDoorQLoad
namespace Go.Proofs.YtlpmfkpefoegeacGreatDoor
set_option linter.unusedVariables false
set_option linter.unusedSimpArgs false
open Go.RowKit
def VG (w : World) (vv vv' : Value) : Prop := ∀ b, ownB vv' = some b → ownB vv = some b ∨ w.heap.size ≤ b
section
variable {B base g : Nat} {vv vv' : Value} {r r' : Rd} {w w' : World}
theorem RdI.keeps (h : RdI B base g vv r w) (hk : Keeps (fun b => b < B ∨ RdM g vv b) w w') : RdI B base g vv r w' :=
  ⟨blk_keeps h.box hk (.inr (.inl rfl)), h.vars.kept fun k e => hk.block k (h.vars.lt k e).2 (.inr (.inr e)), h.tab.keeps (hk.mono fun b _ hb => .inl hb), ⟨h.bg.1, h.bg.2.1, Nat.le_trans h.bg.2.2 hk.size⟩, h.len⟩
theorem RdI.rm_lt (h : RdI B base g vv r w) : ∀ b, RdM g vv b → b < w.heap.size := by
  rintro b (rfl | e)
  · exact h.lt.1
  · exact (h.vars.lt b e).2
theorem RdI.other (h : RdI B base g vv r w) {b o : Nat} {u : Value} (hb : ¬ RdM g vv b) (hB : B ≤ b) : RdI B base g vv r (w.setCell ⟨b, o, none⟩ u) :=
  h.keeps (Keeps.setCell _ _ _ _ (fun e => by rcases e with e | e; · simp only at e; omega
                                              · exact hb e))
theorem VG.refl (w : World) (vv : Value) : VG w vv vv := fun b h => .inl h
theorem VG.trans {v2 : Value} (h : VG w vv vv') (h' : VG w' vv' v2) (hs : w.heap.size ≤ w'.heap.size) : VG w vv v2 := fun b hb => by
  rcases h' b hb with e | e
  · exact h b e
  · exact .inr (Nat.le_trans hs e)
theorem VG.rm (h : VG w vv vv') : ∀ b, RdM g vv' b → RdM g vv b ∨ w.heap.size ≤ b := by
  rintro b (e | e)
  · exact .inl (.inl e)
  · exact (h b e).imp .inr id
theorem RdI.pushV {nm : Str} {v2 : Value} {w2 : World} {cells : Array Value} (h : RdI B base g vv r w) (hroom : r.s.length + r.vars.length + 1 ≤ 2000)
    (hown : OwnS w2 base (r.vars ++ [nm]) v2) (hg : Grew (w.alloc (.cells cells 9)) w2 vv v2) :
    RdI B base g v2 { r with vars := r.vars ++ [nm] } (w2.setCell ⟨g, 1, none⟩ v2) ∧ Ch (RdM g vv) w (w2.setCell ⟨g, 1, none⟩ v2) ∧ VG w vv v2 := by
  have hap := h.apart
  have hlt := h.lt
  have hog : VG w vv v2 := fun b hb => by
    rcases hg.block with e | e
    · exact .inl (e ▸ hb)
    · have := e b hb; simp only [World.size_alloc] at this; exact .inr (by omega)
  have hch : Ch (RdM g vv) w (w2.setCell ⟨g, 1, none⟩ v2) :=
    (hg.ch ((Ch.refl _ _).alloc _) (fun b hb => .inl (.inr hb))).setCell (p := ⟨g, 1, none⟩) (.inl (.inl rfl)) _
  have hB2 : w2.heap[g]? = _ := (hg.grown.block g (by simp; omega) (fun e => hap e.symm)).trans (blk_alloc h.box _)
  refine ⟨⟨(blk_set hB2 1 _).trans rfl, hown.kept fun k hk => Below.heap_setCell _ _ _ _ (fun e => ?_), h.tab.keeps (hch.keeps fun b hb hA e => ?_), ⟨h.bg.1, h.bg.2.1, Nat.le_trans h.bg.2.2 hch.size⟩, ?_⟩, hch, hog⟩
  · simp only at e
    subst e
    rcases hog _ hk with e | e
    · exact hap e
    · omega
  · rcases e with rfl | e
    · have := h.bg; omega
    · have := (h.vars.lt b e).1; have := h.bg; omega
  · simp only [List.length_append, List.length_singleton]; omega
end
theorem idx_at {l : List Str} {k : Nat} {x : Str} (hk : k < l.length) (hx : l[k] = x) (hn : ∀ i (hi : i < k), l[i]'(by omega) ≠ x) : x ∈ l ∧ l.idxOf x = k := by
  refine ⟨hx ▸ List.getElem_mem hk, ?_⟩
  induction l generalizing k with
  | nil => simp at hk
  | cons y l ih =>
    cases k with
    | zero => simp only [List.getElem_cons_zero] at hx; subst hx; simp
    | succ k =>
      have h0 := hn 0 (by omega)
      simp only [List.getElem_cons_zero] at h0
      rw [List.idxOf_cons, show (y == x) = false from beq_eq_false_iff_ne.2 h0]
      simp only [cond_false, Nat.add_right_cancel_iff]
      exact ih (by simpa using hk) (by simpa using hx) (fun i hi => by have := hn (i + 1) (by omega); simpa using this)
theorem rbox3 {w : World} {g : Nat} {E : TypeId} {v0 v1 v2 : Value} (h : w.heap[g]? = some (.cells #[v0, v1, v2] E (0, 0))) :
    w.cell? ⟨g, 0, none⟩ = some v0 ∧ w.cell? ⟨g, 1, none⟩ = some v1 ∧ w.cell? ⟨g, 2, none⟩ = some v2 ∧ ∀ o, w.frozen? ⟨g, o, none⟩ = false :=
  ⟨(blk_cell h 0).trans rfl, (blk_cell h 1).trans rfl, (blk_cell h 2).trans rfl, fun o => by simp [World.frozen?, h]⟩
def RTm (B base g : Nat) (vv : Value) (x : Tm × Rd) (w : World) (e : Ending) (w' : World) : Prop :=
  ∃ us vv', e = .returned (.agg us.toArray) ∧ RdI B base g vv' x.2 w' ∧ Ch (RdM g vv) w w' ∧ VG w vv vv' ∧ Tm.rep (fun b => w.heap.size ≤ b ∧ ¬ RdM g vv' b) w' x.1 us
theorem strR_lasts : Lasts (flatR strV strOk) := flatR_lasts strV_one
section
variable {B base g : Nat} {vv : Value} {r : Rd} {w : World}
def varR (r : Rd) (nm : Str) : Tm × Rd := (.mk 0 (varF r.vars nm).1 ⟨#[]⟩ [], { r with vars := (varF r.vars nm).2 })
set_option maxHeartbeats 4000000 in
theorem rvar_ok (nm : Str) (hnm : nm.length ≤ 2000) (h : RdI B base g vv r w) (hroom : r.s.length + r.vars.length + 1 ≤ 2000) :
    Calls Tryz.prog 87 #[.pointer (some ⟨g, 0, none⟩), .string (bs nm)] w (RTm B base g vv (varR r nm) w) := by
  have HU := hid h
  have HR := hid hroom
  have HNM := hid hnm
  obtain ⟨b0, b1, b2, bf⟩ := h.cells
  have hgl := h.lt.1
  obtain ⟨va, vc, hv, hvl, hvm⟩ := h.vars.val
  have hlen : r.vars.length ≤ 2000 := by omega
  subst hv
  unfold maxLen at hvm
  clear h hroom hnm
  go_enter Tryz.func87, Tryz.ntmps87
  go_wp2_with fail
  obtain ⟨W1, hW1⟩ : ∃ W1, W1 = w.alloc (.cells #[.int .i64 0, .int .i64 0, .string ⟨#[]⟩, .slice none 0 0] 34) := ⟨_, rfl⟩
  have HB1 := hid (show Below w.heap.size w W1 by rw [hW1]; exact (Below.refl _ _).alloc (Nat.le_refl _) _)
  have HX1 := hid (show W1.heap[w.heap.size]? = some (.cells #[.int .i64 0, .int .i64 0, .string ⟨#[]⟩, .slice none 0 0] 34 (0, 0)) by rw [hW1]; exact blk_new _ _)
  have HI1 := hid (HU.out.below HB1.out)
  rw [← hW1]
  have HZ1 := hid (show W1.heap.size = w.heap.size + 1 by rw [hW1]; simp)
  clear hW1 b0 b1 b2 bf
  obtain ⟨b0, b1, b2, bf⟩ := HI1.out.cells
  have hgl1 := HI1.out.lt.1
  have hxl := blk_lt HX1.out
  obtain ⟨x0, x1, x2, x3, xf⟩ := blk4 HX1.out
  have hcs := cell_set
  go_loopw [12] (fun i wr => ∃ k : Nat, k ≤ r.vars.length ∧ i = .int .i64 (k : Int) ∧ (∀ i (hi : i < r.vars.length), i < k → r.vars[i] ≠ nm) ∧ wr = W1) (fun i _ => r.vars.length - (intOf i).toNat)
  case atStart => exact ⟨0, Nat.zero_le _, rfl, fun i hi h => by omega, rfl⟩
  case round =>
    obtain ⟨k, hk, rfl, hno, rfl⟩ := hrel
    have HNO := hid hno
    have hk0 : (0 : Int) ≤ (k : Int) := Int.natCast_nonneg _
    clear hno
    by_cases hlt : k < r.vars.length
    · have hlt' : (k : Int) < (r.vars.length : Int) := by omega
      obtain ⟨gb, cap, hve, -, -, -, hob, hfz, hgbl, hgb, hcell⟩ := OwnF.at strV_len HI1.out.vars (by omega)
      simp only [Value.slice.injEq, true_and] at hve
      obtain ⟨rfl, rfl⟩ := hve
      have hc := hcell k hlt 0 _ rfl
      rw [Nat.mul_one, Nat.add_zero] at hc
      clear hcell hfz
      by_cases he : r.vars[k] = nm
      · have hE : ((bs r.vars[k]).toList == (bs nm).toList) = true := by rw [he]; simp
        have HID := hid (idx_at hlt he (fun i hi => HNO.out i (by omega) hi))
        clear he
        go_wp2_with fail
        refine bodyPost_ret (v := .agg #[.int .i64 0, .int .i64 (k : Int), .string ⟨#[]⟩, .slice none 0 0]) (by simp [results, Tryz.results87, go_sem, hcs, x0, x1, x2, x3]; try rfl) rfl ?_
        have hv : varR r nm = (.mk 0 (k : Int) ⟨#[]⟩ [], r) := by
          unfold varR varF
          rw [if_pos HID.out.1, HID.out.2]
        rw [hv]
        have hni : ¬ RdM g (.slice (some ⟨gb, 0, none⟩) r.vars.length vc) w.heap.size := fun e => by have := HU.out.rm_lt _ e; omega
        have hBx : B ≤ w.heap.size := by have := HU.out.bg; omega
        have hli : I64 (k : Int) := by unfold I64; omega
        exact ⟨[_, _, _, _], _, rfl, (((HI1.out.other hni hBx).other hni hBx).other hni hBx).other hni hBx,
          ((((Ch.of_below HB1.out).setCell (p := ⟨w.heap.size, 0, none⟩) (.inr (Nat.le_refl _)) _).setCell (p := ⟨w.heap.size, 1, none⟩) (.inr (Nat.le_refl _)) _).setCell (p := ⟨w.heap.size, 2, none⟩) (.inr (Nat.le_refl _)) _).setCell (p := ⟨w.heap.size, 3, none⟩) (.inr (Nat.le_refl _)) _,
          VG.refl _ _, Tm.rep_iff.2 ⟨by unfold I64; omega, hli, by simp [ByteArray.size], _, rfl, SlR.nil ..⟩⟩
      · have hE : ((bs r.vars[k]).toList == (bs nm).toList) = false := by rw [bs_toList, bs_toList]; simpa using he
        have HE := hid he
        clear he
        go_wp2_with fail
        go_roundw
        case rel => exact ⟨k + 1, by omega, by go_num, fun i hi h => by
            by_cases hik : i = k
            · subst hik; exact HE.out
            · exact HNO.out i hi (by omega), by first | rfl | trivial⟩
        case measure => simp [intOf]; omega
    · have hke : k = r.vars.length := by omega
      subst hke
      have HAP := hid HI1.out.apart
      have HNO2 := hid (show nm ∉ r.vars from fun hm => by
        obtain ⟨i, hi, he⟩ := List.getElem_of_mem hm
        exact HNO.out i hi hi he)
      clear hk hlt HNO
      go_wp2_with (at_builtin; go_must (refine wpList_app1 rfl (.tmp 27) (.tmp 29) 45 rfl base 9 1 16 tyStrs strR_lasts (A := fun _ => True) (.slice va r.vars.length vc) r.vars rfl (OwnF.ownR strV_len HI1.out.vars _) nm [.string (bs nm)] (by rfl) rfl ⟨by have := HNM.out; unfold strOk; omega, rfl⟩ ⟨by omega, HI1.out.bg.2.2⟩ ?_); go_must (intro v2 w2 hown hgrew; have hB2 := (hgrew.grown.block g (by simp; omega) (fun e => HAP.out e.symm)).trans (blk_alloc HI1.out.box _); have hX2 := (hgrew.grown.block w.heap.size (by simp; omega) (fun e => by have := (HI1.out.vars.lt _ e.symm).1; have := HU.out.bg; have := HU.out.lt; have := (HU.out.vars.lt _ e.symm).2; omega)).trans (blk_alloc HX1.out _); obtain ⟨va2, vc2, hv2, hvl2, hvm2⟩ := OwnR.val' hown; rw [show (r.vars ++ [nm]).length = r.vars.length + 1 by simp] at hv2; subst hv2; have HO2 := hid hown; have HG2 := hid hgrew; have HX2 := hid hX2; obtain ⟨k0, k1, k2, kf⟩ := rbox3 hB2; obtain ⟨y0, y1, y2, y3, yf⟩ := blk4 hX2; have hgl2 := blk_lt hB2; have hxl2 := blk_lt hX2; clear hown hgrew hB2 hX2))
      refine bodyPost_ret (v := .agg #[.int .i64 0, .int .i64 (r.vars.length : Int), .string ⟨#[]⟩, .slice none 0 0]) (by simp [results, Tryz.results87, go_sem, hcs, y0, y1, y2, y3, k1, hgl2, hxl2, show ¬ g = w.heap.size by omega]; try omega) rfl ?_
      have hv : varR r nm = (.mk 0 (r.vars.length : Int) ⟨#[]⟩ [], { r with vars := r.vars ++ [nm] }) := by
        unfold varR varF
        rw [if_neg HNO2.out]
      rw [hv]
      obtain ⟨p1, p2, p3⟩ := HI1.out.pushV HR.out (OwnF.of_ownR HO2.out) HG2.out
      have hni : ¬ RdM g (.slice va2 (r.vars.length + 1) vc2) w.heap.size := fun e => by
        rcases e with e | e
        · have := HU.out.lt.1; omega
        · rcases p3 _ e with e | e
          · have := (HU.out.vars.lt _ e).2; omega
          · have := HZ1.out; omega
      have hBx : B ≤ w.heap.size := by have := HU.out.bg; omega
      have hli : I64 (r.vars.length : Int) := by unfold I64; omega
      have hch : Ch (RdM g (.slice va r.vars.length vc)) w _ := (Ch.of_below HB1.out).trans p2 (fun b hb => .inl hb)
      exact ⟨[_, _, _, _], _, rfl, (((p1.other hni hBx).other hni hBx).other hni hBx).other hni hBx,
        (((hch.setCell (p := ⟨w.heap.size, 0, none⟩) (.inr (Nat.le_refl _)) _).setCell (p := ⟨w.heap.size, 1, none⟩) (.inr (Nat.le_refl _)) _).setCell (p := ⟨w.heap.size, 2, none⟩) (.inr (Nat.le_refl _)) _).setCell (p := ⟨w.heap.size, 3, none⟩) (.inr (Nat.le_refl _)) _,
        fun b hb => (p3 b hb).imp id (fun e => by have := HZ1.out; omega), Tm.rep_iff.2 ⟨by unfold I64; omega, hli, by simp [ByteArray.size], _, rfl, SlR.nil ..⟩⟩
end
abbrev zcells : Obj := .cells #[.int .i64 0, .int .i64 0, .string ⟨#[]⟩, .slice none 0 0] 34
section
variable {B base g : Nat} {vv v1 : Value} {r r1 r2 : Rd} {w w1 w2 : World}
theorem term_start (h : RdI B base g vv r w) (hs : RdStep B base g vv r1 (w.alloc zcells) w1) :
    ∃ v1, RdI B base g v1 r1 w1 ∧ Ch (RdM g vv) w w1 ∧ VG w vv v1 ∧ w1.heap[w.heap.size]? = some (.cells #[.int .i64 0, .int .i64 0, .string ⟨#[]⟩, .slice none 0 0] 34 (0, 0)) ∧ w.heap.size < w1.heap.size ∧ ¬ RdM g v1 w.heap.size := by
  obtain ⟨v1, h1, h2, h3⟩ := hs
  have hn : ¬ RdM g vv w.heap.size := fun e => by have := h.rm_lt _ e; omega
  refine ⟨v1, h1, ((Ch.refl _ _).alloc _).trans h2 (fun b hb => .inl hb), fun b hb => (h3 b hb).imp id (fun e => by simp only [World.size_alloc] at e; omega), (h2.block _ (by simp) hn).trans (blk_new _ _), by have := h2.size; simp only [World.size_alloc] at this; omega, fun e => ?_⟩
  rcases e with e | e
  · have := h.lt.1; omega
  · rcases h3 _ e with e | e
    · have := (h.vars.lt _ e).2; omega
    · simp only [World.size_alloc] at e; omega
theorem step_x {x : Nat} {o : Obj} (hs : RdStep B base g v1 r2 w1 w2) (hx : w1.heap[x]? = some o) (hn : ¬ RdM g v1 x) :
    ∃ v2, RdI B base g v2 r2 w2 ∧ Ch (RdM g v1) w1 w2 ∧ VG w1 v1 v2 ∧ w2.heap[x]? = some o ∧ ¬ RdM g v2 x := by
  obtain ⟨v2, h1, h2, h3⟩ := hs
  have hl := blk_lt hx
  refine ⟨v2, h1, h2, h3, (h2.block x hl hn).trans hx, fun e => ?_⟩
  rcases VG.rm h3 x e with e | e
  · exact hn e
  · omega
theorem step_chain {v2 : Value} (hc1 : Ch (RdM g vv) w w1) (hv1 : VG w vv v1) (hc2 : Ch (RdM g v1) w1 w2) (hv2 : VG w1 v1 v2) : Ch (RdM g vv) w w2 ∧ VG w vv v2 :=
  ⟨hc1.trans hc2 (VG.rm hv1), hv1.trans hv2 hc1.size⟩
theorem rtm_end {t : Tm} {a0 a1 a2 a3 : Value} {v2 : Value} (h : RdI B base g v2 r2 w2) (hch : Ch (RdM g vv) w w2) (hvg : VG w vv v2) (hn : ¬ RdM g v2 w.heap.size) (hB : B ≤ w.heap.size)
    (hrep : Tm.rep (fun b => (w.heap.size ≤ b ∧ ¬ RdM g v2 b) ∧ b ≠ w.heap.size) w2 t [a0, a1, a2, a3]) :
    RTm B base g vv (t, r2) w (.returned (.agg #[a0, a1, a2, a3])) ((((w2.setCell ⟨w.heap.size, 0, none⟩ a0).setCell ⟨w.heap.size, 1, none⟩ a1).setCell ⟨w.heap.size, 2, none⟩ a2).setCell ⟨w.heap.size, 3, none⟩ a3) := by
  have hk : Keeps (fun b => (w.heap.size ≤ b ∧ ¬ RdM g v2 b) ∧ b ≠ w.heap.size) w2 ((((w2.setCell ⟨w.heap.size, 0, none⟩ a0).setCell ⟨w.heap.size, 1, none⟩ a1).setCell ⟨w.heap.size, 2, none⟩ a2).setCell ⟨w.heap.size, 3, none⟩ a3) :=
    (((Keeps.setCell _ _ _ _ (by simp)).trans (Keeps.setCell _ _ _ _ (by simp))).trans (Keeps.setCell _ _ _ _ (by simp))).trans (Keeps.setCell _ _ _ _ (by simp))
  exact ⟨[a0, a1, a2, a3], v2, rfl, (((h.other hn hB).other hn hB).other hn hB).other hn hB,
    (((hch.setCell (p := ⟨w.heap.size, 0, none⟩) (.inr (Nat.le_refl _)) _).setCell (p := ⟨w.heap.size, 1, none⟩) (.inr (Nat.le_refl _)) _).setCell (p := ⟨w.heap.size, 2, none⟩) (.inr (Nat.le_refl _)) _).setCell (p := ⟨w.heap.size, 3, none⟩) (.inr (Nat.le_refl _)) _,
    hvg, Tm.rep_lasts.2.1 _ _ _ _ _ (Tm.rep_lasts.1 _ _ _ _ _ hrep hk) fun b _ hb => hb.1⟩
theorem rep_leaf {A : Nat → Prop} {w : World} {k n : Int} {s : ByteArray} (hk : I64 k) (hn : I64 n) (hs : s.size ≤ 1048576) : Tm.rep A w (.mk k n s []) [.int .i64 k, .int .i64 n, .string s, .slice none 0 0] :=
  Tm.rep_iff.2 ⟨hk, hn, hs, _, rfl, SlR.nil ..⟩
theorem i64_0 : I64 0 := by unfold I64; omega
theorem i64_1 : I64 1 := by unfold I64; omega
theorem i64_2 : I64 2 := by unfold I64; omega
theorem i64_3 : I64 3 := by unfold I64; omega
set_option maxHeartbeats 4000000 in
theorem rterm_lost0 (d : Int) (hd : 24 < d) (h : RdI B base g vv r w) : Calls Tryz.prog 50 #[.pointer (some ⟨g, 0, none⟩), .int .i64 d] w (RTm B base g vv (tmz, r.space.kill) w) := by
  have HU := hid h
  have HSP := hid (rspace_ok (h.below ((Below.refl _ _).alloc (Nat.le_refl _) zcells)))
  have hBx : B ≤ w.heap.size := by have := h.bg; omega
  have hcs := cell_set
  have f1 : decide (24 < d) = true := by simpa using hd
  clear hd
  clear h
  go_enter Tryz.func50, Tryz.ntmps50
  go_wp2_with fail
  refine HSP.out.mono ?_
  rintro e w1 ⟨rfl, hst⟩
  obtain ⟨v1, h1, c1, g1, x1, hz1, n1⟩ := term_start HU.out hst
  have HI := hid h1
  have HCH := hid c1
  have HV := hid g1
  have HX := hid x1
  have HN := hid n1
  obtain ⟨b0, b1, b2, bf⟩ := h1.cells
  have hgl := h1.lt.1
  have hgx : ¬ g = w.heap.size := fun e => n1 (.inl e.symm)
  obtain ⟨x0, x1, x2, x3, xf⟩ := blk4 x1
  have e0 : r.space.s = spaceF r.s := rfl
  have e2 : r.space.bad = r.bad := rfl
  rw [e0] at b0
  rw [e2] at b2
  clear hst h1 c1 g1 n1 e0 e2
  go_wp2_with fail
  refine bodyPost_ret (v := .agg #[.int .i64 0, .int .i64 0, .string ⟨#[]⟩, .slice none 0 0]) (by simp [results, Tryz.results50, go_sem, hcs, x0, x1, x2, x3, hgx]; try rfl) rfl ?_
  obtain ⟨v2, k1, k2, k3, k4, k5⟩ := step_x (HI.out.setBad true) HX.out HN.out
  obtain ⟨k6, k7⟩ := step_chain HCH.out HV.out k2 k3
  exact rtm_end k1 k6 k7 k5 hBx (rep_leaf i64_0 i64_0 (by simp [ByteArray.size]))
set_option maxHeartbeats 4000000 in
theorem rterm_lost1 (d : Int) (hd : d ≤ 24) (hb : r.bad = true) (h : RdI B base g vv r w) : Calls Tryz.prog 50 #[.pointer (some ⟨g, 0, none⟩), .int .i64 d] w (RTm B base g vv (tmz, r.space.kill) w) := by
  have HU := hid h
  have HSP := hid (rspace_ok (h.below ((Below.refl _ _).alloc (Nat.le_refl _) zcells)))
  have hBx : B ≤ w.heap.size := by have := h.bg; omega
  have hcs := cell_set
  have f1 : decide (24 < d) = false := by simp; omega
  have HB := hid hb
  clear hd hb
  clear h
  go_enter Tryz.func50, Tryz.ntmps50
  go_wp2_with fail
  refine HSP.out.mono ?_
  rintro e w1 ⟨rfl, hst⟩
  obtain ⟨v1, h1, c1, g1, x1, hz1, n1⟩ := term_start HU.out hst
  have HI := hid h1
  have HCH := hid c1
  have HV := hid g1
  have HX := hid x1
  have HN := hid n1
  obtain ⟨b0, b1, b2, bf⟩ := h1.cells
  have hgl := h1.lt.1
  have hgx : ¬ g = w.heap.size := fun e => n1 (.inl e.symm)
  obtain ⟨x0, x1, x2, x3, xf⟩ := blk4 x1
  have e0 : r.space.s = spaceF r.s := rfl
  have e2 : r.space.bad = r.bad := rfl
  rw [e0] at b0
  rw [e2] at b2
  clear hst h1 c1 g1 n1 e0 e2
  rw [HB.out] at b2
  go_wp2_with fail
  refine bodyPost_ret (v := .agg #[.int .i64 0, .int .i64 0, .string ⟨#[]⟩, .slice none 0 0]) (by simp [results, Tryz.results50, go_sem, hcs, x0, x1, x2, x3, hgx]; try rfl) rfl ?_
  obtain ⟨v2, k1, k2, k3, k4, k5⟩ := step_x (HI.out.setBad true) HX.out HN.out
  obtain ⟨k6, k7⟩ := step_chain HCH.out HV.out k2 k3
  exact rtm_end k1 k6 k7 k5 hBx (rep_leaf i64_0 i64_0 (by simp [ByteArray.size]))
set_option maxHeartbeats 4000000 in
theorem rterm_lost2 (d : Int) (hd : d ≤ 24) (hb : r.bad = false) (hs : spaceF r.s = []) (h : RdI B base g vv r w) : Calls Tryz.prog 50 #[.pointer (some ⟨g, 0, none⟩), .int .i64 d] w (RTm B base g vv (tmz, r.space.kill) w) := by
  have HU := hid h
  have HSP := hid (rspace_ok (h.below ((Below.refl _ _).alloc (Nat.le_refl _) zcells)))
  have hBx : B ≤ w.heap.size := by have := h.bg; omega
  have hcs := cell_set
  have f1 : decide (24 < d) = false := by simp; omega
  have HB := hid hb
  have HS := hid hs
  obtain ⟨t1, t2⟩ := nil_text
  clear hd hb hs
  clear h
  go_enter Tryz.func50, Tryz.ntmps50
  go_wp2_with fail
  refine HSP.out.mono ?_
  rintro e w1 ⟨rfl, hst⟩
  obtain ⟨v1, h1, c1, g1, x1, hz1, n1⟩ := term_start HU.out hst
  have HI := hid h1
  have HCH := hid c1
  have HV := hid g1
  have HX := hid x1
  have HN := hid n1
  obtain ⟨b0, b1, b2, bf⟩ := h1.cells
  have hgl := h1.lt.1
  have hgx : ¬ g = w.heap.size := fun e => n1 (.inl e.symm)
  obtain ⟨x0, x1, x2, x3, xf⟩ := blk4 x1
  have e0 : r.space.s = spaceF r.s := rfl
  have e2 : r.space.bad = r.bad := rfl
  rw [e0] at b0
  rw [e2] at b2
  clear hst h1 c1 g1 n1 e0 e2
  rw [HB.out] at b2
  rw [HS.out] at b0
  go_wp2_with fail
  refine bodyPost_ret (v := .agg #[.int .i64 0, .int .i64 0, .string ⟨#[]⟩, .slice none 0 0]) (by simp [results, Tryz.results50, go_sem, hcs, x0, x1, x2, x3, hgx]; try rfl) rfl ?_
  obtain ⟨v2, k1, k2, k3, k4, k5⟩ := step_x (HI.out.setBad true) HX.out HN.out
  obtain ⟨k6, k7⟩ := step_chain HCH.out HV.out k2 k3
  exact rtm_end k1 k6 k7 k5 hBx (rep_leaf i64_0 i64_0 (by simp [ByteArray.size]))
set_option maxHeartbeats 4000000 in
theorem rterm_up (d : Int) (hd : d ≤ 24) (c : UInt8) (rest : Str) (hb : r.bad = false) (hs : spaceF r.s = c :: rest) (hc : 65 ≤ (c.toNat : Int) ∧ (c.toNat : Int) ≤ 90) (h : RdI B base g vv r w) : Calls Tryz.prog 50 #[.pointer (some ⟨g, 0, none⟩), .int .i64 d] w (RTm B base g vv (varR { r with s := (c :: rest).drop (wordLen (c :: rest)) } ((c :: rest).take (wordLen (c :: rest)))) w) := by
  have HU := hid h
  have HSP := hid (rspace_ok (h.below ((Below.refl _ _).alloc (Nat.le_refl _) zcells)))
  have hBx : B ≤ w.heap.size := by have := h.bg; omega
  have hcs := cell_set
  have f1 : decide (24 < d) = false := by simp; omega
  have HB := hid hb
  have HS := hid hs
  obtain ⟨S, hS⟩ : ∃ S, S = bs (c :: rest) := ⟨_, rfl⟩
  have HSS := hid hS
  have t1 : S.toList.isEmpty = false := by rw [hS, bs_toList]; rfl
  have t2 : ¬ S.toList = [] := by rw [hS, bs_toList]; simp
  have t3 : 0 < S.size := by rw [hS, bs_size]; simp
  have hg0 : S[0] = c := by subst hS; exact cons_get c rest t3
  have HG := hid hg0
  have hc0 : 0 ≤ (S[0].toNat : Int) := by omega
  obtain ⟨hc1, hc2⟩ := hc
  have f2 : decide ((65 : Int) ≤ (S[0].toNat : Int)) = true := by rw [hg0]; exact decide_eq_true (by omega)
  have f3 : decide ((S[0].toNat : Int) ≤ (90 : Int)) = true := by rw [hg0]; exact decide_eq_true (by omega)
  have hwp : 1 ≤ wordLen (c :: rest) := by rw [wordLen_cons, if_pos (by simp [up_iff.2 ⟨hc1, hc2⟩])]; omega
  have HWP := hid hwp
  clear hc1 hc2 hwp
  clear hd hb hs hS hg0
  clear h
  go_enter Tryz.func50, Tryz.ntmps50
  go_wp2_with fail
  refine HSP.out.mono ?_
  rintro e w1 ⟨rfl, hst⟩
  obtain ⟨v1, h1, c1, g1, x1, hz1, n1⟩ := term_start HU.out hst
  have HI := hid h1
  have HCH := hid c1
  have HV := hid g1
  have HX := hid x1
  have HN := hid n1
  obtain ⟨b0, b1, b2, bf⟩ := h1.cells
  have hgl := h1.lt.1
  have hgx : ¬ g = w.heap.size := fun e => n1 (.inl e.symm)
  obtain ⟨x0, x1, x2, x3, xf⟩ := blk4 x1
  have e0 : r.space.s = spaceF r.s := rfl
  have e2 : r.space.bad = r.bad := rfl
  rw [e0] at b0
  rw [e2] at b2
  clear hst h1 c1 g1 n1 e0 e2
  rw [HB.out] at b2
  rw [HS.out, ← HSS.out] at b0
  go_wp2_with fail
  have HW := hid (rword_ok (c :: rest) (by rw [← HS.out]; exact spaceF_idem r.s) HI.out)
  refine HW.out.mono ?_
  rintro e w2 ⟨rfl, hst2⟩
  obtain ⟨v2, k1, k2, k3, k4, k5⟩ := step_x hst2 HX.out HN.out
  have HI2 := hid k1
  have HC2 := hid (step_chain HCH.out HV.out k2 k3)
  have HX2 := hid k4
  have HN2 := hid k5
  have hl := HI.out.len
  have e0 : r.space.s = c :: rest := HS.out
  rw [e0] at hl
  have hwl := wordLen_step (Nat.le_refl (wordLen (c :: rest)))
  have HL := hid hl
  have HWL := hid hwl
  clear hst2 k1 k2 k3 k4 k5 hl hwl e0 b0 b1 b2 bf x0 x1 x2 x3 xf HW
  go_wp2_with fail
  refine (rvar_ok ((c :: rest).take (wordLen (c :: rest))) (by have := HL.out; rw [List.length_take]; omega) HI2.out (by
    have := HL.out
    have := HWP.out
    have := HWL.out
    show ((c :: rest).drop (wordLen (c :: rest))).length + r.vars.length + 1 ≤ 2000
    rw [List.length_drop]
    have e : r.space.vars.length = r.vars.length := rfl
    omega)).mono ?_
  rintro e w3 ⟨us, v3, rfl, k1, k2, k3, k4⟩
  obtain ⟨-, -, -, va, rfl, hsl⟩ := Tm.rep_iff.1 k4
  obtain ⟨ua, uc, -, -, rfl, -⟩ := hsl.at
  clear hsl
  have HI3 := hid k1
  have HC3 := hid (step_chain HC2.out.1 HC2.out.2 k2 k3)
  have HR3 := hid k4
  have hzz : w.heap.size < w2.heap.size := blk_lt HX2.out
  have hx3 := (k2.block _ hzz HN2.out).trans HX2.out
  have HX3 := hid hx3
  have hn3 : ¬ RdM g v3 w.heap.size := fun e => (VG.rm k3 _ e).elim HN2.out (fun e => by omega)
  have HN3 := hid hn3
  have hgl3 := k1.lt.1
  obtain ⟨x0, x1, x2, x3, xf⟩ := blk4 hx3
  clear k1 k2 k3 k4 hx3 hn3
  go_wp2_with fail
  refine bodyPost_ret (v := .agg #[.int .i64 0, .int .i64 (varF r.space.vars ((c :: rest).take (wordLen (c :: rest)))).1, .string ⟨#[]⟩, .slice ua 0 uc]) (by simp [results, Tryz.results50, go_sem, hcs, x0, x1, x2, x3, hgx]; try rfl) rfl ?_
  refine rtm_end HI3.out HC3.out.1 HC3.out.2 HN3.out hBx ?_
  exact Tm.rep_lasts.2.1 _ _ _ _ _ HR3.out fun b _ hb => ⟨⟨by omega, hb.2⟩, fun e => by omega⟩
set_option maxHeartbeats 4000000 in
theorem rterm_bang (d : Int) (hd : d ≤ 24) (c : UInt8) (rest : Str) (hb : r.bad = false) (hs : spaceF r.s = c :: rest) (hc : (c.toNat : Int) = 33) (h : RdI B base g vv r w) : Calls Tryz.prog 50 #[.pointer (some ⟨g, 0, none⟩), .int .i64 d] w (RTm B base g vv (.mk 1 0 (bs [33]) [], { r with s := rest }) w) := by
  have HU := hid h
  have HSP := hid (rspace_ok (h.below ((Below.refl _ _).alloc (Nat.le_refl _) zcells)))
  have hBx : B ≤ w.heap.size := by have := h.bg; omega
  have hcs := cell_set
  have f1 : decide (24 < d) = false := by simp; omega
  have HB := hid hb
  have HS := hid hs
  obtain ⟨S, hS⟩ : ∃ S, S = bs (c :: rest) := ⟨_, rfl⟩
  have HSS := hid hS
  have t1 : S.toList.isEmpty = false := by rw [hS, bs_toList]; rfl
  have t2 : ¬ S.toList = [] := by rw [hS, bs_toList]; simp
  have t3 : 0 < S.size := by rw [hS, bs_size]; simp
  have hg0 : S[0] = c := by subst hS; exact cons_get c rest t3
  have HG := hid hg0
  have hc0 : 0 ≤ (S[0].toNat : Int) := by omega
  have f2 : decide ((65 : Int) ≤ (S[0].toNat : Int)) = false := by rw [hg0]; exact decide_eq_false (by omega)
  have f4 : ((S[0].toNat : Int) == (33 : Int)) = true := by rw [hg0]; rw [beq_iff_eq]; omega
  clear hc
  clear hd hb hs hS hg0
  clear h
  go_enter Tryz.func50, Tryz.ntmps50
  go_wp2_with fail
  refine HSP.out.mono ?_
  rintro e w1 ⟨rfl, hst⟩
  obtain ⟨v1, h1, c1, g1, x1, hz1, n1⟩ := term_start HU.out hst
  have HI := hid h1
  have HCH := hid c1
  have HV := hid g1
  have HX := hid x1
  have HN := hid n1
  obtain ⟨b0, b1, b2, bf⟩ := h1.cells
  have hgl := h1.lt.1
  have hgx : ¬ g = w.heap.size := fun e => n1 (.inl e.symm)
  obtain ⟨x0, x1, x2, x3, xf⟩ := blk4 x1
  have e0 : r.space.s = spaceF r.s := rfl
  have e2 : r.space.bad = r.bad := rfl
  rw [e0] at b0
  rw [e2] at b2
  clear hst h1 c1 g1 n1 e0 e2
  rw [HB.out] at b2
  rw [HS.out, ← HSS.out] at b0
  go_wp2_with fail
  have hx : S.extract 1 S.size = bs rest := by rw [HSS.out]; exact cons_rest c rest
  rw [hx]
  obtain ⟨v2, k1, k2, k3, k4, k5⟩ := step_x (HI.out.setS rest (by rw [show r.space.s = c :: rest from HS.out]; simp)) HX.out HN.out
  obtain ⟨k6, k7⟩ := step_chain HCH.out HV.out k2 k3
  refine bodyPost_ret (v := .agg #[.int .i64 1, .int .i64 0, .string ⟨#[33]⟩, .slice none 0 0]) (by simp [results, Tryz.results50, go_sem, hcs, x0, x1, x2, x3, hgx]; try rfl) rfl ?_
  exact rtm_end k1 k6 k7 k5 hBx (rep_leaf i64_1 i64_0 (by simp [ByteArray.size, bs]))
def numRd (r : Rd) (c : UInt8) (rest : Str) : Tm × Rd := match numF (c :: rest) with
  | some k => (.mk 2 k ⟨#[]⟩ [], { r with s := (c :: rest).drop (numLen (c :: rest)) })
  | none => (.mk 2 0 ⟨#[]⟩ [], { r with s := c :: rest, bad := true })
theorem numF_bnd {s : Str} {k : Int} (h : some k = numF s) : -1099511627776 ≤ k ∧ k ≤ 1099511627776 := by
  rw [numF_eq] at h
  unfold atoiF at h
  split at h
  · split at h
    · rename_i h2
      simp only [Option.some.injEq] at h
      subst h
      exact h2.2
    · cases h
  · cases h
set_option maxHeartbeats 4000000 in
theorem rterm_num1 (d : Int) (hd : d ≤ 24) (c : UInt8) (rest : Str) (hb : r.bad = false) (hs : spaceF r.s = c :: rest) (hc : (c.toNat : Int) = 45) (h : RdI B base g vv r w) : Calls Tryz.prog 50 #[.pointer (some ⟨g, 0, none⟩), .int .i64 d] w (RTm B base g vv (numRd r c rest) w) := by
  have HU := hid h
  have HSP := hid (rspace_ok (h.below ((Below.refl _ _).alloc (Nat.le_refl _) zcells)))
  have hBx : B ≤ w.heap.size := by have := h.bg; omega
  have hcs := cell_set
  have f1 : decide (24 < d) = false := by simp; omega
  have HB := hid hb
  have HS := hid hs
  obtain ⟨S, hS⟩ : ∃ S, S = bs (c :: rest) := ⟨_, rfl⟩
  have HSS := hid hS
  have t1 : S.toList.isEmpty = false := by rw [hS, bs_toList]; rfl
  have t2 : ¬ S.toList = [] := by rw [hS, bs_toList]; simp
  have t3 : 0 < S.size := by rw [hS, bs_size]; simp
  have hg0 : S[0] = c := by subst hS; exact cons_get c rest t3
  have HG := hid hg0
  have hc0 : 0 ≤ (S[0].toNat : Int) := by omega
  have f2 : decide ((65 : Int) ≤ (S[0].toNat : Int)) = false := by rw [hg0]; exact decide_eq_false (by omega)
  have f4 : ((S[0].toNat : Int) == (33 : Int)) = false := by rw [hg0]; rw [beq_eq_false_iff_ne]; omega
  have f5 : ((S[0].toNat : Int) == (45 : Int)) = true := by rw [hg0]; rw [beq_iff_eq]; omega
  have HCC := hid (show c = 45 ∨ digB c = true from .inl (UInt8.toNat_inj.1 (by have e45 : (45 : UInt8).toNat = 45 := rfl; omega)))
  clear hc
  clear hd hb hs hS hg0
  clear h
  go_enter Tryz.func50, Tryz.ntmps50
  go_wp2_with fail
  refine HSP.out.mono ?_
  rintro e w1 ⟨rfl, hst⟩
  obtain ⟨v1, h1, c1, g1, x1, hz1, n1⟩ := term_start HU.out hst
  have HI := hid h1
  have HCH := hid c1
  have HV := hid g1
  have HX := hid x1
  have HN := hid n1
  obtain ⟨b0, b1, b2, bf⟩ := h1.cells
  have hgl := h1.lt.1
  have hgx : ¬ g = w.heap.size := fun e => n1 (.inl e.symm)
  obtain ⟨x0, x1, x2, x3, xf⟩ := blk4 x1
  have e0 : r.space.s = spaceF r.s := rfl
  have e2 : r.space.bad = r.bad := rfl
  rw [e0] at b0
  rw [e2] at b2
  clear hst h1 c1 g1 n1 e0 e2
  rw [HB.out] at b2
  rw [HS.out, ← HSS.out] at b0
  go_wp2_with fail
  have HNUM := hid (rnum_ok c rest HCC.out (by rw [← HS.out]; exact spaceF_idem r.s) HI.out)
  refine HNUM.out.mono ?_
  intro e w2 hp
  unfold RNumPost at hp
  cases ho : numF (c :: rest) with
  | none =>
    rw [ho] at hp
    obtain ⟨rfl, hst2⟩ := hp
    have HRES := hid (show numRd r c rest = (.mk 2 0 ⟨#[]⟩ [], { r with s := c :: rest, bad := true }) by unfold numRd; rw [ho])
    clear ho
    obtain ⟨v2, k1, k2, k3, k4, k5⟩ := step_x hst2 HX.out HN.out
    have HI2 := hid k1
    have HC2 := hid (step_chain HCH.out HV.out k2 k3)
    have HX2 := hid k4
    have HN2 := hid k5
    obtain ⟨b0, b1, b2, bf⟩ := k1.cells
    have hgl2 := k1.lt.1
    obtain ⟨x0, x1, x2, x3, xf⟩ := blk4 k4
    have e9 : (⟨c :: rest, r.space.vars, r.space.bad⟩ : Rd).bad = false := HB.out
    rw [e9] at b2
    clear hst2 k1 k2 k3 k4 k5 e9
    go_wp2_with fail
    obtain ⟨v3, k1, k2, k3, k4, k5⟩ := step_x (HI2.out.setBad true) HX2.out HN2.out
    obtain ⟨k6, k7⟩ := step_chain HC2.out.1 HC2.out.2 k2 k3
    rw [HRES.out]
    refine bodyPost_ret (v := .agg #[.int .i64 2, .int .i64 0, .string ⟨#[]⟩, .slice none 0 0]) (by simp [results, Tryz.results50, go_sem, hcs, x0, x1, x2, x3, hgx]; try rfl) rfl ?_
    exact rtm_end k1 k6 k7 k5 hBx (rep_leaf i64_2 i64_0 (by simp [ByteArray.size]))
  | some k =>
    rw [ho] at hp
    obtain ⟨rfl, hst2⟩ := hp
    have HRES := hid (show numRd r c rest = (.mk 2 k ⟨#[]⟩ [], { r with s := (c :: rest).drop (numLen (c :: rest)) }) by unfold numRd; rw [ho])
    have HO := hid ho.symm
    clear ho
    obtain ⟨v2, k1, k2, k3, k4, k5⟩ := step_x hst2 HX.out HN.out
    have HI2 := hid k1
    have HC2 := hid (step_chain HCH.out HV.out k2 k3)
    have HX2 := hid k4
    have HN2 := hid k5
    obtain ⟨b0, b1, b2, bf⟩ := k1.cells
    have hgl2 := k1.lt.1
    obtain ⟨x0, x1, x2, x3, xf⟩ := blk4 k4
    have e9 : (⟨(c :: rest).drop (numLen (c :: rest)), r.space.vars, r.space.bad⟩ : Rd).bad = false := HB.out
    rw [e9] at b2
    have hkb := numF_bnd HO.out
    clear hst2 k1 k2 k3 k4 k5 e9
    go_wp2_with fail
    obtain ⟨v3, k1, k2, k3, k4, k5⟩ := step_x (HI2.out.setBad false) HX2.out HN2.out
    obtain ⟨k6, k7⟩ := step_chain HC2.out.1 HC2.out.2 k2 k3
    rw [HRES.out]
    have e8 : (⟨(c :: rest).drop (numLen (c :: rest)), r.space.vars, false⟩ : Rd) = { r with s := (c :: rest).drop (numLen (c :: rest)) } := by rw [← HB.out]; rfl
    rw [← e8]
    refine bodyPost_ret (v := .agg #[.int .i64 2, .int .i64 k, .string ⟨#[]⟩, .slice none 0 0]) (by simp [results, Tryz.results50, go_sem, hcs, x0, x1, x2, x3, hgx]; try rfl) rfl ?_
    exact rtm_end k1 k6 k7 k5 hBx (rep_leaf i64_2 (by unfold I64; omega) (by simp [ByteArray.size]))
set_option maxHeartbeats 4000000 in
theorem rterm_num2 (d : Int) (hd : d ≤ 24) (c : UInt8) (rest : Str) (hb : r.bad = false) (hs : spaceF r.s = c :: rest) (hc : 48 ≤ (c.toNat : Int) ∧ (c.toNat : Int) ≤ 57) (h : RdI B base g vv r w) : Calls Tryz.prog 50 #[.pointer (some ⟨g, 0, none⟩), .int .i64 d] w (RTm B base g vv (numRd r c rest) w) := by
  have HU := hid h
  have HSP := hid (rspace_ok (h.below ((Below.refl _ _).alloc (Nat.le_refl _) zcells)))
  have hBx : B ≤ w.heap.size := by have := h.bg; omega
  have hcs := cell_set
  have f1 : decide (24 < d) = false := by simp; omega
  have HB := hid hb
  have HS := hid hs
  obtain ⟨S, hS⟩ : ∃ S, S = bs (c :: rest) := ⟨_, rfl⟩
  have HSS := hid hS
  have t1 : S.toList.isEmpty = false := by rw [hS, bs_toList]; rfl
  have t2 : ¬ S.toList = [] := by rw [hS, bs_toList]; simp
  have t3 : 0 < S.size := by rw [hS, bs_size]; simp
  have hg0 : S[0] = c := by subst hS; exact cons_get c rest t3
  have HG := hid hg0
  have hc0 : 0 ≤ (S[0].toNat : Int) := by omega
  obtain ⟨hc1, hc2⟩ := hc
  have f2 : decide ((65 : Int) ≤ (S[0].toNat : Int)) = false := by rw [hg0]; exact decide_eq_false (by omega)
  have f4 : ((S[0].toNat : Int) == (33 : Int)) = false := by rw [hg0]; rw [beq_eq_false_iff_ne]; omega
  have f5 : ((S[0].toNat : Int) == (45 : Int)) = false := by rw [hg0]; rw [beq_eq_false_iff_ne]; omega
  have f6 : decide ((48 : Int) ≤ (S[0].toNat : Int)) = true := by rw [hg0]; exact decide_eq_true (by omega)
  have f7 : decide ((S[0].toNat : Int) ≤ (57 : Int)) = true := by rw [hg0]; exact decide_eq_true (by omega)
  have HCC := hid (show c = 45 ∨ digB c = true from .inr (dig_iff.2 ⟨hc1, hc2⟩))
  clear hc1 hc2
  clear hd hb hs hS hg0
  clear h
  go_enter Tryz.func50, Tryz.ntmps50
  go_wp2_with fail
  refine HSP.out.mono ?_
  rintro e w1 ⟨rfl, hst⟩
  obtain ⟨v1, h1, c1, g1, x1, hz1, n1⟩ := term_start HU.out hst
  have HI := hid h1
  have HCH := hid c1
  have HV := hid g1
  have HX := hid x1
  have HN := hid n1
  obtain ⟨b0, b1, b2, bf⟩ := h1.cells
  have hgl := h1.lt.1
  have hgx : ¬ g = w.heap.size := fun e => n1 (.inl e.symm)
  obtain ⟨x0, x1, x2, x3, xf⟩ := blk4 x1
  have e0 : r.space.s = spaceF r.s := rfl
  have e2 : r.space.bad = r.bad := rfl
  rw [e0] at b0
  rw [e2] at b2
  clear hst h1 c1 g1 n1 e0 e2
  rw [HB.out] at b2
  rw [HS.out, ← HSS.out] at b0
  go_wp2_with fail
  have HNUM := hid (rnum_ok c rest HCC.out (by rw [← HS.out]; exact spaceF_idem r.s) HI.out)
  refine HNUM.out.mono ?_
  intro e w2 hp
  unfold RNumPost at hp
  cases ho : numF (c :: rest) with
  | none =>
    rw [ho] at hp
    obtain ⟨rfl, hst2⟩ := hp
    have HRES := hid (show numRd r c rest = (.mk 2 0 ⟨#[]⟩ [], { r with s := c :: rest, bad := true }) by unfold numRd; rw [ho])
    clear ho
    obtain ⟨v2, k1, k2, k3, k4, k5⟩ := step_x hst2 HX.out HN.out
    have HI2 := hid k1
    have HC2 := hid (step_chain HCH.out HV.out k2 k3)
    have HX2 := hid k4
    have HN2 := hid k5
    obtain ⟨b0, b1, b2, bf⟩ := k1.cells
    have hgl2 := k1.lt.1
    obtain ⟨x0, x1, x2, x3, xf⟩ := blk4 k4
    have e9 : (⟨c :: rest, r.space.vars, r.space.bad⟩ : Rd).bad = false := HB.out
    rw [e9] at b2
    clear hst2 k1 k2 k3 k4 k5 e9
    go_wp2_with fail
    obtain ⟨v3, k1, k2, k3, k4, k5⟩ := step_x (HI2.out.setBad true) HX2.out HN2.out
    obtain ⟨k6, k7⟩ := step_chain HC2.out.1 HC2.out.2 k2 k3
    rw [HRES.out]
    refine bodyPost_ret (v := .agg #[.int .i64 2, .int .i64 0, .string ⟨#[]⟩, .slice none 0 0]) (by simp [results, Tryz.results50, go_sem, hcs, x0, x1, x2, x3, hgx]; try rfl) rfl ?_
    exact rtm_end k1 k6 k7 k5 hBx (rep_leaf i64_2 i64_0 (by simp [ByteArray.size]))
  | some k =>
    rw [ho] at hp
    obtain ⟨rfl, hst2⟩ := hp
    have HRES := hid (show numRd r c rest = (.mk 2 k ⟨#[]⟩ [], { r with s := (c :: rest).drop (numLen (c :: rest)) }) by unfold numRd; rw [ho])
    have HO := hid ho.symm
    clear ho
    obtain ⟨v2, k1, k2, k3, k4, k5⟩ := step_x hst2 HX.out HN.out
    have HI2 := hid k1
    have HC2 := hid (step_chain HCH.out HV.out k2 k3)
    have HX2 := hid k4
    have HN2 := hid k5
    obtain ⟨b0, b1, b2, bf⟩ := k1.cells
    have hgl2 := k1.lt.1
    obtain ⟨x0, x1, x2, x3, xf⟩ := blk4 k4
    have e9 : (⟨(c :: rest).drop (numLen (c :: rest)), r.space.vars, r.space.bad⟩ : Rd).bad = false := HB.out
    rw [e9] at b2
    have hkb := numF_bnd HO.out
    clear hst2 k1 k2 k3 k4 k5 e9
    go_wp2_with fail
    obtain ⟨v3, k1, k2, k3, k4, k5⟩ := step_x (HI2.out.setBad false) HX2.out HN2.out
    obtain ⟨k6, k7⟩ := step_chain HC2.out.1 HC2.out.2 k2 k3
    rw [HRES.out]
    have e8 : (⟨(c :: rest).drop (numLen (c :: rest)), r.space.vars, false⟩ : Rd) = { r with s := (c :: rest).drop (numLen (c :: rest)) } := by rw [← HB.out]; rfl
    rw [← e8]
    refine bodyPost_ret (v := .agg #[.int .i64 2, .int .i64 k, .string ⟨#[]⟩, .slice none 0 0]) (by simp [results, Tryz.results50, go_sem, hcs, x0, x1, x2, x3, hgx]; try rfl) rfl ?_
    exact rtm_end k1 k6 k7 k5 hBx (rep_leaf i64_2 (by unfold I64; omega) (by simp [ByteArray.size]))
end
end Go.Proofs.YtlpmfkpefoegeacGreatDoor
