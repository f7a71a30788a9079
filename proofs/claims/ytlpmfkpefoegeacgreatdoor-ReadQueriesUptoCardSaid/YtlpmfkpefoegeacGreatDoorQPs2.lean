/-
  The document's parser: front, take.
-/
import Derived.Test.YtlpmfkpefoegeacGreatDoorQRd6
import Derived.Test.YtlpmfkpefoegeacGreatDoorQBack
namespace Go.Proofs.YtlpmfkpefoegeacGreatDoor
set_option linter.unusedVariables false
set_option linter.unusedSimpArgs false
open Go.RowKit
def TokOk (t : Str) : Prop := t.length ≤ 2000 ∧ ∀ c r, t = c :: r → (c = 45 ∨ digB c = true) → Digs (digitsOf t)
structure PsI (base g : Nat) (lv vv : Value) (p : Ps) (w : World) : Prop where
  box : w.heap[g]? = some (.cells #[lv, vv, .bool p.bad] 84 (0, 0))
  wd : SlR 1 (flatR strV strOk) (fun b => b < g) w p.l lv
  vars : OwnS w base p.vars vv
  bg : g < base ∧ base ≤ w.heap.size
  len : p.l.length + p.vars.length ≤ 2000
  tok : ∀ t ∈ p.l, TokOk t
section
variable {base g : Nat} {lv vv vv' : Value} {p p' : Ps} {w w' : World}
theorem PsI.lt (h : PsI base g lv vv p w) : g < w.heap.size ∧ base ≤ w.heap.size := ⟨blk_lt h.box, h.bg.2⟩
theorem PsI.apart (h : PsI base g lv vv p w) : ownB vv ≠ some g := fun e => by have := (h.vars.lt g e).1; have := h.bg; omega
theorem PsI.cells (h : PsI base g lv vv p w) : w.cell? ⟨g, 0, none⟩ = some lv ∧ w.cell? ⟨g, 1, none⟩ = some vv ∧ w.cell? ⟨g, 2, none⟩ = some (.bool p.bad) ∧ ∀ o, w.frozen? ⟨g, o, none⟩ = false := rbox3 h.box
theorem PsI.rm_lt (h : PsI base g lv vv p w) : ∀ b, RdM g vv b → b < w.heap.size := by
  rintro b (rfl | e)
  · exact h.lt.1
  · exact (h.vars.lt b e).2
theorem PsI.keeps (h : PsI base g lv vv p w) (hk : Keeps (fun b => b < g ∨ RdM g vv b) w w') : PsI base g lv vv p w' :=
  ⟨blk_keeps h.box hk (.inr (.inl rfl)), h.wd.keeps strR_lasts (hk.mono fun b _ hb => .inl hb), h.vars.kept fun k e => hk.block k (h.vars.lt k e).2 (.inr (.inr e)), ⟨h.bg.1, Nat.le_trans h.bg.2 hk.size⟩, h.len, h.tok⟩
theorem PsI.below (h : PsI base g lv vv p w) (hb : Below w.heap.size w w') : PsI base g lv vv p w' := h.keeps (Keeps.of_below hb)
theorem PsI.other (h : PsI base g lv vv p w) {b o : Nat} {u : Value} (hb : ¬ RdM g vv b) (hB : g ≤ b) : PsI base g lv vv p (w.setCell ⟨b, o, none⟩ u) :=
  h.keeps (Keeps.setCell _ _ _ _ (fun e => by rcases e with e | e; · simp only at e; omega
                                              · exact hb e))
def PsStep (base g : Nat) (vv : Value) (p' : Ps) (w w' : World) : Prop :=
  ∃ lv' vv', PsI base g lv' vv' p' w' ∧ Ch (RdM g vv) w w' ∧ VG w vv vv'
theorem PsStep.refl (h : PsI base g lv vv p w) : PsStep base g vv p w w := ⟨lv, vv, h, Ch.refl _ _, VG.refl _ _⟩
theorem PsI.setL (h : PsI base g lv vv p w) {lv2 : Value} {l2 : List Str} (h2 : SlR 1 (flatR strV strOk) (fun b => b < g) w l2 lv2) (hl : l2.length ≤ p.l.length) (ht : ∀ t ∈ l2, TokOk t) :
    PsI base g lv2 vv { p with l := l2 } (w.setCell ⟨g, 0, none⟩ lv2) ∧ Ch (RdM g vv) w (w.setCell ⟨g, 0, none⟩ lv2) := by
  have hch0 : Ch (fun b => b = g) w (w.setCell ⟨g, 0, none⟩ lv2) := (Ch.refl (fun b => b = g) w).setCell (p := ⟨g, 0, none⟩) (.inl rfl) _
  have hap := h.apart
  refine ⟨⟨(blk_set h.box 0 _).trans rfl, h2.keeps strR_lasts (hch0.keeps fun b hb hA e => by omega), h.vars.kept fun k hk => hch0.block k (h.vars.lt k hk).2 (fun e => hap (e ▸ hk)), ⟨h.bg.1, Nat.le_trans h.bg.2 hch0.size⟩, ?_, ht⟩, hch0.mono fun b _ hb => .inl hb⟩
  have := h.len
  simp only; omega
theorem PsI.setBad (h : PsI base g lv vv p w) (t : Bool) : PsI base g lv vv { p with bad := t } (w.setCell ⟨g, 2, none⟩ (.bool t)) ∧ Ch (RdM g vv) w (w.setCell ⟨g, 2, none⟩ (.bool t)) := by
  have hch0 : Ch (fun b => b = g) w (w.setCell ⟨g, 2, none⟩ (.bool t)) := (Ch.refl (fun b => b = g) w).setCell (p := ⟨g, 2, none⟩) (.inl rfl) _
  have hap := h.apart
  exact ⟨⟨(blk_set h.box 2 _).trans rfl, h.wd.keeps strR_lasts (hch0.keeps fun b hb hA e => by omega), h.vars.kept fun k hk => hch0.block k (h.vars.lt k hk).2 (fun e => hap (e ▸ hk)), ⟨h.bg.1, Nat.le_trans h.bg.2 hch0.size⟩, h.len, h.tok⟩, hch0.mono fun b _ hb => .inl hb⟩
theorem PsI.setVars (h : PsI base g lv vv p w) : PsI base g lv (.slice none 0 0) { p with vars := [] } (w.setCell ⟨g, 1, none⟩ (.slice none 0 0)) ∧ Ch (RdM g vv) w (w.setCell ⟨g, 1, none⟩ (.slice none 0 0)) ∧ VG w vv (.slice none 0 0) := by
  have hch0 : Ch (fun b => b = g) w (w.setCell ⟨g, 1, none⟩ (.slice none 0 0)) := (Ch.refl (fun b => b = g) w).setCell (p := ⟨g, 1, none⟩) (.inl rfl) _
  refine ⟨⟨(blk_set h.box 1 _).trans rfl, h.wd.keeps strR_lasts (hch0.keeps fun b hb hA e => by omega), OwnF.nil, ⟨h.bg.1, Nat.le_trans h.bg.2 hch0.size⟩, ?_, h.tok⟩, hch0.mono fun b _ hb => .inl hb, fun b hb => by simp [ownB] at hb⟩
  have := h.len
  simp only [List.length_nil]; omega
theorem PsI.pushV {nm : Str} {v2 : Value} {w2 : World} {cells : Array Value} (h : PsI base g lv vv p w) (hroom : p.l.length + p.vars.length + 1 ≤ 2000)
    (hown : OwnS w2 base (p.vars ++ [nm]) v2) (hg : Grew (w.alloc (.cells cells 9)) w2 vv v2) :
    PsI base g lv v2 { p with vars := p.vars ++ [nm] } (w2.setCell ⟨g, 1, none⟩ v2) ∧ Ch (RdM g vv) w (w2.setCell ⟨g, 1, none⟩ v2) ∧ VG w vv v2 := by
  have hap := h.apart
  have hlt := h.lt
  have hog : VG w vv v2 := fun b hb => by
    rcases hg.block with e | e
    · exact .inl (e ▸ hb)
    · have := e b hb; simp only [World.size_alloc] at this; exact .inr (by omega)
  have hch : Ch (RdM g vv) w (w2.setCell ⟨g, 1, none⟩ v2) :=
    (hg.ch ((Ch.refl _ _).alloc _) (fun b hb => .inl (.inr hb))).setCell (p := ⟨g, 1, none⟩) (.inl (.inl rfl)) _
  have hB2 : w2.heap[g]? = _ := (hg.grown.block g (by simp; omega) (fun e => hap e.symm)).trans (blk_alloc h.box _)
  refine ⟨⟨(blk_set hB2 1 _).trans rfl, h.wd.keeps strR_lasts (hch.keeps fun b hb hA e => ?_), hown.kept fun k hk => Below.heap_setCell _ _ _ _ (fun e => ?_), ⟨h.bg.1, Nat.le_trans h.bg.2 hch.size⟩, ?_, h.tok⟩, hch, hog⟩
  · rcases e with rfl | e
    · omega
    · have := (h.vars.lt b e).1; have := h.bg; omega
  · simp only at e
    subst e
    rcases hog _ hk with e | e
    · exact hap e
    · omega
  · simp only [List.length_append, List.length_singleton]; omega
theorem PsStep.trans {p'' : Ps} {w'' : World} (hc : Ch (RdM g vv) w w') (hv : VG w vv vv') (h : PsStep base g vv' p'' w' w'') : PsStep base g vv p'' w w'' := by
  obtain ⟨l2, v2, h1, h2, h3⟩ := h
  exact ⟨l2, v2, h1, hc.trans h2 (VG.rm hv), hv.trans h3 hc.size⟩
end
def psMu (g : Nat) (w : World) : Nat := match w.cell? ⟨g, 0, none⟩ with
  | some (.slice _ n _) => n
  | _ => 0
theorem psMu_of {base g : Nat} {lv vv : Value} {p : Ps} {w : World} (h : PsI base g lv vv p w) : psMu g w = p.l.length := by
  unfold psMu
  rw [h.cells.1]
  obtain ⟨a, cap, b, off, rfl, -⟩ := SlR.at h.wd
  rfl
def PTm (base g : Nat) (vv : Value) (x : Tm × Ps) (w : World) (e : Ending) (w' : World) : Prop :=
  ∃ us lv' vv', e = .returned (.agg us.toArray) ∧ PsI base g lv' vv' x.2 w' ∧ Ch (RdM g vv) w w' ∧ VG w vv vv' ∧ Tm.rep (fun b => w.heap.size ≤ b ∧ ¬ RdM g vv' b) w' x.1 us
theorem str_cells {A : Nat → Prop} {w wr : World} {l : List Str} {b off : Nat} (he : Elems A w 1 (flatR strV strOk) l b off) (hA : A b) (hk : Keeps A w wr) {k : Nat} (hlt : k < l.length) :
    wr.cell? ⟨b, off + k, none⟩ = some (.string (bs l[k])) := by
  obtain ⟨vs, hvl, ⟨hok, rfl⟩, hrow⟩ := he k _ (List.getElem?_eq_getElem hlt)
  have := RowAt.keeps hA hrow hk 0 _ rfl
  rw [Nat.mul_one, Nat.add_zero] at this
  exact this
theorem wd_cons {A : Nat → Prop} {w : World} {t : Str} {r : List Str} {lv : Value} (h : SlR 1 (flatR strV strOk) A w (t :: r) lv) :
    ∃ b off cap, lv = .slice (some ⟨b, off, none⟩) (r.length + 1) cap ∧ r.length + 1 ≤ cap ∧ cap ≤ maxLen ∧ A b ∧ b < w.heap.size ∧ w.cell? ⟨b, off, none⟩ = some (.string (bs t)) ∧
      ∀ a', (cap ≠ 1 → a' = some ⟨b, off + 1, none⟩) → SlR 1 (flatR strV strOk) A w r (.slice a' r.length (cap - 1)) := by
  obtain ⟨a, cap, b, off, rfl, hlc, hcm, hlb, hA, he⟩ := SlR.at h
  obtain ⟨rfl, hAb⟩ := hA (by simp)
  have hc := str_cells he hAb (Keeps.refl _ _) (k := 0) (by simp)
  simp only [List.getElem_cons_zero, Nat.add_zero] at hc
  have hd := SlR.drop h (k := 1) (by simp)
  simp only [List.drop_succ_cons, List.drop_zero, Nat.mul_one, Option.map_some, Addr.add, List.length_cons, Nat.add_sub_cancel] at hd
  refine ⟨b, off, cap, rfl, by simpa using hlc, hcm, hAb, World.block_lt_of_cell? w _ hc, hc, fun a' ha => ?_⟩
  by_cases h1 : cap = 1
  · subst h1
    obtain rfl : r = [] := List.eq_nil_of_length_eq_zero (by simp only [List.length_cons] at hlc; omega)
    exact ⟨0, 0, ⟨by simp, .inl ⟨rfl, a', _, rfl, by simp [maxLen]⟩⟩, fun i x hx => by simp at hx⟩
  · rw [if_neg h1] at hd
    rw [ha h1]
    exact hd
theorem wd_nil {A : Nat → Prop} {w : World} {lv : Value} (h : SlR 1 (flatR strV strOk) A w [] lv) : ∃ a cap, lv = .slice a 0 cap ∧ cap ≤ maxLen := by
  obtain ⟨a, cap, b, off, rfl, hlc, hcm, -⟩ := SlR.at h
  exact ⟨a, cap, rfl, hcm⟩
section
variable {base g : Nat} {lv vv : Value} {p : Ps} {w : World}
set_option maxHeartbeats 2000000 in
theorem pfront_ok (h : PsI base g lv vv p w) : Calls Tryz.prog 118 #[.pointer (some ⟨g, 0, none⟩)] w (fun e w' => e = .returned (.string (bs (p.l.headD []))) ∧ Below w.heap.size w w') := by
  obtain ⟨b0, b1, b2, bf⟩ := h.cells
  have hgl := h.lt.1
  have hw := h.wd
  clear h
  cases hl : p.l with
  | nil =>
    rw [hl] at hw
    obtain ⟨a, cap, rfl, hcm⟩ := wd_nil hw
    clear hw hl
    go_enter Tryz.func118, Tryz.ntmps118
    go_wp2_with fail
    go_ret
    exact ⟨rfl, Below.refl _ _⟩
  | cons t r =>
    rw [hl] at hw
    obtain ⟨b, off, cap, rfl, hlc, hcm, -, hbl, hc, -⟩ := wd_cons hw
    have hz : (((r.length + 1 : Nat) : Int) == 0) = false := by rw [beq_eq_false_iff_ne]; omega
    clear hw hl
    go_enter Tryz.func118, Tryz.ntmps118
    go_wp2_with fail
    go_ret
    exact ⟨rfl, Below.refl _ _⟩
theorem PsI.pop {t : Str} {r : List Str} {lv2 : Value} (h : PsI base g lv vv p w) (hl : p.l = t :: r) (h2 : SlR 1 (flatR strV strOk) (fun b => b < g) w r lv2) :
    PsI base g lv2 vv { p with l := r } (w.setCell ⟨g, 0, none⟩ lv2) ∧ Ch (RdM g vv) w (w.setCell ⟨g, 0, none⟩ lv2) :=
  h.setL h2 (by rw [hl]; simp) (fun t ht => h.tok t (by rw [hl]; exact List.mem_cons_of_mem _ ht))
theorem take_hit {t : Str} {r : List Str} (hl : p.l = t :: r) : p.take t = (true, { p with l := r }) := by unfold Ps.take; rw [hl]; simp
theorem take_miss {t s : Str} {r : List Str} (hl : p.l = t :: r) (h : t ≠ s) : p.take s = (false, p) := by unfold Ps.take; rw [hl]; simp [h]
theorem take_none {s : Str} (hl : p.l = []) : p.take s = (false, p) := by unfold Ps.take; rw [hl]
set_option maxHeartbeats 2000000 in
theorem ptake_ok (sg : Str) (h : PsI base g lv vv p w) : Calls Tryz.prog 80 #[.pointer (some ⟨g, 0, none⟩), .string (bs sg)] w (fun e w' => e = .returned (.bool (p.take sg).1) ∧ PsStep base g vv (p.take sg).2 w w') := by
  have HU := hid h
  obtain ⟨b0, b1, b2, bf⟩ := h.cells
  have hgl := h.lt.1
  have hw := h.wd
  clear h
  cases hl : p.l with
  | nil =>
    rw [hl] at hw
    obtain ⟨a, cap, rfl, hcm⟩ := wd_nil hw
    have HT := hid (take_none (s := sg) hl)
    clear hw hl
    go_enter Tryz.func80, Tryz.ntmps80
    go_wp2_with fail
    go_ret
    rw [HT.out]
    exact ⟨rfl, PsStep.refl HU.out⟩
  | cons t r =>
    rw [hl] at hw
    obtain ⟨b, off, cap, rfl, hlc, hcm, -, hbl, hc, hrest⟩ := wd_cons hw
    have HR := hid hrest
    have HL := hid hl
    unfold maxLen at hcm
    have hlt : (0 : Int) < ((r.length : Int) + 1) := by omega
    have hle : (1 : Int) ≤ ((r.length : Int) + 1) := by omega
    clear hw hl hrest
    by_cases he : t = sg
    · subst he
      have hE : ((bs t).toList == (bs t).toList) = true := by simp
      have HT := hid (take_hit HL.out)
      go_enter Tryz.func80, Tryz.ntmps80
      go_wp2_with fail
      all_goals
        go_ret
        rw [HT.out]
        first
        | (obtain ⟨k1, k2⟩ := HU.out.pop HL.out (HR.out (some ⟨b, off + 1, none⟩) (fun _ => rfl)); exact ⟨rfl, _, _, k1, k2, VG.refl _ _⟩)
        | (obtain rfl : cap = 1 := by assumption
           obtain ⟨k1, k2⟩ := HU.out.pop HL.out (HR.out (some ⟨b, off, none⟩) (fun h => absurd rfl h)); exact ⟨rfl, _, _, k1, k2, VG.refl _ _⟩)
    · have hE : ((bs t).toList == (bs sg).toList) = false := by rw [bs_toList, bs_toList]; simpa using he
      have HT := hid (take_miss HL.out he)
      clear he
      go_enter Tryz.func80, Tryz.ntmps80
      go_wp2_with fail
      go_ret
      rw [HT.out]
      exact ⟨rfl, PsStep.refl HU.out⟩
end
end Go.Proofs.YtlpmfkpefoegeacGreatDoor
