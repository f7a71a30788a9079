/-
  Cells moved: what the places say is kept.
-/
import Derived.Test.YtlpmfkpefoegeabPSolve
import Derived.Test.YtlpmfkpefoegeabHCol
import Derived.Test.YtlpmfkpefoegeabHBack
import Derived.Test.YtlpmfkpefoegeabPMUni
namespace Go.Proofs.Ytlpmfkpefoegeab
set_option linter.unusedVariables false
set_option linter.unusedSimpArgs false
section
variable {h : Hp} {roots : List Int}
def RP (h : Hp) (roots : List Int) (a : Int) : Prop := 0 ≤ a ∧ Reach h.cells roots a.toNat
theorem RP.nat {a : Int} (hr : RP h roots a) (hg : GoodC h.cells) : ∃ k : Nat, a = (k : Int) ∧ k < h.cells.length ∧ Reach h.cells roots k := by
  obtain ⟨h0, h1⟩ := hr
  obtain ⟨k, rfl⟩ := Int.eq_ofNat_of_zero_le h0
  rw [Int.toNat_natCast] at h1
  exact ⟨k, rfl, h1.lt hg, h1⟩
theorem RP.of {k : Nat} (hr : Reach h.cells roots k) : RP h roots (k : Int) := ⟨Int.natCast_nonneg _, by rw [Int.toNat_natCast]; exact hr⟩
theorem ahead_nat (m : List Bool) (k : Nat) : ahead m (k : Int) = (cnt m k : Nat) := by unfold ahead; rw [Int.toNat_natCast]
theorem gc_cell (hg : GoodC h.cells) {a : Int} (hr : RP h roots a) : cellAt (gcH h roots).cells (ahead (marks h.cells roots) a) = adj (marks h.cells roots) (cellAt h.cells a) := by
  obtain ⟨k, rfl, hk, hr⟩ := hr.nat hg
  rw [ahead_nat, gcH_cells k hk hr]
theorem gc_inb (hg : GoodC h.cells) {a : Int} (hr : RP h roots a) : Inb (gcH h roots).cells (ahead (marks h.cells roots) a) ∧ Inb h.cells a := by
  obtain ⟨k, rfl, hk, hr⟩ := hr.nat hg
  have := gcH_lt (h := h) hk hr
  rw [ahead_nat]
  unfold Inb
  omega
theorem RP.next (hg : GoodC h.cells) {a : Int} (hr : RP h roots a) (hk : (cellAt h.cells a).kind = 0) : RP h roots (cellAt h.cells a).n := by
  obtain ⟨k, rfl, hkl, hr⟩ := hr.nat hg
  have h1 := hg k hkl
  rw [cellAt_nat hkl] at hk ⊢
  unfold Ce.OkAt at h1
  obtain ⟨m, hm⟩ := Int.eq_ofNat_of_zero_le (show 0 ≤ h.cells[k].n by omega)
  rw [hm]
  exact RP.of (.step hr (.inl (by rw [cellAt_nat hkl]; exact ⟨hk, hm⟩)))
theorem gc_args (hg : GoodC h.cells) {a : Int} (hr : RP h roots a) (hk : (cellAt h.cells a).kind = 3) :
    argsAt (ahead (marks h.cells roots) a) (cellAt h.cells a).n = (argsAt a (cellAt h.cells a).n).map (ahead (marks h.cells roots)) ∧ ∀ x ∈ argsAt a (cellAt h.cells a).n, RP h roots x := by
  obtain ⟨k, rfl, hkl, hr⟩ := hr.nat hg
  have h1 := hg k hkl
  have hk' := hk
  rw [cellAt_nat hkl] at hk'
  unfold Ce.OkAt at h1
  have hn : 0 ≤ (cellAt h.cells (k : Int)).n := by rw [cellAt_nat hkl]; omega
  obtain ⟨n, hn⟩ := Int.eq_ofNat_of_zero_le hn
  rw [hn]
  have key : ∀ i, i < n → cnt (marks h.cells roots) (k + 1 + i) = cnt (marks h.cells roots) k + 1 + i ∧ Reach h.cells roots (k + 1 + i) := fun i hi => by
    refine ⟨(gcH_args hg hkl hr hk i (by omega)).1, ?_⟩
    have := (gcH_args hg hkl hr hk (i + 1) (by omega)).2 (by omega)
    rw [show k + 1 + i = k + (i + 1) by omega]
    exact this
  constructor
  · unfold argsAt
    rw [List.map_map]
    refine List.map_congr_left fun i hi => ?_
    rw [List.mem_range, Int.toNat_natCast] at hi
    obtain ⟨k1, k2⟩ := key i hi
    simp only [Function.comp_apply]
    rw [show (k : Int) + 1 + (i : Nat) = ((k + 1 + i : Nat) : Int) by omega, ahead_nat, ahead_nat, k1]
    omega
  · intro x hx
    unfold argsAt at hx
    obtain ⟨i, hi, rfl⟩ := List.mem_map.1 hx
    rw [List.mem_range, Int.toNat_natCast] at hi
    rw [show (k : Int) + 1 + (i : Nat) = ((k + 1 + i : Nat) : Int) by omega]
    exact RP.of (key i hi).2
end
def mvC (mv : Int → Int) (c : Ce) : Ce := if c.kind = 0 then { c with n := mv c.n } else c
structure Mor (l l' : List Ce) (S : Int → Prop) (mv : Int → Int) : Prop where
  inb : ∀ a, S a → Inb l a ∧ Inb l' (mv a)
  cell : ∀ a, S a → cellAt l' (mv a) = mvC mv (cellAt l a)
  next : ∀ a, S a → (cellAt l a).kind = 0 → S (cellAt l a).n
  args : ∀ a, S a → (cellAt l a).kind = 3 → ∀ i : Nat, (i : Int) < (cellAt l a).n → S (a + 1 + (i : Nat)) ∧ mv (a + 1 + (i : Nat)) = mv a + 1 + (i : Nat)
  lt : ∀ a b, S a → S b → a < b → mv a < mv b
section
variable {l l' : List Ce} {S : Int → Prop} {mv : Int → Int} {φ φ' : Int → Int} {E : Env} {K K' : Int → Prop} {N : Int}
theorem Mor.inj (h : Mor l l' S mv) {a b : Int} (ha : S a) (hb : S b) (e : mv a = mv b) : a = b := by
  rcases Int.lt_trichotomy a b with h1 | h1 | h1
  · have := h.lt a b ha hb h1; omega
  · exact h1
  · have := h.lt b a hb ha h1; omega
theorem mvC_kind (mv : Int → Int) (c : Ce) : (mvC mv c).kind = c.kind := by unfold mvC; split <;> rfl
theorem mvC_s (mv : Int → Int) (c : Ce) : (mvC mv c).s = c.s := by unfold mvC; split <;> rfl
theorem mvC_n (mv : Int → Int) {c : Ce} (h : c.kind ≠ 0) : (mvC mv c).n = c.n := by unfold mvC; rw [if_neg h]
theorem mvC_n0 (mv : Int → Int) {c : Ce} (h : c.kind = 0) : (mvC mv c).n = mv c.n := by unfold mvC; rw [if_pos h]
theorem Mor.stop (h : Mor l l' S mv) {a : Int} (ha : S a) : Stop l' (mv a) ↔ Stop l a := by
  unfold Stop
  rw [h.cell a ha, mvC_kind]
  by_cases hk : (cellAt l a).kind = 0
  · rw [mvC_n0 mv hk]
    constructor
    · rintro (e | e)
      · exact .inl e
      · exact .inr (h.inj (h.next a ha hk) ha e)
    · rintro (e | e)
      · exact .inl e
      · exact .inr (by rw [e])
  · exact ⟨fun _ => .inl hk, fun _ => .inl hk⟩
theorem Mor.looks (h : Mor l l' S mv) {a x : Int} (hl : Looks l a x) (ha : S a) : Looks l' (mv a) (mv x) ∧ S x := by
  induction hl with
  | stop h1 h2 => exact ⟨.stop (h.inb _ ha).2 ((h.stop ha).2 h2), ha⟩
  | @next a x h1 h2 _ ih =>
    have hk : (cellAt l a).kind = 0 := Classical.byContradiction fun hk => h2 (.inl hk)
    obtain ⟨k1, k2⟩ := ih (h.next a ha hk)
    refine ⟨.next (h.inb _ ha).2 (fun hs => h2 ((h.stop ha).1 hs)) ?_, k2⟩
    rw [h.cell a ha, mvC_n0 mv hk]; exact k1
theorem Mor.free (h : Mor l l' S mv) {a : Int} (ha : S a) : Free l' (mv a) ↔ Free l a := by
  unfold Free
  rw [h.cell a ha, mvC_kind]
  by_cases hk : (cellAt l a).kind = 0
  · rw [mvC_n0 mv hk]
    exact ⟨fun ⟨_, _, e⟩ => ⟨(h.inb a ha).1, hk, h.inj (h.next a ha hk) ha e⟩, fun ⟨_, _, e⟩ => ⟨(h.inb a ha).2, hk, by rw [e]⟩⟩
  · exact ⟨fun ⟨_, e, _⟩ => absurd e hk, fun ⟨_, e, _⟩ => absurd e hk⟩
theorem Mor.hr (h : Mor l l' S mv) (hφ : ∀ x, S x → Free l x → K x → φ' (mv x) = φ x ∧ K' (mv x)) {a : Int} {t : Tm} (hr : Hr l φ E K a t) : S a → Hr l' φ' E K' (mv a) t := by
  induction hr with
  | @var a x t h1 h2 h3 h4 h5 =>
    intro ha
    obtain ⟨k1, k2⟩ := h.looks h1 ha
    obtain ⟨k3, k4⟩ := hφ x k2 (h1.free h2) h3
    exact .var k1 (by rw [h.cell x k2, mvC_kind]; exact h2) k4 h4 (by rw [k3]; exact h5)
  | @leaf a x t h1 h2 h3 h4 h5 h6 h7 =>
    intro ha
    obtain ⟨k1, k2⟩ := h.looks h1 ha
    have hk : (cellAt l x).kind ≠ 0 := by rw [h2]; exact h3
    exact .leaf k1 (by rw [h.cell x k2, mvC_kind]; exact h2) h3 h4 (by rw [h.cell x k2, mvC_n mv hk]; exact h5) (by rw [h.cell x k2, mvC_s]; exact h6) h7
  | @comp a x t h1 h2 h3 h4 h5 h6 h7 ih =>
    intro ha
    obtain ⟨k1, k2⟩ := h.looks h1 ha
    have hk : (cellAt l x).kind ≠ 0 := by rw [h2]; decide
    refine .comp k1 (by rw [h.cell x k2, mvC_kind]; exact h2) h3 h4 (by rw [h.cell x k2, mvC_n mv hk]; exact h5) (by rw [h.cell x k2, mvC_s]; exact h6) fun i hi => ?_
    obtain ⟨q1, q2⟩ := h.args x k2 h2 i (by rw [h5]; omega)
    rw [← q2]
    exact ih i hi q1
open Classical in
/-- where a place came from -/
noncomputable def cameM (S : Int → Prop) (mv : Int → Int) (y : Int) : Int := if h : ∃ x, S x ∧ mv x = y then Classical.choose h else 0
theorem Mor.back (h : Mor l l' S mv) {a : Int} (ha : S a) : cameM S mv (mv a) = a := by
  have he : ∃ x, S x ∧ mv x = mv a := ⟨a, ha, rfl⟩
  unfold cameM
  rw [dif_pos he]
  obtain ⟨h1, h2⟩ := Classical.choose_spec he
  exact h.inj h1 ha h2
theorem Mor.all (h : Mor l l' S mv) (hsur : ∀ y, Inb l' y → ∃ x, S x ∧ mv x = y) (hM : Mon N l φ E) : Mon N l' (fun y => φ (cameM S mv y)) E ∧ ∀ a t, S a → Hr l φ E (fun _ => True) a t → Hr l' (fun y => φ (cameM S mv y)) E (fun _ => True) (mv a) t := by
  refine ⟨⟨fun x y hx hy hlt => ?_, fun x hx => ?_, fun x hx => ?_⟩, fun a t ha hr => h.hr (fun x hx _ _ => ⟨by rw [h.back hx], trivial⟩) hr ha⟩
  · obtain ⟨a, ha, rfl⟩ := hsur x hx.1
    obtain ⟨b, hb, rfl⟩ := hsur y hy.1
    rw [h.back ha, h.back hb]
    refine hM.lt a b ((h.free ha).1 hx) ((h.free hb).1 hy) ?_
    rcases Int.lt_trichotomy a b with h1 | h1 | h1
    · exact h1
    · subst h1; omega
    · have := h.lt b a hb ha h1; omega
  · obtain ⟨a, ha, rfl⟩ := hsur x hx.1
    rw [h.back ha]; exact hM.bd a ((h.free ha).1 hx)
  · obtain ⟨a, ha, rfl⟩ := hsur x hx.1
    rw [h.back ha]; exact hM.free a ((h.free ha).1 hx)
end
def oldH (h : Hp) (top tr : Nat) : Hp := ⟨(undoC h.cells (h.trail.drop tr)).take top, h.trail.take tr⟩
def keptP (m : List Bool) (v : Int) : Bool := (m[v.toNat]?).getD false
theorem colT_filter (m : List Bool) (t : List Int) : ∀ (k : Nat), k ≤ t.length → colT m t k = ((t.take k).filter (keptP m)).map (ahead m)
  | 0, _ => by simp [colT]
  | k + 1, hk => by
    have hlt : k < t.length := by omega
    rw [List.take_succ_eq_append_getElem hlt, List.filter_append, List.map_append, ← colT_filter m t k (by omega), colT]
    have e : (trailM m t)[k]? = some (keptP m t[k]) := by unfold trailM; rw [List.getElem?_map, List.getElem?_eq_getElem hlt]; rfl
    rw [e]
    cases hq : keptP m t[k] with
    | true => rw [if_pos rfl, List.getElem?_eq_getElem hlt]; simp [hq]
    | false => rw [if_neg (by simp)]; simp [hq]
section
variable {h : Hp} {roots : List Int}
theorem gc_mor (hg : h.Good) : Mor h.cells (gcH h roots).cells (RP h roots) (ahead (marks h.cells roots)) := by
  refine ⟨fun a ha => ⟨(gc_inb hg.1 ha).2, (gc_inb hg.1 ha).1⟩, fun a ha => gc_cell hg.1 ha, fun a ha hk => ha.next hg.1 hk, fun a ha hk i hi => ?_, fun a b ha hb hlt => ?_⟩
  · obtain ⟨h1, h2⟩ := gc_args hg.1 ha hk
    have hm : a + 1 + (i : Nat) ∈ argsAt a (cellAt h.cells a).n := by
      unfold argsAt
      exact List.mem_map.2 ⟨i, List.mem_range.2 (by omega), rfl⟩
    refine ⟨h2 _ hm, ?_⟩
    have h3 := congrArg (fun l => l[i]?) h1
    unfold argsAt at h3
    simp only [List.getElem?_map, List.getElem?_range (show i < (cellAt h.cells a).n.toNat by omega), Option.map_some, Option.some.injEq] at h3
    exact h3.symm
  · obtain ⟨k, rfl, hk, ha⟩ := ha.nat hg.1
    obtain ⟨m, rfl, hm, hb⟩ := hb.nat hg.1
    rw [ahead_nat, ahead_nat]
    have := cnt_lt (m := marks h.cells roots) (i := k) (j := m) (by omega) ((marks_get hk).2 ha)
    omega
theorem gc_sur (hg : h.Good) : ∀ y, Inb (gcH h roots).cells y → ∃ x, RP h roots x ∧ ahead (marks h.cells roots) x = y := by
  intro y hy
  obtain ⟨k, rfl⟩ := Int.eq_ofNat_of_zero_le hy.1
  obtain ⟨i, h1, h2, h3⟩ := gcH_sur (h := h) (roots := roots) (j := k) (by have := hy.2; omega)
  exact ⟨(i : Int), RP.of h2, by rw [ahead_nat, h3]⟩
theorem kept_trail (hg : h.Good) {v : Int} (hv : v ∈ h.trail) : keptP (marks h.cells roots) v = true ↔ RP h roots v := by
  obtain ⟨j, hj, rfl⟩ := List.mem_iff_getElem.1 hv
  obtain ⟨k, e, hk, -⟩ := hg.2.1 j hj
  rw [e]
  unfold keptP RP
  rw [Int.toNat_natCast]
  constructor
  · intro h1
    refine ⟨Int.natCast_nonneg _, (marks_get hk).1 ?_⟩
    cases hq : (marks h.cells roots)[k]? with
    | none => rw [hq] at h1; simp at h1
    | some b => rw [hq] at h1; simp only [Option.getD_some] at h1; rw [h1]
  · intro h1
    rw [(marks_get hk).2 h1.2]; rfl
theorem gc_trail (tr : Nat) (htr : tr ≤ h.trail.length) :
    (gcH h roots).trail.take (cnt (trailM (marks h.cells roots) h.trail) tr) = ((h.trail.take tr).filter (keptP (marks h.cells roots))).map (ahead (marks h.cells roots)) ∧
    (gcH h roots).trail.drop (cnt (trailM (marks h.cells roots) h.trail) tr) = ((h.trail.drop tr).filter (keptP (marks h.cells roots))).map (ahead (marks h.cells roots)) := by
  have h1 : (gcH h roots).trail = (h.trail.filter (keptP (marks h.cells roots))).map (ahead (marks h.cells roots)) := by
    show colT _ _ _ = _
    rw [colT_filter _ _ _ (Nat.le_refl _), List.take_length]
  have h2 : cnt (trailM (marks h.cells roots) h.trail) tr = (((h.trail.take tr).filter (keptP (marks h.cells roots))).map (ahead (marks h.cells roots))).length := by
    rw [← colT_len, colT_filter _ _ _ htr]
  have h3 : (h.trail.filter (keptP (marks h.cells roots))).map (ahead (marks h.cells roots)) = ((h.trail.take tr).filter (keptP (marks h.cells roots))).map (ahead (marks h.cells roots)) ++ ((h.trail.drop tr).filter (keptP (marks h.cells roots))).map (ahead (marks h.cells roots)) := by
    rw [← List.map_append, ← List.filter_append, List.take_append_drop]
  rw [h1, h2, h3]
  exact ⟨List.take_left' rfl, List.drop_left' rfl⟩
theorem oldH_len (top tr : Nat) (htop : top ≤ h.cells.length) : (oldH h top tr).cells.length = top := by
  show ((undoC _ _).take top).length = top
  rw [List.length_take, undoC_len]; omega
theorem cellAt_old {top tr : Nat} {a : Int} (htop : top ≤ h.cells.length) (h0 : 0 ≤ a) (h1 : a < top) : cellAt (oldH h top tr).cells a = if a ∈ h.trail.drop tr then { cellAt h.cells a with n := a } else cellAt h.cells a := by
  obtain ⟨k, rfl⟩ := Int.eq_ofNat_of_zero_le h0
  have hk : k < (oldH h top tr).cells.length := by rw [oldH_len top tr htop]; omega
  have hk2 : k < h.cells.length := by omega
  rw [cellAt_nat hk, cellAt_nat hk2]
  have hk' : k < ((undoC h.cells (h.trail.drop tr)).take top).length := hk
  show ((undoC h.cells (h.trail.drop tr)).take top)[k]'hk' = _
  rw [List.getElem_take, undoC_get]
theorem old_mor (hg : h.Good) {top tr : Nat} (htop : top ≤ h.cells.length) (htr : tr ≤ h.trail.length) (ho : (oldH h top tr).Good) :
    Mor (oldH h top tr).cells (oldH (gcH h roots) (cnt (marks h.cells roots) top) (cnt (trailM (marks h.cells roots) h.trail) tr)).cells (fun a => RP h roots a ∧ a < top) (ahead (marks h.cells roots)) ∧
    (∀ y, Inb (oldH (gcH h roots) (cnt (marks h.cells roots) top) (cnt (trailM (marks h.cells roots) h.trail) tr)).cells y → ∃ x, (RP h roots x ∧ x < top) ∧ ahead (marks h.cells roots) x = y) := by
  have hlen := oldH_len (h := h) top tr htop
  have htop' : cnt (marks h.cells roots) top ≤ (gcH h roots).cells.length := by
    show _ ≤ (colC _ _ _).length
    rw [colC_len]; exact cnt_mono' htop
  have hlen' := oldH_len (h := gcH h roots) (cnt (marks h.cells roots) top) (cnt (trailM (marks h.cells roots) h.trail) tr) htop'
  have hM := gc_mor (roots := roots) hg
  have hin : ∀ a, RP h roots a → a < top → 0 ≤ ahead (marks h.cells roots) a ∧ ahead (marks h.cells roots) a < (cnt (marks h.cells roots) top : Nat) := fun a ha hlt => by
    obtain ⟨k, rfl, hk, hr⟩ := ha.nat hg.1
    rw [ahead_nat]
    have := cnt_lt (m := marks h.cells roots) (i := k) (j := top) (by omega) ((marks_get hk).2 hr)
    omega
  -- what is undone there is undone here
  have hun : ∀ a, RP h roots a → (ahead (marks h.cells roots) a ∈ (gcH h roots).trail.drop (cnt (trailM (marks h.cells roots) h.trail) tr) ↔ a ∈ h.trail.drop tr) := fun a ha => by
    rw [(gc_trail tr htr).2]
    constructor
    · intro hm
      obtain ⟨x, hx, e⟩ := List.mem_map.1 hm
      obtain ⟨hx1, hx2⟩ := List.mem_filter.1 hx
      rw [← hM.inj ((kept_trail hg (List.mem_of_mem_drop hx1)).1 hx2) ha e]
      exact hx1
    · intro hm
      exact List.mem_map.2 ⟨a, List.mem_filter.2 ⟨hm, (kept_trail hg (List.mem_of_mem_drop hm)).2 ha⟩, rfl⟩
  have htk : ∀ a, a ∈ h.trail → (cellAt h.cells a).kind = 0 := fun a ha => by
    obtain ⟨j, hj, rfl⟩ := List.mem_iff_getElem.1 ha
    obtain ⟨k, e, hk, hk0⟩ := hg.2.1 j hj
    rw [e, cellAt_nat hk]; exact hk0
  have hok : ∀ a : Int, 0 ≤ a → a < (top : Int) → (cellAt (oldH h top tr).cells a).OkAt top a.toNat := fun a h0 h1 => by
    obtain ⟨k, rfl⟩ := Int.eq_ofNat_of_zero_le h0
    have hk : k < (oldH h top tr).cells.length := by omega
    have := ho.1 k hk
    rw [cellAt_nat hk, Int.toNat_natCast]
    rwa [hlen] at this
  refine ⟨⟨fun a ⟨ha, hlt⟩ => ⟨⟨ha.1, by omega⟩, by have := hin a ha hlt; unfold Inb; omega⟩, fun a ⟨ha, hlt⟩ => ?_, fun a ⟨ha, hlt⟩ hk => ?_, fun a ⟨ha, hlt⟩ hk i hi => ?_, fun a b ha hb hlt => hM.lt a b ha.1 hb.1 hlt⟩, fun y hy => ?_⟩
  · obtain ⟨q1, q2⟩ := hin a ha hlt
    rw [cellAt_old htop' q1 q2, cellAt_old htop ha.1 hlt, hM.cell a ha]
    by_cases hm : a ∈ h.trail.drop tr
    · rw [if_pos hm, if_pos ((hun a ha).2 hm)]
      have hk := htk a (List.mem_of_mem_drop hm)
      unfold mvC
      rw [if_pos hk, if_pos hk]
    · rw [if_neg hm, if_neg (fun h => hm ((hun a ha).1 h))]
  · have h1 := hok a ha.1 hlt
    rw [cellAt_old htop ha.1 hlt] at h1 hk ⊢
    by_cases hm : a ∈ h.trail.drop tr
    · rw [if_pos hm]; exact ⟨ha, hlt⟩
    · rw [if_neg hm] at h1 hk ⊢
      unfold Ce.OkAt at h1
      exact ⟨hM.next a ha hk, by omega⟩
  · have h1 := hok a ha.1 hlt
    rw [cellAt_old htop ha.1 hlt] at h1 hk hi
    have hm : ¬ a ∈ h.trail.drop tr := fun hm => by
      rw [if_pos hm] at hk
      have := htk a (List.mem_of_mem_drop hm)
      simp only at hk
      omega
    rw [if_neg hm] at h1 hk hi
    obtain ⟨k1, k2⟩ := hM.args a ha hk i hi
    unfold Ce.OkAt at h1
    have := ha.1
    exact ⟨⟨k1, by omega⟩, k2⟩
  · obtain ⟨j, rfl⟩ := Int.eq_ofNat_of_zero_le hy.1
    have hj : j < cnt (marks h.cells roots) top := by have := hy.2; omega
    obtain ⟨i, h1, h2, h3⟩ := cnt_sur _ _ hj
    exact ⟨(i : Int), ⟨RP.of ((marks_get (by omega)).1 h2), by omega⟩, by rw [ahead_nat, h3]⟩
theorem Mor.good {l l' : List Ce} {S : Int → Prop} {mv : Int → Int} (hM : Mor l l' S mv) (hsur : ∀ y, Inb l' y → ∃ x, S x ∧ mv x = y) (hg : GoodC l) : GoodC l' := by
  intro i hi
  obtain ⟨x, hx, e⟩ := hsur (i : Int) ⟨Int.natCast_nonneg _, by omega⟩
  have h1 := hM.cell x hx
  rw [e, cellAt_nat hi] at h1
  obtain ⟨k, rfl, hk, hc⟩ := cellAt_eq (hM.inb x hx).1
  have h2 := hg k hk
  rw [h1]
  have hnext := hM.next _ hx
  have hargs := hM.args _ hx
  rw [hc] at hnext hargs ⊢
  unfold Ce.OkAt at h2 ⊢
  rcases h2 with ⟨a1, a2, a3, a4⟩ | ⟨a1, a2, a3⟩ | ⟨a1, a2⟩ | ⟨a1, a2, a3, a4, a5⟩
  · left
    have hb := (hM.inb _ (hnext a1)).2
    unfold Inb at hb
    rw [mvC_kind, mvC_s, mvC_n0 mv a1]
    exact ⟨a1, hb.1, hb.2, a4⟩
  · right; left
    rw [mvC_kind, mvC_s, mvC_n mv (by omega)]
    exact ⟨a1, a2, a3⟩
  · right; right; left
    rw [mvC_kind, mvC_s]
    exact ⟨a1, a2⟩
  · right; right; right
    rw [mvC_kind, mvC_s, mvC_n mv (by omega)]
    obtain ⟨k1, k2⟩ := hargs a1 ((l[k]).n.toNat - 1) (by omega)
    have hb := (hM.inb _ k1).2
    unfold Inb at hb
    exact ⟨a1, a2, a3, by omega, a5⟩
theorem old_good (hg : h.Good) {top tr : Nat} (htop : top ≤ h.cells.length) (htr : tr ≤ h.trail.length) (ho : (oldH h top tr).Good) :
    (oldH (gcH h roots) (cnt (marks h.cells roots) top) (cnt (trailM (marks h.cells roots) h.trail) tr)).Good := by
  obtain ⟨hM, hsur⟩ := old_mor (roots := roots) hg htop htr ho
  have hgg := gcH_good (roots := roots) hg
  have hlen := oldH_len (h := h) top tr htop
  refine ⟨hM.good hsur ho.1, fun j hj => ?_, ?_, ?_⟩
  · have e : (oldH (gcH h roots) (cnt (marks h.cells roots) top) (cnt (trailM (marks h.cells roots) h.trail) tr)).trail = _ := (gc_trail tr htr).1
    have hm : (oldH (gcH h roots) (cnt (marks h.cells roots) top) (cnt (trailM (marks h.cells roots) h.trail) tr)).trail[j] ∈ ((h.trail.take tr).filter (keptP (marks h.cells roots))).map (ahead (marks h.cells roots)) := e ▸ List.getElem_mem hj
    obtain ⟨x, hx, ex⟩ := List.mem_map.1 hm
    obtain ⟨hx1, hx2⟩ := List.mem_filter.1 hx
    have hxt := (kept_trail (roots := roots) hg (List.mem_of_mem_take hx1)).1 hx2
    obtain ⟨i, hi, ei⟩ := List.mem_iff_getElem.1 (show x ∈ (oldH h top tr).trail from hx1)
    obtain ⟨k, ek, hk, hk0⟩ := ho.2.1 i hi
    have hxk : x = (k : Int) := ei.symm.trans ek
    have hS : RP h roots x ∧ x < top := ⟨hxt, by omega⟩
    have hb := (hM.inb x hS).2
    obtain ⟨m, hm, hml, hmc⟩ := cellAt_eq hb
    refine ⟨m, by rw [← hm]; exact ex.symm, hml, ?_⟩
    rw [← hmc, hM.cell x hS, mvC_kind, hxk, cellAt_nat hk]
    exact hk0
  · show ((undoC _ _).take _).length ≤ _
    rw [List.length_take, undoC_len]
    have := hgg.2.2.1
    omega
  · show (List.take _ _).length ≤ _
    rw [List.length_take]
    have := hgg.2.2.2
    omega
end
end Go.Proofs.Ytlpmfkpefoegeab
