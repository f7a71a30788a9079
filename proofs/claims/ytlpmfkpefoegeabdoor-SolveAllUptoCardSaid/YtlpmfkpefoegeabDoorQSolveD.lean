/-
  The document's prover in memory: the prover itself; end.
  The solver: undo.
-/
import Derived.Test.YtlpmfkpefoegeabDoorQProvW
import Derived.Test.YtlpmfkpefoegeabDoorQSolveE
namespace Go.Proofs.YtlpmfkpefoegeabDoor
set_option linter.unusedVariables false
set_option linter.unusedSimpArgs false
open Go.RowKit
def TdQ (A : Nat → Prop) (w : World) : List Td → Value → Prop
  | [], v => v = .pointer none
  | g :: r, v => ∃ b a cap rv, v = .pointer (some ⟨b, 0, none⟩) ∧ A b ∧ w.heap[b]? = some (.cells #[.int .i64 g.t.kind, .int .i64 g.t.n, .string g.t.s, .slice a g.t.args.length cap, .int .i64 (g.call : Int), rv] 97 (0, 0)) ∧
      Tm.rep A w g.t [.int .i64 g.t.kind, .int .i64 g.t.n, .string g.t.s, .slice a g.t.args.length cap] ∧ TdQ A w r rv
theorem TdQ.keeps {A : Nat → Prop} {w w' : World} : ∀ {l : List Td} {v : Value}, TdQ A w l v → Keeps A w w' → TdQ A w' l v
  | [], v, h, _ => h
  | g :: r, v, h, hk => by
    obtain ⟨b, a, cap, rv, h1, h2, h3, h4, h5⟩ := h
    exact ⟨b, a, cap, rv, h1, h2, blk_keeps h3 hk h2, Tm.rep_lasts.1 _ _ _ _ _ h4 hk, TdQ.keeps h5 hk⟩
theorem TdQ.mono {A A' : Nat → Prop} {w : World} : ∀ {l : List Td} {v : Value}, TdQ A w l v → (∀ b, b < w.heap.size → A b → A' b) → TdQ A' w l v
  | [], v, h, _ => h
  | g :: r, v, h, hk => by
    obtain ⟨b, a, cap, rv, h1, h2, h3, h4, h5⟩ := h
    exact ⟨b, a, cap, rv, h1, hk b (blk_lt h3) h2, h3, Tm.rep_lasts.2.1 _ _ _ _ _ h4 hk, TdQ.mono h5 hk⟩
theorem TdQ.ptr {A : Nat → Prop} {w : World} {l : List Td} {v : Value} (h : TdQ A w l v) : ∃ p, v = .pointer p := by
  cases l with
  | nil => exact ⟨none, h⟩
  | cons g r => obtain ⟨b, _, _, _, rfl, _⟩ := h; exact ⟨_, rfl⟩
def PM (g : Nat) (ov : Value) (b : Nat) : Prop := b = g ∨ ownB ov = some b
def PA (g : Nat) (ov : Value) (b : Nat) : Prop := ¬ PM g ov b
structure PvI (base : Nat) (P : List Cl) (q g : Nat) (pv ov : Value) (p : Pv) (w : World) : Prop where
  box : w.heap[g]? = some (.cells #[pv, .int .i64 (q : Int), .int .i64 (p.fuel : Int), .int .i64 p.vars, ov, .bool p.ended, .int .i64 (p.calls : Int)] 94 (0, 0))
  prog : ClsR (fun b => b < base) w P pv
  out : OwnR w base 69 2 evR (PA g ov) p.out ov
  bg : base ≤ g
  v0 : 0 ≤ p.vars
  v1 : p.vars ≤ 1000000
  fu : p.fuel ≤ 150
  qq : q ≤ 8
  cl : p.calls ≤ 1000000
  out13 : p.out.length ≤ 20
theorem box7 {w : World} {g : Nat} {E : TypeId} {v0 v1 v2 v3 v4 v5 v6 : Value} (h : w.heap[g]? = some (.cells #[v0, v1, v2, v3, v4, v5, v6] E (0, 0))) :
    w.cell? ⟨g, 0, none⟩ = some v0 ∧ w.cell? ⟨g, 1, none⟩ = some v1 ∧ w.cell? ⟨g, 2, none⟩ = some v2 ∧ w.cell? ⟨g, 3, none⟩ = some v3 ∧ w.cell? ⟨g, 4, none⟩ = some v4 ∧ w.cell? ⟨g, 5, none⟩ = some v5 ∧ w.cell? ⟨g, 6, none⟩ = some v6 ∧ ∀ o, w.frozen? ⟨g, o, none⟩ = false :=
  ⟨(blk_cell h 0).trans rfl, (blk_cell h 1).trans rfl, (blk_cell h 2).trans rfl, (blk_cell h 3).trans rfl, (blk_cell h 4).trans rfl, (blk_cell h 5).trans rfl, (blk_cell h 6).trans rfl, fun o => by simp [World.frozen?, h]⟩
section
variable {base : Nat} {P : List Cl} {q g : Nat} {pv ov ov' : Value} {p p' : Pv} {w w' : World}
theorem PvI.og (h : PvI base P q g pv ov p w) : ownB ov ≠ some g := fun e => by
  obtain ⟨c, hc⟩ := h.out.ty e
  have := blk_ty h.box hc
  exact absurd this (by decide)
theorem PvI.lt (h : PvI base P q g pv ov p w) : g < w.heap.size ∧ base ≤ w.heap.size := ⟨blk_lt h.box, by have := blk_lt h.box; have := h.bg; omega⟩
theorem PvI.pm_lt (h : PvI base P q g pv ov p w) : ∀ b, PM g ov b → base ≤ b ∧ b < w.heap.size := by
  rintro b (rfl | hb)
  · exact ⟨h.bg, h.lt.1⟩
  · exact h.out.lt b hb
theorem PvI.vals (h : PvI base P q g pv ov p w) : ∃ pa pc oa oc, pv = .slice pa P.length pc ∧ ov = .slice oa p.out.length oc ∧ P.length ≤ pc ∧ pc ≤ maxLen ∧ p.out.length ≤ oc ∧ oc ≤ maxLen := by
  obtain ⟨pa, pc, _, _, rfl, p1, p2, -⟩ := SlR.at h.prog
  obtain ⟨oa, oc, rfl, o1, o2⟩ := OwnR.val' h.out
  exact ⟨pa, pc, oa, oc, rfl, rfl, p1, p2, o1, o2⟩
theorem PvI.below (h : PvI base P q g pv ov p w) (hb : Below w.heap.size w w') : PvI base P q g pv ov p w' := by
  obtain ⟨h1, h2, h3, h4, h5, h6, h7, h8, h9, h10⟩ := h
  exact ⟨blk_below h1 hb, SlR.keeps Cl.rep_lasts h2 (Keeps.of_below hb), h3.below evR_lasts hb, h4, h5, h6, h7, h8, h9, h10⟩
def PStep (base : Nat) (P : List Cl) (q g : Nat) (pv ov : Value) (p' : Pv) (w w' : World) : Prop :=
  ∃ ov', PvI base P q g pv ov' p' w' ∧ Ch (PM g ov) w w' ∧ (∀ b, ownB ov' = some b → ownB ov = some b ∨ w.heap.size ≤ b)
theorem PStep.refl (h : PvI base P q g pv ov p w) : PStep base P q g pv ov p w w := ⟨ov, h, Ch.refl _ _, fun b h => .inl h⟩
theorem PStep.trans {w'' : World} (hch : Ch (PM g ov) w w') (ho : ∀ b, ownB ov' = some b → ownB ov = some b ∨ w.heap.size ≤ b) (h : PStep base P q g pv ov' p' w' w'') : PStep base P q g pv ov p' w w'' := by
  obtain ⟨o2, h1, h2, h3⟩ := h
  have hs := hch.size
  refine ⟨o2, h1, hch.trans h2 (fun b hb => ?_), fun b hb => ?_⟩
  · rcases hb with hb | hb
    · exact .inl (.inl hb)
    · exact (ho b hb).imp .inr id
  · exact (h3 b hb).elim (fun e => ho b e) (fun e => .inr (Nat.le_trans hs e))
theorem pa_mid (hc : Ch (PM g ov) w w') (ho : ∀ b, ownB ov' = some b → ownB ov = some b ∨ w.heap.size ≤ b) :
    Keeps (fun b => PA g ov b ∧ b < w.heap.size) w w' ∧ ∀ b, (PA g ov b ∧ b < w.heap.size) → PA g ov' b := by
  refine ⟨hc.keeps fun b _ hb e => hb.1 e, fun b hb e => ?_⟩
  rcases e with e | e
  · exact hb.1 (.inl e)
  · rcases ho b e with e | e
    · exact hb.1 (.inr e)
    · have := hb.2; omega
theorem EnvQ.move {l : List (Int × Tm)} {v : Value} (h : EnvQ (PA g ov) w l v) (hc : Ch (PM g ov) w w') (ho : ∀ b, ownB ov' = some b → ownB ov = some b ∨ w.heap.size ≤ b) : EnvQ (PA g ov') w' l v := by
  obtain ⟨h1, h2⟩ := pa_mid hc ho
  exact ((h.mono (A' := fun b => PA g ov b ∧ b < w.heap.size) fun b hb hA => ⟨hA, hb⟩).keeps h1).mono fun b _ hb => h2 b hb
theorem TdQ.move {l : List Td} {v : Value} (h : TdQ (PA g ov) w l v) (hc : Ch (PM g ov) w w') (ho : ∀ b, ownB ov' = some b → ownB ov = some b ∨ w.heap.size ≤ b) : TdQ (PA g ov') w' l v := by
  obtain ⟨h1, h2⟩ := pa_mid hc ho
  exact ((h.mono (A' := fun b => PA g ov b ∧ b < w.heap.size) fun b hb hA => ⟨hA, hb⟩).keeps h1).mono fun b _ hb => h2 b hb
theorem PvI.tell {e : Ev} {ov2 : Value} {w2 : World} {cells : Array Value} (h : PvI base P q g pv ov p w) (hsz : p.out.length + 1 ≤ 20)
    (hown : OwnR w2 base 69 2 evR (PA g ov) (p.out ++ [e]) ov2) (hg : Grew (w.alloc (.cells cells 69)) w2 ov ov2) :
    PStep base P q g pv ov { p with out := p.out ++ [e] } w (w2.setCell ⟨g, 4, none⟩ ov2) := by
  have hogr := h.og
  have hlt := h.lt
  have hog : ∀ b, ownB ov2 = some b → ownB ov = some b ∨ w.heap.size ≤ b := fun b hb => by
    rcases hg.block with e | e
    · exact .inl (e ▸ hb)
    · have := e b hb; simp only [World.size_alloc] at this; exact .inr (by omega)
  have hch : Ch (PM g ov) w (w2.setCell ⟨g, 4, none⟩ ov2) :=
    (hg.ch ((Ch.refl _ _).alloc _) (fun b hb => .inl (.inr hb))).setCell (p := ⟨g, 4, none⟩) (.inl (.inl rfl)) _
  have hmid := pa_mid (ov' := ov2) hch hog
  have hlb := h.pm_lt
  have hB2 : w2.heap[g]? = _ := (hg.grown.block g (by simp; omega) (fun e => hogr e.symm)).trans (blk_alloc h.box _)
  refine ⟨ov2, ?_, hch, hog⟩
  obtain ⟨h1, h2, h3, h4, h5, h6, h7, h8, h9, h10⟩ := h
  refine ⟨(blk_set hB2 4 _).trans rfl, ?_, ?_, h4, h5, h6, h7, h8, h9, by simpa using hsz⟩
  · exact SlR.keeps Cl.rep_lasts h2 (hch.keeps fun b hb hA e => by have := (hlb b e).1; omega)
  · have hng : ownB ov2 ≠ some g := fun e => by
      rcases hog g e with e | e
      · exact hogr e
      · omega
    refine (hown.keeps (B := fun b => b ≠ g) evR_lasts (Keeps.setCell _ _ _ _ (fun h => h rfl)) (fun b hb e => hb (.inl e)) (fun b hb e => hng (e ▸ hb))).mono' evR_lasts fun b hb hA hn => fun hs => ?_
    rcases hs with e | e
    · exact hA (.inl e)
    · exact hn e
theorem PvI.set (h : PvI base P q g pv ov p w) (o : Nat) (u : Value)
    (hbox : (w.setCell ⟨g, o, none⟩ u).heap[g]? = some (.cells #[pv, .int .i64 (q : Int), .int .i64 (p'.fuel : Int), .int .i64 p'.vars, ov, .bool p'.ended, .int .i64 (p'.calls : Int)] 94 (0, 0)))
    (hou : p'.out = p.out) (hv0 : 0 ≤ p'.vars) (hv1 : p'.vars ≤ 1000000) (hf : p'.fuel ≤ 150) (hcl : p'.calls ≤ 1000000) : PStep base P q g pv ov p' w (w.setCell ⟨g, o, none⟩ u) := by
  have hogr := h.og
  have hlb := h.pm_lt
  have hch : Ch (PM g ov) w (w.setCell ⟨g, o, none⟩ u) := (Ch.refl _ _).setCell (p := ⟨g, o, none⟩) (.inl (.inl rfl)) _
  refine ⟨ov, ?_, hch, fun b h => .inl h⟩
  obtain ⟨h1, h2, h3, h4, h5, h6, h7, h8, h9, h10⟩ := h
  refine ⟨hbox, SlR.keeps Cl.rep_lasts h2 (hch.keeps fun b hb hA e => by have := (hlb b e).1; omega), ?_, h4, hv0, hv1, hf, h8, hcl, by rw [hou]; exact h10⟩
  rw [hou]
  exact h3.keeps (B := fun b => b ≠ g) evR_lasts (Keeps.setCell _ _ _ _ (fun h => h rfl)) (fun b hb e => hb (.inl e)) (fun b hb e => hogr (e ▸ hb))
def PEndPost (base : Nat) (P : List Cl) (q g : Nat) (pv ov : Value) (p' : Pv) (w : World) (e : Ending) (w' : World) : Prop := e = .returned (.int .i64 (-1)) ∧ PStep base P q g pv ov p' w w'
set_option maxHeartbeats 2000000 in
theorem pend_ok (kind : Int) (hk : I64 kind) (h : PvI base P q g pv ov p w) (hsz : p.out.length + 1 ≤ 20) :
    Calls Tryd.prog 63 #[.pointer (some ⟨g, 0, none⟩), .int .i64 kind] w (PEndPost base P q g pv ov (p.put kind) w) := by
  have HU := hid h
  have HK := hid hk
  have HSZ := hid hsz
  have HOG := hid h.og
  obtain ⟨pa, pc, oa, oc, rfl, rfl, -⟩ := h.vals
  obtain ⟨hl1, hl2⟩ := h.lt
  obtain ⟨b0, b1, b2, b3, b4, b5, b6, bf⟩ := box7 h.box
  have hcs := cell_set
  clear h hk
  go_enter Tryd.func63, Tryd.ntmps63
  go_wp2_with (at_builtin; go_must (refine wpList_app1 rfl (.tmp 9) (.tmp 12) 55 rfl base 69 2 32 tyEvs evR_lasts (A := PA g (.slice oa p.out.length oc)) (.slice oa p.out.length oc) p.out rfl HU.out.out ⟨kind, []⟩ [.int .i64 kind, .slice none 0 0] (by rfl) rfl ⟨_, rfl, SlR.nil .., HK.out⟩ ⟨by omega, by omega⟩ ?_); go_must (intro v2 w2 hown hgrew; have hB2 := (hgrew.grown.block g (by simp; omega) (fun e => HOG.out e.symm)).trans (blk_alloc HU.out.box _); obtain ⟨va2, vc2, hv2, hvl2, hvm2⟩ := OwnR.val' hown; rw [show (p.out ++ [(⟨kind, []⟩ : Ev)]).length = p.out.length + 1 by simp] at hv2; subst hv2; have HO2 := hid hown; have HG2 := hid hgrew; have HBX := hid hB2; obtain ⟨k0, k1, k2, k3, k4, k5, k6, kf⟩ := box7 hB2; clear hown hgrew hB2))
  go_ret
  obtain ⟨ov2, z1, z2, z3⟩ := HU.out.tell HSZ.out HO2.out HG2.out
  refine ⟨rfl, PStep.trans z2 z3 ?_⟩
  exact z1.set (p' := p.put kind) 5 (.bool true) ((blk_set z1.box 5 _).trans rfl) rfl z1.v0 z1.v1 z1.fu z1.cl
end
end Go.Proofs.YtlpmfkpefoegeabDoor

namespace Go.Proofs.YtlpmfkpefoegeabDoor
set_option linter.unusedVariables false
set_option linter.unusedSimpArgs false
open Go.RowKit
theorem map_eraseIdx {α β : Type} (f : α → β) : ∀ (l : List α) (i : Nat), (l.eraseIdx i).map f = (l.map f).eraseIdx i
  | [], _ => rfl
  | x :: l, 0 => rfl
  | x :: l, i + 1 => by simp [map_eraseIdx f l i]
section
variable {P : Program} {t e : TypeId} {z : Value} {w : World} {r : Nat} {L1 L2 : List (Int × Value)} {n : Int} {v : Value}
theorem run_mdelete (hty : IntMapTy P t e z) (h : MapIs w r (L1 ++ (n, v) :: L2)) (hn : ∀ p ∈ L1, p.1 ≠ n) (kt : TypeId) :
    ∃ w', (∀ ty, (Builtin.delete_ #[t, kt] ty #[.map (some r), .int .i64 n]).run P w = .ok (.tuple #[]) w') ∧ MapIs w' r (L1 ++ L2) ∧ Ch (fun b => b = r) w w' ∧ w'.heap.size = w.heap.size := by
  obtain ⟨k, ht, hk, hz⟩ := hty
  obtain ⟨es, clock, h1, h2⟩ := h
  obtain ⟨x, h3, h4, h5⟩ := findNow_int n es.toList (L1 ++ (n, v) :: L2) 0 h2
  have hg : mget (L1 ++ (n, v) :: L2) n = some v := by
    unfold mget
    rw [List.find?_append, List.find?_eq_none.2 (by simpa using hn)]
    simp
  rw [hg] at h4
  match x, h3, h4, h5 with
  | none, h3, h4, h5 => simp at h4
  | some (i, u), h3, h4, h5 =>
    obtain ⟨-, ⟨en, he1, he2⟩, h6⟩ := h5 i u rfl
    simp only [Nat.sub_zero] at he1 h6
    have hL : es.toList.length = (L1 ++ (n, v) :: L2).length := by have := congrArg List.length h2; simpa using this
    have hi : i = L1.length := by
      rcases Nat.lt_trichotomy i L1.length with h7 | h7 | h7
      · have h8 : (es.toList.map (fun e => (e.key, e.val)))[i]? = some (en.key, en.val) := by rw [List.getElem?_map, he1]; rfl
        rw [h2, List.getElem?_map, List.getElem?_append_left h7, List.getElem?_eq_getElem h7] at h8
        simp only [Option.map_some, Option.some.injEq, Prod.mk.injEq] at h8
        rw [he2] at h8
        have := h8.1
        simp only [Value.int.injEq, true_and] at this
        exact absurd this (hn _ (List.getElem_mem h7))
      · exact h7
      · exact absurd rfl (h6 L1.length h7 (n, v) (by simp))
    subst hi
    have h7 := run_findKey (P := P) (w := w) k hk es.toList _ h3
    have h8 := run_checkKey (P := P) (w := w) (n := n) k hk es.isEmpty
    have hlt := blk_lt h1
    refine ⟨{ w with heap := w.heap.setIfInBounds r (.map (es.eraseIdxIfInBounds L1.length) clock) }, fun ty => ?_, ⟨es.eraseIdxIfInBounds L1.length, clock, ?_, ?_⟩, ⟨rfl, rfl, rfl, by simp, fun b hb hne => ?_⟩, by simp⟩
    · simp [Builtin.delete_, run_underlying ht, getObj, setObj, Sem.run, h1, h7, h8]
    · simp [hlt]
    · have hb : L1.length < es.size := by rw [Array.length_toList] at hL; rw [hL]; simp
      rw [Array.eraseIdxIfInBounds, dif_pos hb, Array.toList_eraseIdx, map_eraseIdx, h2, ← map_eraseIdx, List.eraseIdx_append_of_length_le (Nat.le_refl _)]
      simp
    · rw [Array.getElem?_setIfInBounds_ne (Ne.symm hne)]
end
section
variable {base : Nat} {P : List Cl} {q g mb xb : Nat} {pv tv cv ov : Value} {s : Sv} {w : World}
def SUndoPost (base : Nat) (P : List Cl) (q g mb : Nat) (pv tv cv ov : Value) (s' : Sv) (w : World) (e : Ending) (w' : World) : Prop := ∃ r, e = .returned r ∧ SStep base P q g mb pv tv cv ov s' w w'
theorem SvI.untrail {n : Nat} {wr : World} {ta : Option Addr} {tc : Nat} (h : SvI base P q g mb g pv (.slice ta s.env.length tc) cv ov s w) (hT : OwnN w base ((s.env.take n).map (·.1)) (.slice ta n tc)) (hn : n ≤ s.env.length)
    (hc : Ch (fun b => b = mb) w wr) (hE : ∃ L, MapIs wr mb L ∧ EnvL (SA g mb g (.slice ta s.env.length tc) cv ov) w (s.env.take n) L) (hap : Apart g mb (.slice ta s.env.length tc) cv ov) (hgm : mb ≠ g) :
    SStep base P q g mb pv (.slice ta s.env.length tc) cv ov { s with env := s.env.take n } w (wr.setCell ⟨g, 2, none⟩ (.slice ta n tc)) := by
  have hlt := h.lt
  have ho : ownB (.slice ta n tc) = ownB (.slice ta s.env.length tc) := by cases ta <;> rfl
  have hch0 : Ch (fun b => b = g ∨ b = mb) w (wr.setCell ⟨g, 2, none⟩ (.slice ta n tc)) := (hc.mono fun b _ e => .inr e).setCell (p := ⟨g, 2, none⟩) (.inl (.inl rfl)) _
  have hch : Ch (SM g mb (.slice ta s.env.length tc) cv ov) w (wr.setCell ⟨g, 2, none⟩ (.slice ta n tc)) := hch0.mono fun b _ hb => hb.elim .inl fun e => .inr (.inl e)
  have hk0 : Keeps (fun b => ¬ (b = g ∨ b = mb)) w (wr.setCell ⟨g, 2, none⟩ (.slice ta n tc)) := hch0.keeps fun b _ hb => hb
  have hlb := h.sm_lt
  have htt : ∀ b, ownB (.slice ta n tc) = some b → ownB (.slice ta s.env.length tc) = some b ∨ w.heap.size ≤ b := fun b hb => .inl (ho ▸ hb)
  have hmid := sa_midg (tv' := .slice ta n tc) (cv' := cv) (ov' := ov) hch htt (fun b h => .inl h) (fun b h => .inl h)
  refine ⟨.slice ta n tc, cv, ov, ?_, hch, htt, fun b h => .inl h, fun b h => .inl h⟩
  obtain ⟨h1, h2, h3, h4, h5, h6, h7, h8, h8', h8'', h9, h10, h11, h12, h13, h14, h15, h16⟩ := h
  refine ⟨(blk_set ((hc.block g hlt.1 (fun e => hgm e.symm)).trans h1) 2 _).trans rfl, ?_, ?_, ?_, ?_, ?_, h7, h8, h8', Nat.lt_of_lt_of_le h8'' hch.size, .inl rfl, h10, h11, h12, h13, by simp only [List.length_take]; omega, h15, h16⟩
  · exact SlR.keeps Cl.rep_lasts h2 (hch.keeps fun b hb hA e => by have := (hlb b e).1; omega)
  · obtain ⟨L, hm, hL⟩ := hE
    exact ⟨L, hm.keeps (Keeps.setCell (fun b => b ≠ g) _ _ _ (fun h => h rfl)) hgm, ((hL.mono (A' := fun b => SA g mb g (.slice ta s.env.length tc) cv ov b ∧ b < w.heap.size) fun b hb hA => ⟨hA, hb⟩).keeps hmid.1).mono fun b _ hb => hmid.2 b hb⟩
  · exact ⟨Own.keeps hT.1 hk0 (fun b hb e => e.elim (fun e => hap.tg (by rw [← ho, ← e]; exact hb)) (fun e => hap.tm (by rw [← ho, ← e]; exact hb))), hT.2⟩
  · refine ((h5.mono (A' := fun b => SA g mb g (.slice ta s.env.length tc) cv ov b ∧ b < w.heap.size) chcR_lasts fun b hb hA => ⟨hA, hb⟩).keeps chcR_lasts hk0 (fun b hb e => hb.1.1 (e.elim .inl fun e => .inr (.inl e))) (fun b hb e => e.elim (fun e => hap.cg (e ▸ hb)) (fun e => hap.cm (e ▸ hb)))).mono chcR_lasts fun b _ hb => hmid.2 b hb
  · refine ((h6.mono (A' := fun b => SA g mb g (.slice ta s.env.length tc) cv ov b ∧ b < w.heap.size) evR_lasts fun b hb hA => ⟨hA, hb⟩).keeps evR_lasts hk0 (fun b hb e => hb.1.1 (e.elim .inl fun e => .inr (.inl e))) (fun b hb e => e.elim (fun e => hap.og (e ▸ hb)) (fun e => hap.om (e ▸ hb)))).mono evR_lasts fun b _ hb => hmid.2 b hb
theorem take_drop_at {α : Type} (l : List α) (n j : Nat) (h : n + j < l.length) : l.take n ++ l.drop (n + j) = l.take n ++ l[n + j] :: l.drop (n + (j + 1)) := by
  rw [List.drop_eq_getElem_cons h]; rfl
set_option maxRecDepth 100000 in
set_option maxHeartbeats 4000000 in
theorem sundo_ok (n : Nat) (h : SvI base P q g mb g pv tv cv ov s w) (hn : n ≤ s.env.length) (hE : (s.env.map (·.1)).Nodup) :
    Calls Tryd.prog 90 #[.pointer (some ⟨g, 0, none⟩), .int .i64 (n : Int)] w (SUndoPost base P q g mb pv tv cv ov { s with env := s.env.take n } w) := by
  have HU := hid h
  have HN := hid hn
  have HND := hid hE
  have HAP := hid h.apart
  have hgm := h.mb_ne
  have hgm' : g ≠ mb := fun e => hgm e.symm
  obtain ⟨pa, pc, ta, tc, ca, cc, oa, oc, rfl, rfl, rfl, rfl, -, -, ht1, ht2, -⟩ := h.vals
  obtain ⟨hl1, hl2, hl3⟩ := h.lt
  obtain ⟨b0, b1, b2, b3, b4, b5, b6, b7, bf⟩ := box8 h.box
  have hlen := h.len
  have hcs := cell_set
  obtain ⟨L, hM, hL⟩ := h.env
  have HM := hid hM
  have HL := hid hL
  have hkeys := hL.keys
  have HLK := hid hkeys
  have hLl : L.length = s.env.length := by have := congrArg List.length hkeys; simpa using this
  have HLL := hid hLl
  have hT : OwnN w base (s.env.map (·.1)) (.slice ta (s.env.map (·.1)).length tc) := by simpa using h.trail
  have HT := hid hT
  have hsl := hT.sl (by simp; omega) (A := fun _ => True) (fun _ _ => trivial)
  have HDR := hid (SlR.dropS hsl (show n ≤ (s.env.map (·.1)).length by simpa using hn))
  simp only [List.length_map] at HDR
  obtain ⟨sa, hsa⟩ : ∃ sa, sa = (if tc = n then ta else ta.map fun x => x.add (n * 1)) := ⟨_, rfl⟩
  rw [← hsa] at HDR
  have HSA := hid hsa
  obtain ⟨_, _, db, doff, e, -, -, -, hda, hde⟩ := SlR.at HDR.out
  simp only [Value.slice.injEq, List.length_drop, List.length_map] at e
  obtain ⟨rfl, -, rfl⟩ := e
  have HDA := hid hda
  have HDE := hid hde
  have qS : ∀ W : World, (Instr.slice 48 (.slice ta s.env.length tc) (some (.int .i64 (n : Int))) none none).run Tryd.prog W = .ok (.slice sa (s.env.length - n) (tc - n)) W := fun W => by
    rw [HSA.out]
    exact slice_from_numsS W ta s.env.length tc n hn
  have hn1 : (n : Int) ≤ (s.env.length : Int) := by omega
  have hn0 : (0 : Int) ≤ (n : Int) := Int.natCast_nonneg _
  have hnt : (n : Int) ≤ (tc : Int) := by omega
  unfold maxLen at ht2
  clear h hE hM hL hkeys hLl hT hsl hsa hda hde hn
  go_enter Tryd.func90, Tryd.ntmps90
  go_wp2_with fail
  go_loopw [5, 13] (fun _ i wr => ∃ j : Nat, j ≤ s.env.length - n ∧ i = .int .i64 (j : Int) ∧ MapIs wr mb (L.take n ++ L.drop (n + j)) ∧ Ch (fun b => b = mb) w wr) (fun _ i _ => s.env.length - n - (intOf i).toNat)
  case atStart => exact ⟨0, Nat.zero_le _, rfl, by rw [Nat.add_zero, List.take_append_drop]; exact HM.out, Ch.refl _ _⟩
  case round =>
    obtain ⟨j, hj, rfl, hm, hch⟩ := hrel
    have HM4 := hid hm
    have HCH := hid hch
    have HB4 := hid ((hch.block g hl1 hgm').trans HU.out.box)
    obtain ⟨d0, d1, d2, d3, d4, d5, d6, d7, df⟩ := box8 HB4.out
    clear b0 b1 b2 b3 b4 b5 b6 b7 bf hm hch
    by_cases hlt : j < s.env.length - n
    · have hjl : n + j < L.length := by rw [HLL.out]; omega
      have hjm : n + j < (s.env.map (·.1)).length := by simp; omega
      have hkey : (L[n + j]).1 = (s.env.map (·.1))[n + j] := by
        have := HLK.out
        have h2 : (L.map (·.1))[n + j]'(by simpa using hjl) = (s.env.map (·.1))[n + j] := by simp only [this]
        simpa using h2
      obtain ⟨rfl, -⟩ := HDA.out (by simp; omega)
      obtain ⟨vs, hvl, ⟨hvk, rfl⟩, hrow⟩ := HDE.out j ((s.env.map (·.1))[n + j]) (by rw [List.getElem?_drop]; exact List.getElem?_eq_getElem hjm)
      have hcell := hrow 0 (.int .i64 ((s.env.map (·.1))[n + j])) rfl
      have hdb : db < w.heap.size := World.block_lt_of_cell? w _ hcell
      have hdm : db ≠ mb := by
        intro e
        subst e
        obtain ⟨es, clock, h1, _⟩ := HM.out
        simp [World.cell?, h1] at hcell
      have hc4 := (World.cell?_of_block (a := ⟨db, doff + j * 1 + 0, none⟩) (HCH.out.block db hdb hdm)).trans hcell
      simp only [Nat.mul_one, Nat.add_zero] at hc4
      obtain ⟨⟨kn, kv⟩, hkk⟩ : ∃ x, x = L[n + j] := ⟨_, rfl⟩
      have hm4 := HM4.out
      rw [take_drop_at L n j hjl, ← hkk] at hm4
      rw [← hkk] at hkey
      simp only at hkey
      rw [← hkey] at hc4
      obtain ⟨w2, hdel, hm5, hch5, hsz5⟩ := run_mdelete tyEnv hm4 (by
        intro p hp e
        obtain ⟨i, hi, rfl⟩ := List.mem_iff_getElem.1 hp
        have hi' : i < n := by simp at hi; omega
        have hil : i < L.length := by omega
        have h2 : ((L.take n)[i]).1 = (s.env.map (·.1))[i]'(by simp; omega) := by
          have := HLK.out
          have h2 : (L.map (·.1))[i]'(by simpa using hil) = (s.env.map (·.1))[i]'(by simp; omega) := by simp only [this]
          simpa using h2
        rw [h2, hkey] at e
        have := (List.getElem_inj HND.out).1 e
        omega) 3
      have HM5 := hid hm5
      have HCH5 := hid (HCH.out.trans hch5 (fun b h => .inl h))
      have hj0 : (0 : Int) ≤ (j : Int) := Int.natCast_nonneg _
      clear hm4 hm5 hch5 hsz5 hkk hkey hcell hrow hvk hvl hjm hjl
      go_wp2_with fail
      go_roundw
      case rel => exact ⟨j + 1, by omega, by go_num, HM5.out, HCH5.out⟩
      case measure => simp [intOf]; omega
    · have hje : j = s.env.length - n := by omega
      have HM6 := hid (show MapIs wr mb (L.take n) by
        have := HM4.out
        rw [hje, List.drop_eq_nil_of_le (by rw [HLL.out]; have := HN.out; omega), List.append_nil] at this
        exact this)
      clear hje
      go_wp2_with fail
      refine bodyPost_end (v := .tuple #[]) (by simp [results, Tryd.results90, go_sem]) rfl ?_
      have hT0 : OwnN w base ((s.env.take n).map (·.1)) (.slice ta n tc) := by
        rw [List.map_take]
        have := HT.out
        exact OwnF.take numV_len this (k := n) (by simpa using HN.out)
      exact ⟨_, rfl, HU.out.untrail hT0 HN.out HCH.out ⟨_, HM6.out, HL.out.take n⟩ HAP.out hgm⟩
end
end Go.Proofs.YtlpmfkpefoegeabDoor
