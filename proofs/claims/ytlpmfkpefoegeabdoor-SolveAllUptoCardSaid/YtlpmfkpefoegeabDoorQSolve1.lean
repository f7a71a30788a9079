/-
  The solver in memory: what is bound, goals, choices, events; look.
-/
import Derived.Test.YtlpmfkpefoegeabDoorPSolve2
import Derived.Test.YtlpmfkpefoegeabDoorPTidy
import Derived.Test.YtlpmfkpefoegeabDoorQUbind
namespace Go.Proofs.YtlpmfkpefoegeabDoor
set_option linter.unusedVariables false
set_option linter.unusedSimpArgs false
open Go.RowKit
def TmV (A : Nat → Prop) (w : World) (t : Tm) (v : Value) : Prop := ∃ us, v = .agg us.toArray ∧ Tm.rep A w t us
theorem TmV.keeps {A : Nat → Prop} {w w' : World} {t : Tm} {v : Value} (h : TmV A w t v) (hk : Keeps A w w') : TmV A w' t v := by
  obtain ⟨us, h1, h2⟩ := h; exact ⟨us, h1, Tm.rep_lasts.1 _ _ _ _ _ h2 hk⟩
theorem TmV.mono {A A' : Nat → Prop} {w : World} {t : Tm} {v : Value} (h : TmV A w t v) (hA : ∀ b, b < w.heap.size → A b → A' b) : TmV A' w t v := by
  obtain ⟨us, h1, h2⟩ := h; exact ⟨us, h1, Tm.rep_lasts.2.1 _ _ _ _ _ h2 hA⟩
def EnvL (A : Nat → Prop) (w : World) : Env → List (Int × Value) → Prop
  | [], [] => True
  | (n, t) :: E, (m, v) :: L => (m = n ∧ TmV A w t v) ∧ EnvL A w E L
  | _, _ => False
theorem EnvL.keeps {A : Nat → Prop} {w w' : World} : ∀ {E : Env} {L : List (Int × Value)}, EnvL A w E L → Keeps A w w' → EnvL A w' E L
  | [], [], _, _ => trivial
  | (n, t) :: E, (m, v) :: L, h, hk => ⟨⟨h.1.1, h.1.2.keeps hk⟩, EnvL.keeps h.2 hk⟩
  | [], _ :: _, h, _ => h.elim
  | _ :: _, [], h, _ => h.elim
theorem EnvL.mono {A A' : Nat → Prop} {w : World} : ∀ {E : Env} {L : List (Int × Value)}, EnvL A w E L → (∀ b, b < w.heap.size → A b → A' b) → EnvL A' w E L
  | [], [], _, _ => trivial
  | (n, t) :: E, (m, v) :: L, h, hk => ⟨⟨h.1.1, h.1.2.mono hk⟩, EnvL.mono h.2 hk⟩
  | [], _ :: _, h, _ => h.elim
  | _ :: _, [], h, _ => h.elim
theorem EnvL.append {A : Nat → Prop} {w : World} : ∀ {E : Env} {L : List (Int × Value)} {E' : Env} {L' : List (Int × Value)}, EnvL A w E L → EnvL A w E' L' → EnvL A w (E ++ E') (L ++ L')
  | [], [], _, _, _, h => h
  | (n, t) :: E, (m, v) :: L, _, _, h, h' => ⟨h.1, EnvL.append h.2 h'⟩
  | [], _ :: _, _, _, h, _ => h.elim
  | _ :: _, [], _, _, h, _ => h.elim
theorem EnvL.take {A : Nat → Prop} {w : World} : ∀ {E : Env} {L : List (Int × Value)} (k : Nat), EnvL A w E L → EnvL A w (E.take k) (L.take k)
  | [], [], k, _ => by simp [EnvL]
  | (n, t) :: E, (m, v) :: L, 0, h => by simp [EnvL]
  | (n, t) :: E, (m, v) :: L, k + 1, h => ⟨h.1, EnvL.take k h.2⟩
  | [], _ :: _, _, h => h.elim
  | _ :: _, [], _, h => h.elim
theorem EnvL.keys {A : Nat → Prop} {w : World} : ∀ {E : Env} {L : List (Int × Value)}, EnvL A w E L → L.map (·.1) = E.map (·.1)
  | [], [], _ => rfl
  | (n, t) :: E, (m, v) :: L, h => by rw [List.map_cons, List.map_cons, EnvL.keys h.2, h.1.1]
  | [], _ :: _, h => h.elim
  | _ :: _, [], h => h.elim
theorem EnvL.get {A : Nat → Prop} {w : World} (n : Int) : ∀ {E : Env} {L : List (Int × Value)}, EnvL A w E L → (eget E n = none ∧ mget L n = none) ∨ ∃ t v, eget E n = some t ∧ mget L n = some v ∧ TmV A w t v
  | [], [], _ => .inl ⟨rfl, rfl⟩
  | (k, t) :: E, (m, v) :: L, h => by
    obtain ⟨⟨rfl, h1⟩, h2⟩ := h
    by_cases e : m = n
    · exact .inr ⟨t, v, by simp [eget, e], by simp [mget, e], h1⟩
    · have e1 : eget ((m, t) :: E) n = eget E n := by simp [eget, e]
      have e2 : mget ((m, v) :: L) n = mget L n := by simp [mget, e]
      rw [e1, e2]; exact EnvL.get n h2
  | [], _ :: _, h => h.elim
  | _ :: _, [], h => h.elim
def EnvR (A : Nat → Prop) (w : World) (mb : Nat) (E : Env) : Prop := ∃ L, MapIs w mb L ∧ EnvL A w E L
def GlsR (A : Nat → Prop) (w : World) : List Gl → Value → Prop
  | [], v => v = .pointer none
  | g :: r, v => ∃ b a cap rv, v = .pointer (some ⟨b, 0, none⟩) ∧ A b ∧ w.heap[b]? = some (.cells #[.int .i64 g.t.kind, .int .i64 g.t.n, .string g.t.s, .slice a g.t.args.length cap, .int .i64 (g.bar : Int), rv] 88 (0, 0)) ∧
      Tm.rep A w g.t [.int .i64 g.t.kind, .int .i64 g.t.n, .string g.t.s, .slice a g.t.args.length cap] ∧ GlsR A w r rv
theorem GlsR.keeps {A : Nat → Prop} {w w' : World} : ∀ {l : List Gl} {v : Value}, GlsR A w l v → Keeps A w w' → GlsR A w' l v
  | [], v, h, _ => h
  | g :: r, v, h, hk => by
    obtain ⟨b, a, cap, rv, h1, h2, h3, h4, h5⟩ := h
    exact ⟨b, a, cap, rv, h1, h2, blk_keeps h3 hk h2, Tm.rep_lasts.1 _ _ _ _ _ h4 hk, GlsR.keeps h5 hk⟩
theorem GlsR.mono {A A' : Nat → Prop} {w : World} : ∀ {l : List Gl} {v : Value}, GlsR A w l v → (∀ b, b < w.heap.size → A b → A' b) → GlsR A' w l v
  | [], v, h, _ => h
  | g :: r, v, h, hk => by
    obtain ⟨b, a, cap, rv, h1, h2, h3, h4, h5⟩ := h
    exact ⟨b, a, cap, rv, h1, hk b (blk_lt h3) h2, h3, Tm.rep_lasts.2.1 _ _ _ _ _ h4 hk, GlsR.mono h5 hk⟩
theorem GlsR.ptr {A : Nat → Prop} {w : World} {l : List Gl} {v : Value} (h : GlsR A w l v) : ∃ p, v = .pointer p := by
  cases l with
  | nil => exact ⟨none, h⟩
  | cons g r => obtain ⟨b, _, _, _, rfl, _⟩ := h; exact ⟨_, rfl⟩
def chcR (A : Nat → Prop) (w : World) (c : Chc) (vs : List Value) : Prop := ∃ v, vs = [v, .int .i64 (c.at_ : Int), .int .i64 (c.trail : Int)] ∧ GlsR A w c.g v
theorem chcR_lasts : Lasts chcR := by
  refine ⟨fun A w w' c vs h hk => ?_, fun A A' w c vs h hA => ?_, fun A w c vs h => ?_⟩
  · obtain ⟨v, h1, h2⟩ := h; exact ⟨v, h1, h2.keeps hk⟩
  · obtain ⟨v, h1, h2⟩ := h; exact ⟨v, h1, h2.mono hA⟩
  · obtain ⟨v, rfl, h2⟩ := h
    obtain ⟨p, rfl⟩ := h2.ptr
    simp [Value.oneCell']
def evR (A : Nat → Prop) (w : World) (e : Ev) (vs : List Value) : Prop := ∃ v, vs = [.int .i64 e.kind, v] ∧ TmsR A w e.terms v ∧ I64 e.kind
theorem evR_lasts : Lasts evR := by
  refine ⟨fun A w w' c vs h hk => ?_, fun A A' w c vs h hA => ?_, fun A w c vs h => ?_⟩
  · obtain ⟨v, h1, h2, h3⟩ := h; exact ⟨v, h1, h2.keeps hk, h3⟩
  · obtain ⟨v, h1, h2, h3⟩ := h; exact ⟨v, h1, SlR.mono Tm.rep_lasts (by omega) h2 hA, h3⟩
  · obtain ⟨v, rfl, h2, h3⟩ := h
    obtain ⟨a, cap, _, _, rfl, -⟩ := SlR.at h2
    simp [Value.oneCell']
theorem OwnR.mono' {α : Type} {w : World} {base : Nat} {E : TypeId} {size : Nat} {R : (Nat → Prop) → World → α → List Value → Prop} {A A' : Nat → Prop} {xs : List α} {v : Value} (hR : Lasts R)
    (h : OwnR w base E size R A xs v) (hA : ∀ b, b < w.heap.size → A b → ownB v ≠ some b → A' b) : OwnR w base E size R A' xs v := by
  obtain ⟨vals, hl, ho, he⟩ := h
  refine ⟨vals, hl, ho, fun i x vs hx hv => ?_⟩
  obtain ⟨h1, h2⟩ := he i x vs hx hv
  exact ⟨h1, hR.2.1 _ _ _ _ _ h2 fun b hb hb' => ⟨hA b hb hb'.1 hb'.2, hb'.2⟩⟩
def SM (g mb : Nat) (tv cv ov : Value) (b : Nat) : Prop := b = g ∨ b = mb ∨ ownB tv = some b ∨ ownB cv = some b ∨ ownB ov = some b
def SA (g mb xb : Nat) (tv cv ov : Value) (b : Nat) : Prop := ¬ SM g mb tv cv ov b ∧ b ≠ xb
structure SvI (base : Nat) (P : List Cl) (q : Nat) (g mb xb : Nat) (pv tv cv ov : Value) (s : Sv) (w : World) : Prop where
  box : w.heap[g]? = some (.cells #[pv, .map (some mb), tv, cv, .int .i64 s.vars, .int .i64 (s.fuel : Int), ov, .int .i64 (q : Int)] 85 (0, 0))
  prog : ClsR (fun b => b < base) w P pv
  env : EnvR (SA g mb xb tv cv ov) w mb s.env
  trail : OwnN w base (s.env.map (·.1)) tv
  chc : OwnR w base 137 3 chcR (SA g mb xb tv cv ov) s.choices.reverse cv
  out : OwnR w base 69 2 evR (SA g mb xb tv cv ov) s.out ov
  bg : base ≤ g
  bm : base ≤ mb
  bx : base ≤ xb
  bxl : xb < w.heap.size
  nx : xb = g ∨ ¬ SM g mb tv cv ov xb
  v0 : 0 ≤ s.vars
  v1 : s.vars ≤ 1000000
  fu : s.fuel ≤ 150
  qq : q ≤ 8
  len : s.env.length ≤ 1000000
  few : s.choices.length ≤ 1000
  out13 : s.out.length ≤ 20
section
variable {base : Nat} {P : List Cl} {q g mb xb : Nat} {pv tv cv ov : Value} {s : Sv} {w : World}
theorem SvI.mb_ne (h : SvI base P q g mb xb pv tv cv ov s w) : mb ≠ g := by
  intro e
  obtain ⟨L, ⟨es, clock, h1, _⟩, _⟩ := h.env
  rw [e, h.box] at h1
  simp at h1
theorem SvI.lt (h : SvI base P q g mb xb pv tv cv ov s w) : g < w.heap.size ∧ mb < w.heap.size ∧ base ≤ w.heap.size := by
  obtain ⟨L, hm, _⟩ := h.env
  have := blk_lt h.box
  have := hm.lt
  have := h.bg
  omega
theorem SvI.sm_lt (h : SvI base P q g mb xb pv tv cv ov s w) : ∀ b, SM g mb tv cv ov b → base ≤ b ∧ b < w.heap.size := by
  intro b hb
  have hl := h.lt
  rcases hb with rfl | rfl | hb | hb | hb
  · exact ⟨h.bg, hl.1⟩
  · exact ⟨h.bm, hl.2.1⟩
  · exact h.trail.lt b hb
  · exact h.chc.lt b hb
  · exact h.out.lt b hb
theorem EnvR.keeps {A B : Nat → Prop} {w w' : World} {mb : Nat} {E : Env} (h : EnvR A w mb E) (hk : Keeps B w w') (hA : ∀ b, A b → B b) (hm : B mb) : EnvR A w' mb E := by
  obtain ⟨L, h1, h2⟩ := h
  exact ⟨L, h1.keeps hk hm, h2.keeps (hk.mono fun b _ hb => hA b hb)⟩
theorem SvI.envAt (h : SvI base P q g mb xb pv tv cv ov s w) : EnvR (fun b => SA g mb xb tv cv ov b ∧ b < w.heap.size) w mb s.env := by
  obtain ⟨L, h1, h2⟩ := h.env
  exact ⟨L, h1, h2.mono fun b hb hA => ⟨hA, hb⟩⟩
theorem SvI.keeps {w' : World} (h : SvI base P q g mb xb pv tv cv ov s w) (hk : Keeps (fun b => b ≠ xb ∨ b = g) w w') : SvI base P q g mb xb pv tv cv ov s w' := by
  obtain ⟨h1, h2, h3, h4, h5, h6, h7, h8, h8', h8'', h9, h10, h11, h12, h13, h14, h15, h16⟩ := h
  have hne : ∀ b, SM g mb tv cv ov b → b ≠ xb ∨ b = g := fun b hb => by
    rcases h9 with e | e
    · by_cases hbx : b = g
      · exact .inr hbx
      · exact .inl (by rw [e]; exact hbx)
    · exact .inl fun e2 => e (e2 ▸ hb)
  have hA : ∀ b, SA g mb xb tv cv ov b → b ≠ xb ∨ b = g := fun b hb => .inl hb.2
  refine ⟨blk_keeps h1 hk (.inr rfl), SlR.keeps Cl.rep_lasts h2 (hk.mono fun b _ hb => .inl (by omega)), ?_, ?_, ?_, ?_, h7, h8, h8', Nat.lt_of_lt_of_le h8'' hk.size, h9, h10, h11, h12, h13, h14, h15, h16⟩
  · obtain ⟨L, hm, hL⟩ := h3
    exact ⟨L, hm.keeps hk (hne mb (.inr (.inl rfl))), hL.keeps (hk.mono fun b _ hb => hA b hb)⟩
  · exact ⟨Own.keeps h4.1 hk (fun b hb => hne b (.inr (.inr (.inl hb)))), h4.2⟩
  · exact h5.keeps chcR_lasts hk hA (fun b hb => hne b (.inr (.inr (.inr (.inl hb)))))
  · exact h6.keeps evR_lasts hk hA (fun b hb => hne b (.inr (.inr (.inr (.inr hb)))))
theorem SvI.below {w' : World} (h : SvI base P q g mb xb pv tv cv ov s w) (hb : Below w.heap.size w w') : SvI base P q g mb xb pv tv cv ov s w' := h.keeps (Keeps.of_below hb)
theorem SvI.alloc (h : SvI base P q g mb xb pv tv cv ov s w) (o : Obj) : SvI base P q g mb xb pv tv cv ov s (w.alloc o) := h.keeps (Keeps.alloc _ _ _)
theorem SvI.ch {w' : World} (h : SvI base P q g mb xb pv tv cv ov s w) (hx : xb ≠ g) (hc : Ch (fun b => b = xb) w w') : SvI base P q g mb xb pv tv cv ov s w' :=
  h.keeps (hc.keeps fun b _ hb e => hb.elim (fun h1 => h1 e) (fun h1 => hx (e.symm.trans h1)))
theorem SvI.leave (h : SvI base P q g mb g pv tv cv ov s w) (o : Obj) : SvI base P q g mb w.heap.size pv tv cv ov s (w.alloc o) := by
  have hsm := h.sm_lt
  have hlt := h.lt
  have h' := h.alloc o
  have hA : ∀ b, b < w.heap.size → SA g mb g tv cv ov b → SA g mb w.heap.size tv cv ov b := fun b hb h => ⟨h.1, by omega⟩
  refine ⟨h'.box, h'.prog, ?_, h'.trail, (h.chc.mono chcR_lasts hA).alloc chcR_lasts o, (h.out.mono evR_lasts hA).alloc evR_lasts o, h'.bg, h'.bm, by omega, by simp, .inr fun e => by have := hsm _ e; omega, h'.v0, h'.v1, h'.fu, h'.qq, h'.len, h'.few, h'.out13⟩
  obtain ⟨L, hm, hL⟩ := h.env
  exact ⟨L, hm.keeps (Keeps.alloc (fun _ => True) w o) trivial, (hL.mono hA).keeps (Keeps.alloc _ w o)⟩
theorem SvI.take_in (h : SvI base P q g mb xb pv tv cv ov s w) : SvI base P q g mb g pv tv cv ov s w := by
  have hlt' := h.lt
  obtain ⟨h1, h2, h3, h4, h5, h6, h7, h8, h8', h8'', h9, h10, h11, h12, h13, h14, h15, h16⟩ := h
  have hA : ∀ b, b < w.heap.size → SA g mb xb tv cv ov b → SA g mb g tv cv ov b := fun b hb h => ⟨h.1, fun e => h.1 (.inl e)⟩
  refine ⟨h1, h2, ?_, h4, h5.mono chcR_lasts hA, h6.mono evR_lasts hA, h7, h8, h7, hlt'.1, .inl rfl, h10, h11, h12, h13, h14, h15, h16⟩
  obtain ⟨L, hm, hL⟩ := h3
  exact ⟨L, hm, hL.mono hA⟩
theorem SvI.vals (h : SvI base P q g mb xb pv tv cv ov s w) : ∃ pa pc ta tc ca cc oa oc, pv = .slice pa P.length pc ∧ tv = .slice ta s.env.length tc ∧ cv = .slice ca s.choices.length cc ∧ ov = .slice oa s.out.length oc ∧
    P.length ≤ pc ∧ pc ≤ maxLen ∧ s.env.length ≤ tc ∧ tc ≤ maxLen ∧ s.choices.length ≤ cc ∧ cc ≤ maxLen ∧ s.out.length ≤ oc ∧ oc ≤ maxLen := by
  obtain ⟨pa, pc, _, _, rfl, p1, p2, -⟩ := SlR.at h.prog
  obtain ⟨ta, tc, rfl, t1, t2⟩ := OwnF.val h.trail
  obtain ⟨ca, cc, rfl, c1, c2⟩ := OwnR.val' h.chc
  obtain ⟨oa, oc, rfl, o1, o2⟩ := OwnR.val' h.out
  simp only [List.length_map, List.length_reverse] at *
  exact ⟨pa, pc, ta, tc, ca, cc, oa, oc, rfl, rfl, rfl, rfl, p1, p2, t1, t2, c1, c2, o1, o2⟩
end
theorem box8 {w : World} {g : Nat} {E : TypeId} {v0 v1 v2 v3 v4 v5 v6 v7 : Value} (h : w.heap[g]? = some (.cells #[v0, v1, v2, v3, v4, v5, v6, v7] E (0, 0))) :
    w.cell? ⟨g, 0, none⟩ = some v0 ∧ w.cell? ⟨g, 1, none⟩ = some v1 ∧ w.cell? ⟨g, 2, none⟩ = some v2 ∧ w.cell? ⟨g, 3, none⟩ = some v3 ∧ w.cell? ⟨g, 4, none⟩ = some v4 ∧ w.cell? ⟨g, 5, none⟩ = some v5 ∧ w.cell? ⟨g, 6, none⟩ = some v6 ∧ w.cell? ⟨g, 7, none⟩ = some v7 ∧ ∀ o, w.frozen? ⟨g, o, none⟩ = false :=
  ⟨(blk_cell h 0).trans rfl, (blk_cell h 1).trans rfl, (blk_cell h 2).trans rfl, (blk_cell h 3).trans rfl, (blk_cell h 4).trans rfl, (blk_cell h 5).trans rfl, (blk_cell h 6).trans rfl, (blk_cell h 7).trans rfl, fun o => by simp [World.frozen?, h]⟩
theorem tyEnv : IntMapTy Tryd.prog 82 31 (.agg #[.int .i64 0, .int .i64 0, .string ByteArray.empty, .slice none 0 0]) :=
  ⟨3, Tryd.underlying82, Tryd.underlying3, fun _ => by kernel_rfl⟩
theorem set4 {w : World} {g : Nat} {E : TypeId} {a b c d v0 v1 v2 v3 : Value} (h : w.heap[g]? = some (.cells #[a, b, c, d] E (0, 0))) :
    ((((w.setCell ⟨g, 0, none⟩ v0).setCell ⟨g, 1, none⟩ v1).setCell ⟨g, 2, none⟩ v2).setCell ⟨g, 3, none⟩ v3).heap[g]? = some (.cells #[v0, v1, v2, v3] E (0, 0)) :=
  (blk_set (blk_set (blk_set (blk_set h 0 v0) 1 v1) 2 v2) 3 v3).trans rfl
theorem set4_other (w : World) (g b : Nat) (v0 v1 v2 v3 : Value) (h : b ≠ g) :
    ((((w.setCell ⟨g, 0, none⟩ v0).setCell ⟨g, 1, none⟩ v1).setCell ⟨g, 2, none⟩ v2).setCell ⟨g, 3, none⟩ v3).heap[b]? = w.heap[b]? := by
  rw [Below.heap_setCell _ _ _ _ h, Below.heap_setCell _ _ _ _ h, Below.heap_setCell _ _ _ _ h, Below.heap_setCell _ _ _ _ h]
theorem below_set4 {B : Nat} {w0 w : World} (hb : Below B w0 w) {g : Nat} (hg : B ≤ g) (v0 v1 v2 v3 : Value) : Below B w0 ((((w.setCell ⟨g, 0, none⟩ v0).setCell ⟨g, 1, none⟩ v1).setCell ⟨g, 2, none⟩ v2).setCell ⟨g, 3, none⟩ v3) :=
  Below.setCell (Below.setCell (Below.setCell (Below.setCell hb hg _) hg _) hg _) hg _
theorem keeps_set4 (A : Nat → Prop) (w : World) {g : Nat} (hg : ¬ A g) (v0 v1 v2 v3 : Value) : Keeps A w ((((w.setCell ⟨g, 0, none⟩ v0).setCell ⟨g, 1, none⟩ v1).setCell ⟨g, 2, none⟩ v2).setCell ⟨g, 3, none⟩ v3) :=
  (((Keeps.setCell A _ _ _ hg).trans (Keeps.setCell A _ _ _ hg)).trans (Keeps.setCell A _ _ _ hg)).trans (Keeps.setCell A _ _ _ hg)
theorem ch_set4 {M : Nat → Prop} {a w : World} (h : Ch M a w) {g : Nat} (hg : M g ∨ a.heap.size ≤ g) (v0 v1 v2 v3 : Value) : Ch M a ((((w.setCell ⟨g, 0, none⟩ v0).setCell ⟨g, 1, none⟩ v1).setCell ⟨g, 2, none⟩ v2).setCell ⟨g, 3, none⟩ v3) :=
  (((h.setCell (p := ⟨g, 0, none⟩) hg _).setCell (p := ⟨g, 1, none⟩) hg _).setCell (p := ⟨g, 2, none⟩) hg _).setCell (p := ⟨g, 3, none⟩) hg _
def boxMu (g : Nat) (w : World) : Nat := match w.cell? ⟨g, 0, none⟩, w.cell? ⟨g, 1, none⟩ with
  | some (.int _ k), some (.int _ n) => if k = 0 then n.toNat + 1 else 0
  | _, _ => 0
theorem boxMu_of {w : World} {g : Nat} {E : TypeId} {k n : Int} {c d : Value} (h : w.heap[g]? = some (.cells #[.int .i64 k, .int .i64 n, c, d] E (0, 0))) : boxMu g w = if k = 0 then n.toNat + 1 else 0 := by
  obtain ⟨h0, h1, _⟩ := blk4 h
  unfold boxMu
  rw [h0, h1]
end Go.Proofs.YtlpmfkpefoegeabDoor
