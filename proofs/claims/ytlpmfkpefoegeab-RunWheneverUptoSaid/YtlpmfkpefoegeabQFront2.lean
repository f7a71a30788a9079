/-
  A statement whose order Go leaves open up to its last steps, of which some may come before what only computes.
-/
import Derived.Test.YtlpmfkpefoegeabQTidy1
import Derived.Test.YtlpmfkpefoegeabHLoad
import Derived.Test.YtlpmfkpefoegeabQCopyHeap
namespace Go.Proofs.Ytlpmfkpefoegeab
set_option linter.unusedVariables false
set_option linter.unusedSimpArgs false
open Go.RowKit
set_option maxHeartbeats 1000000 in
theorem tidyS_ok (l : List Tm) (hnd : (Tm.renSL seenF [] l).2.length ≤ 4194303) (A : Nat → Prop) (w : World) (v : Value) (hv : TmsR A w l v) :
    Calls Try.prog 15 #[v] w (Pure w fun v' w' => TmsR (New w) w' (Tm.renSL seenF [] l).1 v') := by
  obtain ⟨a, cap, b, off, rfl, hlc, hcm, hlb, ha, he⟩ := hv.at
  have HE := hid he
  have HA := hid ha
  have HV := hid hv
  clear hv he ha
  go_enter Try.func15, Try.ntmps15
  go_wp2_with fail
  go_loopw [5, 11] (fun v i wr => ∃ (j : Nat) (sj : List Int) (Mj : Nat → Prop), j ≤ l.length ∧ i = .int .i64 j ∧ w.heap.size + 2 ≤ wr.heap.size ∧ Below w.heap.size w wr ∧ (∀ b, Mj b → w.heap.size ≤ b) ∧ TdInv (w.heap.size + 2) w.heap.size (w.heap.size + 1) sj Mj wr ∧
      sj = (Tm.renSL seenF [] (l.take j)).2 ∧ (∀ b, ownB v = some b → ¬ Mj b) ∧
      OwnR wr (w.heap.size + 2) 24 4 Tm.rep (fun b => w.heap.size + 2 ≤ b ∧ ¬ Mj b) (Tm.renSL seenF [] (l.take j)).1 v) (fun _ i _ => l.length - (intOf i).toNat)
  case atStart =>
    have hq := heap2 w (.cells #[.slice none 0 0] 28) (.cells #[.func (.func 34) #[] #[.pointer (some ⟨w.heap.size, 0, none⟩), .pointer (some ⟨w.heap.size + 1, 0, none⟩)]] 76)
    refine ⟨0, [], fun b => (b = w.heap.size ∨ ownB (.slice none 0 0) = some b) ∨ b = w.heap.size + 1, Nat.zero_le _, rfl, by simp, below_pure (below_pure (Below.refl _ _)), fun b hb => ?_, ⟨_, ⟨_, hq.1, OwnR.nil .., by simp, by omega, fun b => Iff.rfl⟩, (blk_cell hq.2 0).trans rfl, fun b => Iff.rfl, fun h => ?_⟩, by simp [Tm.renSL], by simp [ownB], by simpa [Tm.renSL] using OwnR.nil ..⟩
    · rcases hb with (rfl | hb) | rfl
      · omega
      · simp [ownB] at hb
      · omega
    · rcases h with h | h
      · omega
      · simp [ownB] at h
  case round =>
    obtain ⟨j, sj, Mj, hj, rfl, hz, hb, hMj, hst, hsj, hob, hown⟩ := hrel
    have hvl : (Tm.renSL seenF [] (l.take j)).1.length = j := by rw [Tm.renSL_length]; simp; omega
    have HB := hid hb
    have HMJ := hid hMj
    have HST := hid hst
    have HSJ := hid hsj
    have HOB := hid hob
    have HO := hid hown
    have HVL := hid hvl
    clear hb hMj hst hsj hob hown hvl
    by_cases hlt : j < l.length
    · obtain ⟨rfl, hAb⟩ := HA.out (by omega)
      obtain ⟨sa, sc, c0, c1, c2, c3, hr⟩ := tm_cells HE.out hAb (Keeps.of_below HB.out) hlt
      have lb : b < wr.heap.size := World.block_lt_of_cell? wr _ c0
      -- what the term leads to lies below
      have hr0 := HE.out
      obtain ⟨vs0, hl0, hrep0, hrow0⟩ := hr0 j _ (List.getElem?_eq_getElem hlt)
      obtain ⟨sa0, sc0, rfl, -⟩ := Tm.rep4 hrep0
      obtain ⟨-, -, -, d3⟩ := rowAt4 (RowAt.keeps hAb hrow0 (Keeps.of_below (A := A) HB.out))
      have hsame : Value.slice sa l[j].args.length sc = Value.slice sa0 l[j].args.length sc0 := Option.some.inj (c3.symm.trans d3)
      simp only [Value.slice.injEq, true_and] at hsame
      obtain ⟨rfl, rfl⟩ := hsame
      have hrep1 := Tm.rep_lasts.2.1 _ (fun b => A b ∧ b < w.heap.size) _ _ _ hrep0 (fun b hb h => ⟨h, hb⟩)
      have HR := hid (Tm.rep_lasts.1 _ _ wr _ _ hrep1 (Keeps.of_below HB.out))
      clear hr hr0 hl0 hrep0 hrow0 d3 hrep1
      have hcw := fun o => (Keeps.alloc (fun _ => True) wr o).cell trivial HST.out.cw
      go_wp2_with fail
      have hnd2 : (Tm.renS seenF sj l[j]).2.length ≤ 4194303 := by
        have h1 := Tm.renSL_part l [] j hlt
        rw [HSJ.out]
        omega
      refine (tidy1_ok _ _ _ l[j] sj Mj (fun b => A b ∧ b < w.heap.size) _ [_, _, _, _] ((tdInv_law _ _ _).keeps _ _ _ _ HST.out (Keeps.alloc _ _ _)) hnd2 (Tm.rep_lasts.1 _ _ _ _ _ HR.out (Keeps.alloc _ _ _)) (fun b hb => ⟨by simp; omega, fun h => by have := HMJ.out b h; omega⟩)).mono ?_
      rintro e w1 ⟨us, M2, rfl, hch, hM2, hst2, hr⟩
      obtain ⟨sa', sc', rfl, -⟩ := Tm.rep4 hr
      have hsz := hch.size
      simp only [World.size_alloc] at hsz hM2 hr
      have hlt2 := HO.out.lt
      have hM2l := (tdInv_law _ _ _).lt _ _ _ hst2
      have hMM : ∀ b, M2 b → w.heap.size ≤ b := fun b hb => by
        rcases hM2 b hb with h1 | h1
        · exact HMJ.out b h1
        · omega
      have hn2 : ∀ b, b < wr.heap.size + 1 → ¬ Mj b → ¬ M2 b := fun b hb hn h => by
        rcases hM2 b h with h1 | h1
        · exact hn h1
        · omega
      have hHO := HO.out.alloc Tm.rep_lasts (.cells #[.int .i64 l[j].kind, .int .i64 l[j].n, .string l[j].s, .slice sa l[j].args.length sc] 24)
      have HO1 := hid (((hHO.mono (A' := fun b => w.heap.size + 2 ≤ b ∧ ¬ M2 b ∧ ¬ Mj b) Tm.rep_lasts (fun b hb hb' => ⟨hb'.1, hn2 b (by simpa using hb) hb'.2, hb'.2⟩)).keeps (B := fun b => ¬ Mj b) Tm.rep_lasts (hch.keeps fun _ _ h => h) (fun _ h => h.2.2) HOB.out).mono (A' := fun b => w.heap.size + 2 ≤ b ∧ ¬ M2 b) Tm.rep_lasts (fun b _ hb => ⟨hb.1, hb.2.1⟩))
      have HOB2 : Hid (∀ b, ownB u5 = some b → ¬ M2 b) := fun b hb => hn2 b (by have := (hlt2 b hb).2; omega) (HOB.out b hb)
      have HN := hid (show Tm.rep (fun b => (w.heap.size + 2 ≤ b ∧ ¬ M2 b) ∧ ownB u5 ≠ some b) w1 _ _ from Tm.rep_lasts.2.1 _ _ _ _ _ hr fun b _ hb => ⟨⟨by omega, hb.2⟩, fun e => by have := (hlt2 b e).2; omega⟩)
      have HL := hid (show (Tm.renSL seenF [] (l.take j)).1.length < 4194304 ∧ w.heap.size + 2 ≤ w1.heap.size by rw [HVL.out]; omega)
      have HB2 := hid (show Below w.heap.size w w1 from ((Ch.of_below (M := fun _ => False) (HB.out.alloc (by omega) _)).trans hch (fun b hb => .inr (HMJ.out b hb))).below (fun _ _ h => h))
      have HST2 := hid hst2
      have HM2l := hid hM2l
      have HMM := hid hMM
      clear hr hch hHO hst2 hM2l hMM hn2 hM2
      go_wp2_with (at_builtin; refine wpList_app1 rfl (.tmp 15) (.tmp 19) 22 rfl (w.heap.size + 2) 24 4 56 tyTerm Tm.rep_lasts u5 _ rfl HO1.out (Tm.renS seenF sj l[j]).1 [_, _, _, _] rfl rfl HN.out HL.out ?_; intro v2 w2 hown2 hgrew)
      go_roundw
      case rel =>
        have hk2 := hgrew.keeps (A := fun b => ownB u5 ≠ some b) (fun _ h => h)
        have hka := (Keeps.alloc (fun b => ownB u5 ≠ some b) w1 (.cells #[.int .i64 (Tm.renS seenF sj l[j]).1.kind, .int .i64 (Tm.renS seenF sj l[j]).1.n, .string (Tm.renS seenF sj l[j]).1.s, .slice sa' (Tm.renS seenF sj l[j]).1.args.length sc'] 24)).trans hk2
        refine ⟨j + 1, (Tm.renS seenF sj l[j]).2, M2, by omega, by go_num, by have := hgrew.size; simp only [World.size_alloc] at this; omega, hgrew.below (HB2.out.alloc (by omega) _) (by simp; omega) (fun b hb => by have := (hlt2 b hb).1; omega), HMM.out, (tdInv_law _ _ _).keeps _ _ _ _ HST2.out (hka.mono fun b _ hb e => HOB2.out b e hb), ?_, fun b hb hm => ?_, ?_⟩
        · rw [List.take_succ_eq_append_getElem hlt, Tm.renSL_snoc, ← HSJ.out]
        · rcases hgrew.block with h1 | h1
          · exact HOB2.out b (h1.symm.trans hb) hm
          · have h2 := h1 b hb
            have h3 := HM2l.out b hm
            simp only [World.size_alloc] at h2
            omega
        · rw [List.take_succ_eq_append_getElem hlt, Tm.renSL_snoc, ← HSJ.out]; exact hown2
      case measure => simp [intOf]; omega
    · have : j = l.length := by omega
      subst this
      go_wp2_with fail
      go_ret
      have hO := HO.out
      rw [List.take_length] at hO
      exact ⟨_, rfl, HB.out, (hO.mono Tm.rep_lasts (fun b _ hb => show New w b by unfold New; omega)).sl Tm.rep_lasts (by rw [Tm.renSL_length]; exact hlb) (fun b hb => by unfold New; omega)⟩
theorem tidy_ok (l : List Tm) (hnd : Tm.nodesL l ≤ 4194303) (A : Nat → Prop) (w : World) (v : Value) (hv : TmsR A w l v) :
    Calls Try.prog 15 #[v] w (Pure w fun v' w' => TmsR (New w) w' (Tm.renSL seenF [] l).1 v') :=
  tidyS_ok l (by have h1 := Tm.renSL_szL (sz := List.length) seenF_sz l []; simp only [List.length_nil] at h1; omega) A w v hv
end Go.Proofs.Ytlpmfkpefoegeab
namespace Go.Proofs.Ytlpmfkpefoegeab
set_option linter.unusedVariables false
set_option linter.unusedSimpArgs false
section
variable {P : List Cl}
def Sv.more (s : Sv) (m : Nat) : Sv := { s with fuel := s.fuel + m }
end
theorem start_ok {P : List Cl} {Q : List Tm} {vars : Int} {f : Nat} (hP : GoodP P) (hQ : GoodQ Q vars) (hf : f ≤ 150) : SvOk P ⟨[], [], vars, f, []⟩ ∧ GlsOk vars (Q.map fun t => ⟨t, 0⟩) := by
  obtain ⟨h0, h8, h5, hl⟩ := hQ
  refine ⟨⟨hP, h0, EnvOk.nil _, by simp, by simp, ?_, ?_, ?_⟩, ?_⟩
  · simp only [pot, List.map_nil, List.sum_nil]; omega
  · simp only [pot, List.map_nil, List.sum_nil, List.length_nil]; omega
  · simpa using hf
  · intro g hg
    obtain ⟨t, ht, rfl⟩ := List.mem_map.1 hg
    exact ⟨(hl t ht).2.1, by simp⟩
theorem solveF_cases (P : List Cl) (Q : List Tm) (vars fuel : Int) : (¬ (GoodP P ∧ GoodQ Q vars) ∧ solveF P Q vars fuel = ([], 1)) ∨ ((GoodP P ∧ GoodQ Q vars) ∧ (fuel < 0 ∨ fuel > 150) ∧ solveF P Q vars fuel = ([], 2)) ∨
    ((GoodP P ∧ GoodQ Q vars) ∧ 0 ≤ fuel ∧ fuel ≤ 150 ∧ solveF P Q vars fuel = ((runF P vars.toNat (fuel.toNat + 14) (Q.map fun t => ⟨t, 0⟩) ⟨[], [], vars, fuel.toNat, []⟩).out, 0)) := by
  unfold solveF
  by_cases h : GoodP P ∧ GoodQ Q vars
  · rw [if_neg (by simpa using h)]
    by_cases h2 : fuel < 0 ∨ fuel > 150
    · rw [if_pos h2]; exact .inr (.inl ⟨h, h2, rfl⟩)
    · rw [if_neg h2]; exact .inr (.inr ⟨h, by omega, by omega, rfl⟩)
  · rw [if_pos h]; exact .inl ⟨h, rfl⟩
structure Td where
  t : Tm
  call : Nat
structure Pv where
  fuel : Nat
  vars : Int
  out : List Ev
  ended : Bool
  calls : Nat
def Pv.put (p : Pv) (kind : Int) : Pv := { p with out := p.out ++ [⟨kind, []⟩], ended := true }
structure Fr where
  call : Nat
  g : Td
  rest : List Td
  gg : Gl
  grest : List Gl
  env : Env
  next : Nat
  lev : Nat
def chsOf (P : List Cl) (fr : List Fr) : List Chc := fr.filterMap fun f => if f.next < P.length then some ⟨f.gg :: f.grest, f.next, f.env.length⟩ else none
def below (c : Nat) (fr : List Fr) : List Fr := fr.dropWhile fun f => decide (c ≤ f.call)
def GRel (P : List Cl) (fr : List Fr) : List Td → List Gl → Prop
  | [], [] => True
  | a :: td, b :: gl => (a.t = b.t ∧ b.bar = (chsOf P (below a.call fr)).length) ∧ GRel P fr td gl
  | _, _ => False
def Desc (td : List Td) : Prop := td.Pairwise fun a b => b.call ≤ a.call
def FrsOk (P : List Cl) : List Fr → Prop
  | [] => True
  | f :: fr => FrsOk P fr ∧ GRel P fr (f.g :: f.rest) (f.gg :: f.grest) ∧ (∀ x ∈ fr, x.call < f.call) ∧ (∀ a ∈ f.g :: f.rest, a.call < f.call) ∧ Desc (f.g :: f.rest) ∧ (∀ x ∈ fr, x.env <+: f.env)
section
variable {P : List Cl} {q : Nat}
end
section
variable {P : List Cl} {q : Nat}
structure Lnk (P : List Cl) (q : Nat) (s : Sv) (p : Pv) (fr : List Fr) : Prop where
  ok : SvOk P { s with choices := chsOf P fr }
  q : (q : Int) ≤ s.vars
  frs : FrsOk P fr
  fuel : p.fuel = s.fuel
  vars : s.vars = p.vars
  out : s.out = p.out
  ended : p.ended = false
  pre : ∀ x ∈ fr, x.env <+: s.env
  lev : ∀ x ∈ fr, s.fuel < x.lev
  calls : ∀ x ∈ fr, x.call ≤ p.calls
structure LnkG (P : List Cl) (q : Nat) (s : Sv) (p : Pv) (fr : List Fr) (td : List Td) (gl : List Gl) : Prop extends Lnk P q s p fr where
  chs : s.choices = chsOf P fr
  gls : GlsOk s.vars gl
  rel : GRel P fr td gl
  desc : Desc td
  tcalls : ∀ a ∈ td, a.call ≤ p.calls
theorem SvOk.pop {s : Sv} {c : Chc} {cs : List Chc} (h : SvOk P { s with choices := c :: cs }) : SvOk P { s with choices := cs, env := s.env.take c.trail } := by
  have hc := h.chc c (by simp)
  obtain ⟨h1, h2, h3, h4, h5, h6, h7, h8⟩ := h
  simp only at h1 h2 h3 h4 h5 h6 h7 h8
  rw [pot_cons] at h6 h7
  have hT := List.pairwise_cons.1 h5
  have htr := hc.trail
  simp only at htr
  have hEl : (s.env.take c.trail).length = c.trail := by rw [List.length_take]; omega
  refine ⟨h1, h2, h3.take _, fun x hx => ?_, hT.2, by simp only; omega, by simp only [hEl]; omega, by simp only [List.length_cons] at h8 ⊢; omega⟩
  have k := h4 x (by simp [hx])
  exact ⟨k.ne, k.gls, k.one, k.lt, by simp only [hEl]; exact hT.1 x hx⟩
end
end Go.Proofs.Ytlpmfkpefoegeab
namespace Go.Proofs.Ytlpmfkpefoegeab
set_option linter.unusedVariables false
set_option linter.unusedSimpArgs false
open Go.RowKit
section
variable {P : Program} {ops : Array Oper} {Q : Exit → Act → World → Prop}
def tailOK2 (ops : Array Oper) (L : Nat) (ps : Nat → Bool) : Bool := decide (L ≤ ops.size) && (List.range ops.size).all fun i => decide (i < L) || (List.range L).all fun k => ps k || waits ops i k
def apartOK (ops : Array Oper) (L : Nat) (ps : Nat → Bool) : Bool :=
  Region.noSelect ops && (List.range L).all fun p => !ps p || (List.range ops.size).all fun j => j == p || waits ops j p || waits ops p j || (match ops[p]?, ops[j]? with | some oi, some oj => oi.apart ops oj | _, _ => false)
theorem wpAny_front2 {L : Nat} {ps : Nat → Bool} {a0 : Act} {Inv : World → Prop} {Po : Nat → Value → World → Prop} {Rl : World → World → Prop}
    (ht : tailOK2 ops L ps = true) (hap : apartOK ops L ps = true) (hQ : ∀ c (a : Act) t w, Q (.panic c) ⟨t, a.defers⟩ w → Q (.panic c) a w) (hd : dstsOKL ops L a0.tmps.size = true) (hst : ∀ i v w w', Po i v w → Rl w w' → Po i v w') (hinv : ∀ w w', Inv w → Rl w w' → Inv w')
    (hpu : ∀ i o, i < L → ps i = true → ops[i]? = some o → ∀ (f : Nat → Value) (a : Act) (w : World), Inv w → (∀ k, waits ops i k = true → Po k (f k) w) →
      (∀ k s, waits ops i k = true → dstOf ops k = some s → a.tmps[s]? = some (f k)) → (∀ s, noDstL ops L s = true → a.tmps[s]? = a0.tmps[s]?) → ∃ v, Yields P ops o v a ∧ Po i v w)
    (hop : ∀ i, i < L → ps i = false → ∀ (f : Nat → Value) (a : Act) (w : World), Inv w → (∀ k, waits ops i k = true → Po k (f k) w) →
      (∀ k s, waits ops i k = true → dstOf ops k = some s → a.tmps[s]? = some (f k)) → (∀ s, noDstL ops L s = true → a.tmps[s]? = a0.tmps[s]?) →
      wpOp P ops Q i (fun a' w' => ∃ v, a' = a.put (dstOf ops i) v ∧ Po i v w' ∧ Rl w w') a w)
    (hend : ∀ (f : Nat → Value) (w : World), Inv w → (∀ i, i < L → Po i (f i) w) →
      wpAny P .any ops Q (ops.size - L) (List.replicate L true ++ List.replicate (ops.size - L) false).toArray ⟨fillT f 0 (ops.toList.take L) a0.tmps, a0.defers⟩ w)
    (hbk : backs ops = true) :
    ∀ (fuel : Nat) (f : Nat → Value) (listed : Array Bool) (a : Act) (w : World), listed.size = ops.size → (listed.toList.filter (· == false)).length = fuel → Inv w → ComeL ops L Po a0 f listed a w →
      wpAny P .any ops Q fuel listed a w := by
  obtain ⟨hlt, huniq⟩ := dstsOKL_spec hd
  unfold tailOK2 at ht
  simp only [Bool.and_eq_true, decide_eq_true_eq, List.all_eq_true, List.mem_range, Bool.or_eq_true] at ht
  obtain ⟨hL, htail⟩ := ht
  unfold apartOK at hap
  simp only [Bool.and_eq_true] at hap
  obtain ⟨hsel, hap⟩ := hap
  -- all of the first have come up
  have close : ∀ (fuel : Nat) (f : Nat → Value) (listed : Array Bool) (a : Act) (w : World), listed.size = ops.size → (listed.toList.filter (· == false)).length = fuel → Inv w → ComeL ops L Po a0 f listed a w →
      (∀ k, k < L → listed.getD k false = true) → wpAny P .any ops Q fuel listed a w := by
    intro fuel f listed a w hls hn hw hc hall
    have hl : listed = (List.replicate L true ++ List.replicate (ops.size - L) false).toArray := by
      apply Array.ext
      · simp; omega
      · intro i h1 h2
        have h3 : listed.getD i false = listed[i] := by simp [Array.getD, h1]
        by_cases hi : i < L
        · have h4 := hall i hi
          rw [h3] at h4
          rw [h4]
          simp only [List.getElem_toArray]
          rw [List.getElem_append_left (by simpa using hi)]
          simp
        · have h4 : listed[i] = false := by
            cases hx : listed[i] with
            | false => rfl
            | true => exact absurd (hc.front i (by rw [h3]; exact hx)) hi
          rw [h4]
          simp only [List.getElem_toArray]
          rw [List.getElem_append_right (by simp; omega)]
          simp
    have hf : fuel = ops.size - L := by
      rw [← hn, hl]
      simp
    have : a = ⟨fillT f 0 (ops.toList.take L) a0.tmps, a0.defers⟩ := by
      obtain ⟨t, d⟩ := a
      have h1 := hc.defers
      have h2 := hc.size
      simp only at h1 h2
      subst h1
      congr 1
      refine Array.ext_getElem? fun s => ?_
      have hto : ∀ (k : Nat) (o : Oper), (ops.toList.take L)[k]? = some o → k < L ∧ ops[k]? = some o := fun k o hk => by
        have hkl := (List.getElem?_eq_some_iff.1 hk).1
        simp only [List.length_take] at hkl
        rw [List.getElem?_take_of_lt (by omega), Array.getElem?_toList] at hk
        exact ⟨by omega, hk⟩
      by_cases hs : s < a0.tmps.size
      · have hg := fillT_get f s (ops.toList.take L) 0 a0.tmps hs
        by_cases he : ∃ k, k < L ∧ dstOf ops k = some s
        · obtain ⟨k, hkL, hk⟩ := he
          have hkl := dstOf_lt hk
          have e1 := (hc.new k hkL (hall k hkL)).2 s hk
          simp only at e1
          rw [e1]
          have hko : ops[k]? = some ops[k] := Array.getElem?_eq_getElem hkl
          have hkd : ops[k].dst = some s := by unfold dstOf at hk; rw [hko] at hk; simpa using hk
          rw [hg.2 k ops[k] (by rw [List.getElem?_take_of_lt hkL, Array.getElem?_toList]; exact hko) hkd (fun j o' hj hd' => by
            obtain ⟨hjL, hj'⟩ := hto j o' hj
            exact huniq j k s hjL hkL hk (by unfold dstOf; rw [hj']; simpa using hd'))]
          simp
        · rw [hg.1 (fun k o hk hd' => by
            obtain ⟨hkL, hk'⟩ := hto k o hk
            exact he ⟨k, hkL, by unfold dstOf; rw [hk']; simpa using hd'⟩)]
          exact hc.old s (fun k hkl hk => he ⟨k, hc.front k hkl, hk⟩)
      · rw [Array.getElem?_eq_none (by omega), Array.getElem?_eq_none (by rw [fillT_size]; omega)]
    rw [this, hl, hf]
    exact hend f w hw fun i hi => (hc.new i hi (hall i hi)).1
  intro fuel
  induction fuel with
  | zero =>
    intro f listed a w hls hn hw hc
    refine close 0 f listed a w hls hn hw hc fun k hk => ?_
    have h0 : listed.toList.filter (· == false) = [] := List.length_eq_zero_iff.1 hn
    rw [List.filter_eq_nil_iff] at h0
    have h1 : k < listed.size := by omega
    have h3 := h0 listed[k] (by simp)
    simp [Array.getD, h1]
    simpa using h3
  | succ fuel ih =>
    intro f listed a w hls hn hw hc
    by_cases hall : ∀ k, k < L → listed.getD k false = true
    · exact close _ f listed a w hls hn hw hc hall
    have hkfront : ∀ k, listed.getD k false = true → k < ops.size := fun k hk => Nat.lt_of_lt_of_le (hc.front k hk) hL
    -- the state behind operation i, which yields v
    have step : ∀ (i : Nat) (v : Value) (w' : World), i < L → listed.getD i false = false → Po i v w' → (∀ k u, Po k u w → Po k u w') → ComeL ops L Po a0 (fun k => if k = i then v else f k) (listed.setIfInBounds i true) (a.put (dstOf ops i) v) w' := by
      intro i v w' hiL hif hp hr
      have hset : ∀ k, (listed.setIfInBounds i true).getD k false = true → k = i ∨ (k ≠ i ∧ listed.getD k false = true) := fun k hk => by
        by_cases hki : k = i
        · exact .inl hki
        · refine .inr ⟨hki, ?_⟩
          rwa [getD_set_ne false (Ne.symm hki)] at hk
      refine ⟨?_, ?_, fun s hs => ?_, fun k hk hl => ?_, fun k hk => ?_⟩
      · unfold Act.put; split <;> exact hc.defers
      · unfold Act.put; split <;> simp [hc.size]
      · have h1 : dstOf ops i ≠ some s := hs i (by rw [Array.getD_eq_getD_getElem?, Array.getElem?_setIfInBounds_self_of_lt (by omega)]; rfl)
        rw [show (a.put (dstOf ops i) v).tmps[s]? = a.tmps[s]? by
          unfold Act.put
          cases hdi : dstOf ops i with
          | none => rfl
          | some d => simp only; rw [Array.getElem?_setIfInBounds_ne (by rintro rfl; exact h1 hdi)]]
        refine hc.old s fun k hk => hs k ?_
        by_cases hki : i = k
        · subst hki; rw [hif] at hk; cases hk
        · rwa [getD_set_ne false hki]
      · rcases hset k hl with rfl | ⟨hki, hk2⟩
        · simp only [if_true]
          refine ⟨hp, fun s hs => ?_⟩
          unfold Act.put
          rw [hs]
          simp only
          rw [Array.getElem?_setIfInBounds_self_of_lt (by rw [hc.size]; exact hlt k s hk hs)]
        · simp only [if_neg hki]
          obtain ⟨h1, h2⟩ := hc.new k hk hk2
          refine ⟨hr k _ h1, fun s hs => ?_⟩
          unfold Act.put
          cases hdi : dstOf ops i with
          | none => exact h2 s hs
          | some d => simp only; rw [Array.getElem?_setIfInBounds_ne (by rintro rfl; exact hki (huniq k i _ hk hiL hdi hs))]; exact h2 s hs
      · rcases hset k hk with rfl | ⟨_, hk2⟩
        · exact hiL
        · exact hc.front k hk2
    have count : ∀ i, i < L → listed.getD i false = false → ((listed.setIfInBounds i true).toList.filter (· == false)).length = fuel := by
      intro i hiL hif
      have h2 : listed.toList[i]? = some false := by
        have h3 : i < listed.size := by omega
        simp only [Array.getD, h3, dif_pos] at hif
        rw [Array.getElem?_toList, Array.getElem?_eq_getElem h3]
        exact congrArg some hif
      have h4 : ∀ (l : List Bool) (i : Nat), l[i]? = some false → ((l.set i true).filter (· == false)).length + 1 = (l.filter (· == false)).length := by
        intro l
        induction l with
        | nil => intro i h; simp at h
        | cons b r ihr =>
          intro i h
          cases i with
          | zero => simp only [List.getElem?_cons_zero, Option.some.injEq] at h; subst h; simp
          | succ i => have := ihr i (by simpa using h); cases b <;> simp_all
      have h5 := h4 _ _ h2
      rw [Array.toList_setIfInBounds]
      omega
    -- what a ready operation knows
    have known : ∀ i oi, ops[i]? = some oi → (∀ e ∈ oi.after, Region.binds .any e = true → listed.getD e.on false = true) → ∀ k, waits ops i k = true → listed.getD k false = true := by
      intro i oi hoi hdep k hk
      simp only [waits, hoi, Option.map_some, Option.getD_some] at hk
      obtain ⟨e, he, hb⟩ := Array.any_eq_true'.1 hk
      simp only [Bool.and_eq_true, beq_iff_eq] at hb
      rw [← hb.2]; exact hdep e he hb.1
    have hunl : ∀ i, i < ops.size → listed.getD i true = false → listed.getD i false = false := fun i hi hiun => by
      have : i < listed.size := by omega
      simp only [Array.getD, this, dif_pos] at hiun ⊢
      exact hiun
    by_cases hA : ∃ p, p < L ∧ ps p = true ∧ p ∈ Region.ready .any ops listed
    · -- a pure one is ready: it goes first
      obtain ⟨p, hpL, hps, hrd⟩ := hA
      obtain ⟨hiun, oi, hoi, hdep⟩ := mem_ready.1 hrd
      have hpl : p < ops.size := (Array.getElem?_eq_some_iff.1 hoi).1
      have hif := hunl p hpl hiun
      have hw1 := known p oi hoi hdep
      obtain ⟨v, hy, hpo⟩ := hpu p oi hpL hps hoi f a w hw (fun k hk => (hc.new k (hc.front k (hw1 k hk)) (hw1 k hk)).1) (fun k s hk hs => (hc.new k (hc.front k (hw1 k hk)) (hw1 k hk)).2 s hs)
        (fun s hs => hc.old s fun k hk hks => by
          unfold noDstL at hs
          simp only [List.all_eq_true, List.mem_range, bne_iff_ne] at hs
          exact hs k (hc.front k hk) hks)
      have hd' : dstOf ops p = oi.dst := by simp [dstOf, hoi]
      refine wpAny_first hoi (Region.noSelect_spec hsel) (fun c a w h => by unfold Act.put at h; split at h <;> first | exact hQ c a _ w h | exact h) fuel listed a w (fun j oj hoj hjp hjun hnw => ?_) hrd hy ?_
      · have h1 := List.all_eq_true.1 hap p (List.mem_range.2 hpL)
        simp only [hps, Bool.not_true, Bool.false_or, List.all_eq_true, List.mem_range] at h1
        have h2 := h1 j (Array.getElem?_eq_some_iff.1 hoj).1
        simp only [Bool.or_eq_true, beq_iff_eq] at h2
        rcases h2 with ((h2 | h2) | h2) | h2
        · exact absurd h2 hjp
        · exfalso
          simp only [waits, hoj, Option.map_some, Option.getD_some] at h2
          obtain ⟨e, he, hb⟩ := Array.any_eq_true'.1 h2
          simp only [Bool.and_eq_true, beq_iff_eq] at hb
          exact hnw e he hb.1 hb.2
        · exfalso
          have h3 := hw1 j h2
          have h4 := hunl j (Array.getElem?_eq_some_iff.1 hoj).1 hjun
          rw [h4] at h3; cases h3
        · rw [hoi, hoj] at h2
          exact h2
      · rw [← hd']
        exact ih (fun k => if k = p then v else f k) _ _ _ (by simpa using hls) (count p hpL hif) hw (step p v w hpL hif hpo (fun k u h => h))
    refine ⟨fun hr => ?_, fun i hi => ?_⟩
    · exfalso
      refine hall fun k hk => ?_
      exact backs_all hbk listed hls hr k (by omega)
    obtain ⟨hiun, oi, hoi, hdep⟩ := mem_ready.1 hi
    have hil : i < ops.size := (Array.getElem?_eq_some_iff.1 hoi).1
    have hw1 := known i oi hoi hdep
    have hif := hunl i hil hiun
    have hiL : i < L := by
      refine Classical.byContradiction fun hge => hall fun k => ?_
      induction k using Nat.strongRecOn with
      | _ k ihk =>
        intro hk
        cases hps : ps k with
        | false =>
          rcases htail i hil with h1 | h1
          · exact absurd h1 hge
          · rcases h1 k hk with h2 | h2
            · rw [hps] at h2; cases h2
            · exact hw1 k h2
        | true =>
          refine Classical.byContradiction fun hun => hA ⟨k, hk, hps, ?_⟩
          have hko : ops[k]? = some (ops[k]'(by omega)) := Array.getElem?_eq_getElem (by omega)
          refine mem_ready.2 ⟨?_, _, hko, fun e he hb => ?_⟩
          · have h3 : k < listed.size := by omega
            simp only [Array.getD, h3, dif_pos] at hun ⊢
            simpa using hun
          · have hlt' : e.on < k := by
              unfold backs at hbk
              rw [List.all_eq_true] at hbk
              have h1 := hbk k (List.mem_range.2 (by omega))
              rw [hko] at h1
              simp only [Option.map_some, Option.getD_some, Array.all_eq_true_iff_forall_mem] at h1
              have h2 := h1 e he
              simp only [hb, Bool.not_true, Bool.false_or, decide_eq_true_eq] at h2
              exact h2
            exact ihk e.on hlt' (by omega)
    have hnps : ps i = false := by
      cases hps : ps i with
      | false => rfl
      | true => exact absurd ⟨i, hiL, hps, hi⟩ hA
    refine wpOp_mono ?_ (hop i hiL hnps f a w hw (fun k hk => (hc.new k (hc.front k (hw1 k hk)) (hw1 k hk)).1) (fun k s hk hs => (hc.new k (hc.front k (hw1 k hk)) (hw1 k hk)).2 s hs)
      (fun s hs => hc.old s fun k hk hks => by
        unfold noDstL at hs
        simp only [List.all_eq_true, List.mem_range, bne_iff_ne] at hs
        exact hs k (hc.front k hk) hks))
    rintro a' w' ⟨v, rfl, hp, hr⟩
    exact ih (fun k => if k = i then v else f k) _ _ _ (by simpa using hls) (count i hiL hif) (hinv _ _ hw hr) (step i v w' hiL hif hp (fun k u h => hst k u _ _ h hr))
theorem wp_region_front2 {id : Nat} (L : Nat) (ps : Nat → Bool) {a0 : Act} {w0 : World} {Inv : World → Prop} {Po : Nat → Value → World → Prop} {Rl : World → World → Prop} (hm : P.follows .mixedOrders = true)
    (ht : tailOK2 ops L ps = true) (hap : apartOK ops L ps = true) (hQ : ∀ c (a : Act) t w, Q (.panic c) ⟨t, a.defers⟩ w → Q (.panic c) a w) (hd : dstsOKL ops L a0.tmps.size = true) (hbk : backs ops = true) (h0 : Inv w0.drew) (hst : ∀ i v w w', Po i v w → Rl w w' → Po i v w') (hinv : ∀ w w', Inv w → Rl w w' → Inv w')
    (hpu : ∀ i o, (ops.toList.take L)[i]? = some o → ps i = true → ∀ (f : Nat → Value) (a : Act) (w : World), Inv w → (∀ k, waits ops i k = true → Po k (f k) w) →
      (∀ k s, waits ops i k = true → dstOf ops k = some s → a.tmps[s]? = some (f k)) → (∀ s, noDstL ops L s = true → a.tmps[s]? = a0.tmps[s]?) → ∃ v, Yields P ops o v a ∧ Po i v w)
    (hop : ∀ i o, (ops.toList.take L)[i]? = some o → ps i = false → ∀ (f : Nat → Value) (a : Act) (w : World), Inv w → (∀ k, waits ops i k = true → Po k (f k) w) →
      (∀ k s, waits ops i k = true → dstOf ops k = some s → a.tmps[s]? = some (f k)) → (∀ s, noDstL ops L s = true → a.tmps[s]? = a0.tmps[s]?) →
      (Region.wanted o (yielded ops a.tmps) = true ∧ Ans P a.eval o w (fun v w' => Po i v w' ∧ Rl w w')) ∨ (Region.wanted o (yielded ops a.tmps) = false ∧ Po i undef w ∧ Rl w w))
    (hend : ∀ (f : Nat → Value) (w : World), Inv w → (∀ i, i < L → Po i (f i) w) →
      wpAny P .any ops Q (ops.size - L) (List.replicate L true ++ List.replicate (ops.size - L) false).toArray ⟨fillT f 0 (ops.toList.take L) a0.tmps, a0.defers⟩ w) :
    (Code.region id ops true).wp P Q a0 w0 := by
  have hno : ∀ k, (Array.replicate ops.size false).getD k false = false := fun k => by
    simp only [Array.getD_eq_getD_getElem?, Array.getElem?_replicate]
    split <;> rfl
  have hL : L ≤ ops.size := by
    have ht2 := ht
    unfold tailOK2 at ht2
    simp only [Bool.and_eq_true, decide_eq_true_eq] at ht2
    exact ht2.1
  refine wp_region_any hm (wpAny_front2 ht hap hQ hd hst hinv (fun i o hi hps ho f a w h1 h2 h3 h4 => hpu i o (by rw [List.getElem?_take_of_lt hi, Array.getElem?_toList]; exact ho) hps f a w h1 h2 h3 h4) (fun i hi hps f a w h1 h2 h3 h4 => ?_) hend hbk ops.size (fun _ => undef) (Array.replicate ops.size false) a0 w0.drew (by simp) ?_ h0 ⟨rfl, rfl, fun _ _ => rfl, fun k _ hk => ?_, fun k hk => ?_⟩)
  · have hil : i < ops.size := by omega
    exact wpOp_ans (Array.getElem?_eq_getElem hil) (hop i _ (by rw [List.getElem?_take_of_lt hi, Array.getElem?_toList, Array.getElem?_eq_getElem hil]) hps f a w h1 h2 h3 h4)
  · simp
  · rw [hno] at hk; cases hk
  · rw [hno] at hk; cases hk
end
end Go.Proofs.Ytlpmfkpefoegeab
