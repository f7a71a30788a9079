/-
  Reading, in plain data: the reader (sign by sign) and the document's parser (word by word) read the same.
-/
import Derived.Test.YtlpmfkpefoegeacGreatDoorQLib
namespace Go.Proofs.YtlpmfkpefoegeacGreatDoor
set_option linter.unusedVariables false
set_option linter.unusedSimpArgs false
open Go.RowKit
inductive Tm where
  | mk (kind n : Int) (s : ByteArray) (args : List Tm)
  deriving Inhabited
namespace Tm
def kind : Tm → Int | mk k _ _ _ => k
def n : Tm → Int | mk _ n _ _ => n
def s : Tm → ByteArray | mk _ _ s _ => s
def args : Tm → List Tm | mk _ _ _ l => l
theorem induct {P : Tm → Prop} (h : ∀ k n s l, (∀ t ∈ l, P t) → P (mk k n s l)) : ∀ t, P t := by
  intro t
  refine Tm.rec (motive_1 := P) (motive_2 := fun l => ∀ t ∈ l, P t) (fun k n s l ih => h k n s l ih) (fun t ht => by cases ht) (fun x r hx hr t ht => ?_) t
  cases ht with
  | head => exact hx
  | tail _ hm => exact hr t hm
mutual
/-- how a term's four cells read -/
def rep (A : Nat → Prop) (w : World) : Tm → List Value → Prop
  | mk k n s l, vs => I64 k ∧ I64 n ∧ s.size ≤ 1048576 ∧ ∃ v b off, vs = [.int .i64 k, .int .i64 n, .string s, v] ∧ SlIs A l.length v b off ∧ repL A w l b off
def repL (A : Nat → Prop) (w : World) : List Tm → Nat → Nat → Prop
  | [], _, _ => True
  | t :: r, b, off => (∃ vs, rep A w t vs ∧ RowAt w b off vs) ∧ repL A w r b (off + 4)
end
theorem rep_len {A : Nat → Prop} {w : World} {t : Tm} {vs : List Value} (h : rep A w t vs) : vs.length = 4 := by
  cases t; simp only [rep] at h; obtain ⟨_, _, _, v, b, off, rfl, _⟩ := h; rfl
theorem repL_iff {A : Nat → Prop} {w : World} (l : List Tm) : ∀ (b off : Nat), repL A w l b off ↔ Elems A w 4 rep l b off := by
  induction l with
  | nil => intro b off; simp [repL, Elems]
  | cons t r ih =>
    intro b off
    simp only [repL, ih]
    constructor
    · rintro ⟨⟨vs, h1, h2⟩, h3⟩ i x hx
      cases i with
      | zero => simp at hx; subst hx; exact ⟨vs, rep_len h1, h1, by simpa using h2⟩
      | succ i =>
        obtain ⟨us, h4, h5, h6⟩ := h3 i x (by simpa using hx)
        exact ⟨us, h4, h5, by rw [show off + (i + 1) * 4 = off + 4 + i * 4 by omega]; exact h6⟩
    · intro h
      refine ⟨?_, fun i x hx => ?_⟩
      · obtain ⟨vs, _, h1, h2⟩ := h 0 t rfl
        exact ⟨vs, h1, by simpa using h2⟩
      · obtain ⟨vs, h1, h2, h3⟩ := h (i + 1) x (by simpa using hx)
        exact ⟨vs, h1, h2, by rw [show off + 4 + i * 4 = off + (i + 1) * 4 by omega]; exact h3⟩
theorem rep_iff {A : Nat → Prop} {w : World} {k n : Int} {s : ByteArray} {l : List Tm} {vs : List Value} :
    rep A w (mk k n s l) vs ↔ I64 k ∧ I64 n ∧ s.size ≤ 1048576 ∧ ∃ v, vs = [.int .i64 k, .int .i64 n, .string s, v] ∧ SlR 4 rep A w l v := by
  simp only [rep, repL_iff, SlR]
  constructor
  · rintro ⟨h1, h2, h3, v, b, off, rfl, h4, h5⟩
    exact ⟨h1, h2, h3, v, rfl, b, off, h4, h5⟩
  · rintro ⟨h1, h2, h3, v, rfl, b, off, h4, h5⟩
    exact ⟨h1, h2, h3, v, b, off, rfl, h4, h5⟩
theorem rep_lasts : Lasts rep := by
  refine ⟨fun A w w' t => ?_, fun A A' w t => ?_, fun A w t vs h => ?_⟩
  · induction t using induct with
    | h k n s l ih =>
      intro vs h hk
      rw [rep_iff] at h ⊢
      obtain ⟨h1, h2, h3, v, rfl, b, off, h4, h5⟩ := h
      refine ⟨h1, h2, h3, v, rfl, b, off, h4, fun i x hx => ?_⟩
      obtain ⟨us, h6, h7, h8⟩ := h5 i x hx
      have hA : A b := by
        obtain ⟨_, ⟨h0, _⟩ | ⟨_, hA, _⟩⟩ := h4
        · have := (List.getElem?_eq_some_iff.1 hx).1; omega
        · exact hA
      exact ⟨us, h6, ih x (List.mem_of_getElem? hx) us h7 hk, h8.keeps hA hk⟩
  · induction t using induct with
    | h k n s l ih =>
      intro vs h hk
      rw [rep_iff] at h ⊢
      obtain ⟨h1, h2, h3, v, rfl, b, off, h4, h5⟩ := h
      refine ⟨h1, h2, h3, v, rfl, b, off, ?_, fun i x hx => ?_⟩
      · by_cases hl : l = []
        · subst hl
          obtain ⟨h6, h7 | ⟨h7, _⟩⟩ := h4
          · exact ⟨h6, .inl h7⟩
          · simp at h7
        · exact h4.mono (hk b (h5.block_lt (by omega) hl))
      · obtain ⟨us, h6, h7, h8⟩ := h5 i x hx
        exact ⟨us, h6, ih x (List.mem_of_getElem? hx) us h7 hk, h8⟩
  · cases t with
    | mk k n s l =>
      rw [rep_iff] at h
      obtain ⟨_, _, _, v, rfl, b, off, h4, _⟩ := h
      obtain ⟨a, cap, rfl, _⟩ := h4.val
      simp [Value.oneCell']
theorem rep4 {A : Nat → Prop} {w : World} {t : Tm} {vs : List Value} (h : rep A w t vs) :
    ∃ a cap, vs = [.int .i64 t.kind, .int .i64 t.n, .string t.s, .slice a t.args.length cap] ∧ I64 t.kind ∧ I64 t.n ∧ t.s.size ≤ 1048576 ∧ t.args.length ≤ cap ∧ cap ≤ maxLen ∧ t.args.length ≤ 1048576 ∧
      SlR 4 rep A w t.args (.slice a t.args.length cap) := by
  cases t with
  | mk k n s l =>
    rw [rep_iff] at h
    obtain ⟨h1, h2, h3, v, rfl, h4⟩ := h
    obtain ⟨a, cap, b, off, rfl, h5, h6, h7, _, _⟩ := h4.at
    exact ⟨a, cap, rfl, h1, h2, h3, h5, h6, h7, h4⟩
end Tm
theorem rowAt4 {w : World} {b off : Nat} {v0 v1 v2 v3 : Value} (h : RowAt w b off [v0, v1, v2, v3]) :
    w.cell? ⟨b, off, none⟩ = some v0 ∧ w.cell? ⟨b, off + 1, none⟩ = some v1 ∧ w.cell? ⟨b, off + 2, none⟩ = some v2 ∧ w.cell? ⟨b, off + 3, none⟩ = some v3 :=
  ⟨h 0 _ rfl, h 1 _ rfl, h 2 _ rfl, h 3 _ rfl⟩
theorem tm_cells {A : Nat → Prop} {w wr : World} {l : List Tm} {b off : Nat} (he : Elems A w 4 Tm.rep l b off) (hA : A b) (hk : Keeps A w wr) {k : Nat} (hlt : k < l.length) :
    ∃ a cap, wr.cell? ⟨b, off + k * 4, none⟩ = some (.int .i64 l[k].kind) ∧ wr.cell? ⟨b, off + k * 4 + 1, none⟩ = some (.int .i64 l[k].n) ∧ wr.cell? ⟨b, off + k * 4 + 2, none⟩ = some (.string l[k].s) ∧
      wr.cell? ⟨b, off + k * 4 + 3, none⟩ = some (.slice a l[k].args.length cap) ∧ Tm.rep A wr l[k] [.int .i64 l[k].kind, .int .i64 l[k].n, .string l[k].s, .slice a l[k].args.length cap] := by
  obtain ⟨vs, hvl, hvr, hrow⟩ := he k _ (List.getElem?_eq_getElem hlt)
  have hvr' := Tm.rep_lasts.1 _ _ wr _ _ hvr hk
  have hrow' := RowAt.keeps hA hrow hk
  obtain ⟨sa, sc, rfl, -⟩ := Tm.rep4 hvr
  obtain ⟨c0, c1, c2, c3⟩ := rowAt4 hrow'
  exact ⟨sa, sc, c0, c1, c2, c3, hvr'⟩
abbrev TmsR := SlR 4 Tm.rep
theorem TmsR.keeps {A : Nat → Prop} {w w' : World} {l : List Tm} {v : Value} (h : TmsR A w l v) (hk : Keeps A w w') : TmsR A w' l v := SlR.keeps Tm.rep_lasts h hk
theorem TmsR.below {A : Nat → Prop} {w w' : World} {l : List Tm} {v : Value} (h : TmsR A w l v) (hk : Below w.heap.size w w') : TmsR A w' l v := SlR.keeps Tm.rep_lasts h (Keeps.of_below hk)
end Go.Proofs.YtlpmfkpefoegeacGreatDoor
namespace Go.Proofs.YtlpmfkpefoegeacGreatDoor
set_option linter.unusedVariables false
set_option linter.unusedSimpArgs false
abbrev Str := List UInt8
def bs (l : Str) : ByteArray := ⟨l.toArray⟩
def spB (c : UInt8) : Bool := c == 32 || c == 10 || c == 9 || c == 13
def lowB (c : UInt8) : Bool := decide (97 ≤ c.toNat) && decide (c.toNat ≤ 122)
def upB (c : UInt8) : Bool := decide (65 ≤ c.toNat) && decide (c.toNat ≤ 90)
def digB (c : UInt8) : Bool := decide (48 ≤ c.toNat) && decide (c.toNat ≤ 57)
def lows (s : Str) : Nat := (s.takeWhile lowB).length
def digs (s : Str) : Nat := (s.takeWhile digB).length
def spaceF (s : Str) : Str := s.dropWhile spB
def tmz : Tm := .mk 0 0 ⟨#[]⟩ []
structure Rd where
  s : Str
  vars : List Str
  bad : Bool
def Rd.space (r : Rd) : Rd := { r with s := spaceF r.s }
def Rd.kill (r : Rd) : Rd := { r with bad := true }
def Rd.at_ (sign : Str) (r : Rd) : Bool × Rd := if sign <+: spaceF r.s then (true, { r with s := (spaceF r.s).drop sign.length }) else (false, r.space)
def wordLen : Str → Nat
  | [] => 0
  | c :: r => if lowB c || upB c then 1 + lows r else 0
def numLen : Str → Nat
  | [] => 0
  | c :: r => if c = 45 then 1 + digs r else digs (c :: r)
def decV (d : Str) : Int := d.foldl (fun (n : Int) (c : UInt8) => 10 * n + ((c.toNat : Int) - 48)) 0
def digitsOf (t : Str) : Str := if t.head? = some 45 then t.tail else t
def valueF (t : Str) : Option Int :=
  if digitsOf t = [] ∨ (digitsOf t).length > 13 ∨ ((digitsOf t).head? = some 48 ∧ t ≠ [48]) then none
  else if decV (digitsOf t) > 1099511627776 then none
  else some (if digitsOf t = t then decV (digitsOf t) else - decV (digitsOf t))
def varF (vars : List Str) (w : Str) : Int × List Str := if w ∈ vars then ((vars.idxOf w : Nat), vars) else ((vars.length : Nat), vars ++ [w])
def argsR (f : Rd → Tm × Rd) : Nat → List Tm → Rd → List Tm × Rd
  | 0, l, r => (l, r)
  | k + 1, l, r =>
    if (f r).2.bad then (l ++ [(f r).1], (f r).2)
    else if ((f r).2.at_ [44]).1 then argsR f k (l ++ [(f r).1]) ((f r).2.at_ [44]).2
    else (l ++ [(f r).1], ((f r).2.at_ [44]).2)
def tailR (f : Rd → Tm × Rd) (w : Str) (r : Rd) : Tm × Rd :=
  if (r.at_ [40]).1 = false then (.mk 1 0 (bs w) [], (r.at_ [40]).2)
  else
    let l := argsR f ((r.at_ [40]).2.s.length + 1) [] (r.at_ [40]).2
    (.mk 3 0 (bs w) l.1, if (l.2.at_ [41]).1 then (l.2.at_ [41]).2 else (l.2.at_ [41]).2.kill)
def headR (f : Rd → Tm × Rd) (c : UInt8) (rest : Str) (vars : List Str) : Tm × Rd :=
  if upB c then (.mk 0 (varF vars ((c :: rest).take (wordLen (c :: rest)))).1 ⟨#[]⟩ [], ⟨(c :: rest).drop (wordLen (c :: rest)), (varF vars ((c :: rest).take (wordLen (c :: rest)))).2, false⟩)
  else if c = 33 then (.mk 1 0 (bs [33]) [], ⟨rest, vars, false⟩)
  else if c = 45 ∨ digB c = true then
    match valueF ((c :: rest).take (numLen (c :: rest))) with
    | some k => (.mk 2 k ⟨#[]⟩ [], ⟨(c :: rest).drop (numLen (c :: rest)), vars, false⟩)
    | none => (.mk 2 0 ⟨#[]⟩ [], ⟨c :: rest, vars, true⟩)
  else tailR f ((c :: rest).take (wordLen (c :: rest))) ⟨(c :: rest).drop (wordLen (c :: rest)), vars, false⟩
def termR : Nat → Rd → Tm × Rd
  | 0, r => (tmz, r.space.kill)
  | n + 1, r => if r.bad then (tmz, r.space.kill) else
    match spaceF r.s with
    | [] => (tmz, r.space.kill)
    | c :: rest => headR (termR n) c rest r.vars
/-! the parser -/
structure Ps where
  l : List Str
  vars : List Str
  bad : Bool
def Ps.kill (p : Ps) : Ps := { p with bad := true }
def Ps.take (w : Str) (p : Ps) : Bool × Ps := match p.l with
  | [] => (false, p)
  | x :: l => if x = w then (true, { p with l := l }) else (false, p)
def argsP (f : Ps → Tm × Ps) : Nat → List Tm → Ps → List Tm × Ps
  | 0, l, p => (l, p)
  | k + 1, l, p =>
    if p.bad then (l, p)
    else if (p.take [44]).1 = false then (l, p)
    else argsP f k (l ++ [(f (p.take [44]).2).1]) (f (p.take [44]).2).2
def tailP (f : Ps → Tm × Ps) (w : Str) (p : Ps) : Tm × Ps :=
  if (p.take [40]).1 = false then (.mk 1 0 (bs w) [], p)
  else
    let t := f (p.take [40]).2
    let l := argsP f (t.2.l.length + 1) [t.1] t.2
    (.mk 3 0 (bs w) l.1, if l.2.bad then l.2 else if (l.2.take [41]).1 then (l.2.take [41]).2 else l.2.kill)
def headP (f : Ps → Tm × Ps) (c : UInt8) (w : Str) (p : Ps) : Tm × Ps :=
  if c :: w = [33] then (.mk 1 0 (bs [33]) [], p)
  else if upB c then (.mk 0 (varF p.vars (c :: w)).1 ⟨#[]⟩ [], { p with vars := (varF p.vars (c :: w)).2 })
  else if c = 45 ∨ digB c = true then
    match valueF (c :: w) with
    | some k => (.mk 2 k ⟨#[]⟩ [], p)
    | none => (.mk 2 0 ⟨#[]⟩ [], p.kill)
  else tailP f (c :: w) p
def termP : Nat → Ps → Tm × Ps
  | 0, p => (tmz, p.kill)
  | n + 1, p => match p.l with
    | [] => (tmz, p.kill)
    | [] :: _ => (tmz, p.kill)
    | (c :: w) :: l => if lowB c = false ∧ upB c = false ∧ digB c = false ∧ c ≠ 45 ∧ c :: w ≠ [33] then (tmz, p.kill) else headP (termP n) c w { p with l := l }
def tokLen : Str → Nat
  | [] => 0
  | c :: r => if lowB c || upB c then 1 + lows r else if digB c || c == 45 then 1 + digs r else if c = 58 ∧ r.head? = some 45 then 2
    else if c = 40 ∨ c = 41 ∨ c = 44 ∨ c = 46 ∨ c = 33 then 1 else 0
def wordsN : Nat → Str → List Str
  | 0, _ => []
  | n + 1, s => match s with
    | [] => []
    | c :: r => if spB c then wordsN n r else if tokLen (c :: r) = 0 then [[]] else (c :: r).take (tokLen (c :: r)) :: wordsN n ((c :: r).drop (tokLen (c :: r)))
def words (s : Str) : List Str := wordsN s.length s
theorem wordsN_enough : ∀ (n m : Nat) (s : Str), s.length ≤ n → s.length ≤ m → wordsN n s = wordsN m s
  | 0, 0, s, _, _ => rfl
  | 0, m + 1, [], _, _ => rfl
  | n + 1, 0, [], _, _ => rfl
  | n + 1, m + 1, [], _, _ => rfl
  | n + 1, m + 1, c :: r, h1, h2 => by
    simp only [List.length_cons] at h1 h2
    simp only [wordsN]
    rw [wordsN_enough n m r (by omega) (by omega)]
    split
    · rfl
    · split
      · rfl
      · rename_i h
        rw [wordsN_enough n m _ (by simp only [List.length_drop, List.length_cons]; omega) (by simp only [List.length_drop, List.length_cons]; omega)]
  | 0, _ + 1, _ :: _, h, _ => by simp at h
  | _ + 1, 0, _ :: _, _, h => by simp at h
theorem words_nil : words [] = [] := rfl
theorem words_sp {c : UInt8} {r : Str} (h : spB c = true) : words (c :: r) = words r := by
  unfold words; simp only [List.length_cons, wordsN, h, if_true]
theorem words_bad {c : UInt8} {r : Str} (h : spB c = false) (h0 : tokLen (c :: r) = 0) : words (c :: r) = [[]] := by
  unfold words; simp only [List.length_cons, wordsN, h, h0, if_true, Bool.false_eq_true, if_false]
theorem words_tok {c : UInt8} {r : Str} (h : spB c = false) (h0 : tokLen (c :: r) ≠ 0) : words (c :: r) = (c :: r).take (tokLen (c :: r)) :: words ((c :: r).drop (tokLen (c :: r))) := by
  unfold words
  simp only [List.length_cons, wordsN, h, h0, Bool.false_eq_true, if_false]
  rw [wordsN_enough _ _ _ (by simp only [List.length_drop, List.length_cons]; omega) (Nat.le_refl _)]
theorem words_space : ∀ (s : Str), words (spaceF s) = words s
  | [] => rfl
  | c :: r => by
    unfold spaceF
    rw [List.dropWhile_cons]
    split
    · rename_i h
      rw [words_sp h]; exact words_space r
    · rfl
theorem spaceF_head {s : Str} {c : UInt8} {r : Str} (h : spaceF s = c :: r) : spB c = false := by
  induction s with
  | nil => simp [spaceF] at h
  | cons x s ih =>
    unfold spaceF at h ih
    rw [List.dropWhile_cons] at h
    split at h
    · exact ih h
    · rename_i hx
      simp only [List.cons.injEq] at h
      obtain ⟨rfl, -⟩ := h
      simpa using hx
theorem spaceF_idem (s : Str) : spaceF (spaceF s) = spaceF s := by
  cases h : spaceF s with
  | nil => rfl
  | cons c r =>
    have := spaceF_head h
    unfold spaceF
    rw [List.dropWhile_cons, this]
    simp
theorem spaceF_len (s : Str) : (spaceF s).length ≤ s.length := by unfold spaceF; exact (List.dropWhile_sublist _).length_le
theorem words_eq_nil {s : Str} : words s = [] ↔ spaceF s = [] := by
  rw [← words_space]
  cases h : spaceF s with
  | nil => simp [words_nil]
  | cons c r =>
    have hc := spaceF_head h
    by_cases h0 : tokLen (c :: r) = 0
    · rw [words_bad hc h0]; simp
    · rw [words_tok hc h0]; simp
theorem words_front {s : Str} {t : Str} {l : List Str} (h : words s = t :: l) : t = [] ∨ ∃ s', spaceF s = t ++ s' ∧ words s' = l := by
  rw [← words_space] at h
  cases hs : spaceF s with
  | nil => rw [hs, words_nil] at h; cases h
  | cons c r =>
    have hc := spaceF_head hs
    rw [hs] at h
    by_cases h0 : tokLen (c :: r) = 0
    · rw [words_bad hc h0] at h; simp only [List.cons.injEq] at h; exact .inl h.1.symm
    · rw [words_tok hc h0] at h
      simp only [List.cons.injEq] at h
      refine .inr ⟨_, ?_, h.2⟩
      rw [← h.1, List.take_append_drop]
def IsSign (sg : Str) : Prop := sg = [40] ∨ sg = [41] ∨ sg = [44] ∨ sg = [46] ∨ sg = [58, 45]
theorem IsSign.tok {sg : Str} (h : IsSign sg) (s : Str) : ∃ c r, sg = c :: r ∧ spB c = false ∧ tokLen (sg ++ s) = sg.length ∧ sg.length ≠ 0 := by
  rcases h with rfl | rfl | rfl | rfl | rfl
  · exact ⟨40, [], rfl, by decide, by simp [tokLen, lowB, upB, digB], by simp⟩
  · exact ⟨41, [], rfl, by decide, by simp [tokLen, lowB, upB, digB], by simp⟩
  · exact ⟨44, [], rfl, by decide, by simp [tokLen, lowB, upB, digB], by simp⟩
  · exact ⟨46, [], rfl, by decide, by simp [tokLen, lowB, upB, digB], by simp⟩
  · exact ⟨58, [45], rfl, by decide, by simp [tokLen, lowB, upB, digB], by simp⟩
theorem at_words {sg : Str} (h : IsSign sg) (r : Rd) : (((r.at_ sg).1 = true ∧ words r.s = sg :: words (r.at_ sg).2.s) ∨ ((r.at_ sg).1 = false ∧ words (r.at_ sg).2.s = words r.s ∧ ∀ l, words r.s ≠ sg :: l)) ∧ (r.at_ sg).2.vars = r.vars ∧ (r.at_ sg).2.bad = r.bad := by
  unfold Rd.at_
  split
  · rename_i hp
    refine ⟨.inl ⟨rfl, ?_⟩, rfl, rfl⟩
    obtain ⟨s', hs'⟩ := hp
    obtain ⟨c, q, e, hc, ht, h0⟩ := h.tok s'
    rw [← words_space, ← hs']
    have hcc : sg ++ s' = c :: (q ++ s') := by rw [e]; rfl
    rw [hcc, words_tok hc (by rw [← hcc, ht]; exact h0), ← hcc, ht]
    simp
  · rename_i hp
    refine ⟨.inr ⟨rfl, words_space _, fun l hl => ?_⟩, rfl, rfl⟩
    rcases words_front hl with rfl | ⟨s', hs, -⟩
    · obtain ⟨c, q, e, -⟩ := h.tok []
      cases e
    · exact hp ⟨s', hs.symm⟩
theorem at_len {sg : Str} (r : Rd) : (r.at_ sg).2.s.length ≤ r.s.length ∧ ((r.at_ sg).1 = true → (r.at_ sg).2.s.length + sg.length ≤ r.s.length) := by
  have := spaceF_len r.s
  unfold Rd.at_
  split
  · rename_i hp
    have := hp.length_le
    simp only [List.length_drop]
    exact ⟨by omega, fun _ => by omega⟩
  · exact ⟨this, by simp⟩
theorem at_bad {sg : Str} (r : Rd) : (r.at_ sg).2.bad = r.bad := by unfold Rd.at_; split <;> rfl
theorem args_len {f : Rd → Tm × Rd} (hf : ∀ r, (f r).2.s.length ≤ r.s.length) : ∀ (k : Nat) (l : List Tm) (r : Rd), (argsR f k l r).2.s.length ≤ r.s.length
  | 0, l, r => Nat.le_refl _
  | k + 1, l, r => by
    rw [argsR]
    have h1 := hf r
    have h2 := (at_len (sg := [44]) (f r).2).1
    split
    · exact h1
    · split
      · have := args_len hf k (l ++ [(f r).1]) ((f r).2.at_ [44]).2
        omega
      · simp only; omega
theorem drop_le (n : Nat) (s : Str) : (s.drop n).length ≤ s.length := by simp
theorem tail_len {f : Rd → Tm × Rd} (hf : ∀ r, (f r).2.s.length ≤ r.s.length) (w : Str) (r : Rd) : (tailR f w r).2.s.length ≤ r.s.length := by
  unfold tailR
  have h1 := (at_len (sg := [40]) r).1
  split
  · exact h1
  · simp only
    have h2 := args_len hf ((r.at_ [40]).2.s.length + 1) [] (r.at_ [40]).2
    have h3 := (at_len (sg := [41]) (argsR f ((r.at_ [40]).2.s.length + 1) [] (r.at_ [40]).2).2).1
    split
    · omega
    · simp only [Rd.kill]; omega
theorem head_len {f : Rd → Tm × Rd} (hf : ∀ r, (f r).2.s.length ≤ r.s.length) (c : UInt8) (rest : Str) (vars : List Str) : (headR f c rest vars).2.s.length ≤ rest.length + 1 := by
  unfold headR
  split
  · have := drop_le (wordLen (c :: rest)) (c :: rest)
    simp only [List.length_cons] at this ⊢; omega
  · split
    · simp only; omega
    · split
      · split
        · have := drop_le (numLen (c :: rest)) (c :: rest)
          simp only [List.length_cons] at this ⊢; omega
        · simp
      · have h1 := tail_len hf ((c :: rest).take (wordLen (c :: rest))) ⟨(c :: rest).drop (wordLen (c :: rest)), vars, false⟩
        have h2 := drop_le (wordLen (c :: rest)) (c :: rest)
        simp only [List.length_cons] at h1 h2 ⊢
        omega
theorem term_len : ∀ (n : Nat) (r : Rd), (termR n r).2.s.length ≤ r.s.length
  | 0, r => spaceF_len _
  | n + 1, r => by
    have h0 := spaceF_len r.s
    unfold termR
    split
    · exact h0
    · split
      · exact h0
      · rename_i c rest hs
        have := head_len (term_len n) c rest r.vars
        rw [hs] at h0
        simp only [List.length_cons] at h0
        omega
inductive Ill : Tm → Prop where
  | name (k n : Int) (l : List Tm) (h : k = 1 ∨ k = 3) : Ill (.mk k n (bs []) l)
  | arg (k n : Int) (s : ByteArray) (l : List Tm) (t : Tm) (ht : t ∈ l) (h : Ill t) : Ill (.mk k n s l)
theorem args_ill {f : Rd → Tm × Rd} : ∀ (k : Nat) (l : List Tm) (r : Rd), (∃ t ∈ l, Ill t) → ∃ t ∈ (argsR f k l r).1, Ill t
  | 0, l, r, h => h
  | k + 1, l, r, ⟨t, ht, hi⟩ => by
    rw [argsR]
    split
    · exact ⟨t, by simp [ht], hi⟩
    · split
      · exact args_ill k _ _ ⟨t, by simp [ht], hi⟩
      · exact ⟨t, by simp [ht], hi⟩
structure Corr (r : Rd) (p : Ps) : Prop where
  rb : r.bad = false
  pb : p.bad = false
  vars : p.vars = r.vars
  l : p.l = words r.s
def SimT (x : Tm × Rd) (y : Tm × Ps) : Prop := (x.1 = y.1 ∧ Corr x.2 y.2) ∨ (y.2.bad = true ∧ (x.2.bad = true ∨ Ill x.1))
theorem take_corr {sg : Str} (h : IsSign sg) {r : Rd} {p : Ps} (hc : Corr r p) : (p.take sg).1 = (r.at_ sg).1 ∧ Corr (r.at_ sg).2 (p.take sg).2 := by
  obtain ⟨h1, h2, h3⟩ := at_words h r
  unfold Ps.take
  rcases h1 with ⟨h1, hw⟩ | ⟨h1, hw, hn⟩
  · rw [hc.l, hw, h1]
    simp only [if_true]
    exact ⟨trivial, by rw [h3]; exact hc.rb, hc.pb, by rw [h2]; exact hc.vars, rfl⟩
  · rw [h1]
    rw [hc.l]
    cases hs : words r.s with
    | nil => exact ⟨rfl, by rw [h3]; exact hc.rb, hc.pb, by rw [h2]; exact hc.vars, by rw [hw, hs, hc.l, hs]⟩
    | cons x l =>
      simp only
      rw [if_neg (fun e => hn l (by rw [hs, e]))]
      exact ⟨rfl, by rw [h3]; exact hc.rb, hc.pb, by rw [h2]; exact hc.vars, by rw [hw, hc.l]⟩
theorem take_len {sg : Str} (p : Ps) : (p.take sg).2.l.length ≤ p.l.length ∧ ((p.take sg).1 = true → (p.take sg).2.l.length < p.l.length) := by
  unfold Ps.take
  split
  · simp_all
  · rename_i x l h
    split <;> simp_all
theorem comma : IsSign [44] := .inr (.inr (.inl rfl))
theorem opens : IsSign [40] := .inl rfl
theorem closes : IsSign [41] := .inr (.inl rfl)
theorem dot : IsSign [46] := .inr (.inr (.inr (.inl rfl)))
theorem words_len (s : Str) : (words s).length ≤ s.length := by
  suffices h : ∀ (n : Nat) (s : Str), s.length ≤ n → (words s).length ≤ s.length from h _ s (Nat.le_refl _)
  intro n
  induction n with
  | zero => intro s hs; have : s = [] := List.eq_nil_of_length_eq_zero (by omega); subst this; simp [words_nil]
  | succ n ih =>
    intro s hs
    cases s with
    | nil => simp [words_nil]
    | cons c r =>
      simp only [List.length_cons] at hs ⊢
      by_cases hc : spB c = true
      · rw [words_sp hc]; have := ih r (by omega); omega
      · by_cases h0 : tokLen (c :: r) = 0
        · rw [words_bad (by simpa using hc) h0]; simp
        · rw [words_tok (by simpa using hc) h0]
          have h1 : ((c :: r).drop (tokLen (c :: r))).length ≤ r.length := by simp only [List.length_drop, List.length_cons]; omega
          have := ih ((c :: r).drop (tokLen (c :: r))) (by omega)
          simp only [List.length_cons]; omega
theorem argsP_len {g : Ps → Tm × Ps} (hg : ∀ p, (g p).2.l.length ≤ p.l.length) : ∀ (k : Nat) (l : List Tm) (p : Ps), (argsP g k l p).2.l.length ≤ p.l.length
  | 0, l, p => Nat.le_refl _
  | k + 1, l, p => by
    rw [argsP]
    have h1 := (take_len (sg := [44]) p).1
    have h2 := hg (p.take [44]).2
    split
    · exact Nat.le_refl _
    · split
      · exact Nat.le_refl _
      · have := argsP_len hg k (l ++ [(g (p.take [44]).2).1]) (g (p.take [44]).2).2
        omega
theorem tailP_len {g : Ps → Tm × Ps} (hg : ∀ p, (g p).2.l.length ≤ p.l.length) (w : Str) (p : Ps) : (tailP g w p).2.l.length ≤ p.l.length := by
  unfold tailP
  split
  · exact Nat.le_refl _
  · simp only
    have h1 := (take_len (sg := [40]) p).1
    have h2 := hg (p.take [40]).2
    have h3 := argsP_len hg ((g (p.take [40]).2).2.l.length + 1) [(g (p.take [40]).2).1] (g (p.take [40]).2).2
    have h4 := (take_len (sg := [41]) (argsP g ((g (p.take [40]).2).2.l.length + 1) [(g (p.take [40]).2).1] (g (p.take [40]).2).2).2).1
    split
    · omega
    · split
      · omega
      · simp only [Ps.kill]; omega
theorem headP_len {g : Ps → Tm × Ps} (hg : ∀ p, (g p).2.l.length ≤ p.l.length) (c : UInt8) (w : Str) (p : Ps) : (headP g c w p).2.l.length ≤ p.l.length := by
  unfold headP
  split
  · exact Nat.le_refl _
  · split
    · exact Nat.le_refl _
    · split
      · split <;> exact Nat.le_refl _
      · exact tailP_len hg _ _
theorem termP_len : ∀ (n : Nat) (p : Ps), (termP n p).2.l.length ≤ p.l.length
  | 0, p => Nat.le_refl _
  | n + 1, p => by
    unfold termP
    split
    · exact Nat.le_refl _
    · exact Nat.le_refl _
    · rename_i c w l h
      rw [h]
      split
      · simp only [Ps.kill, h]; exact Nat.le_refl _
      · have := headP_len (termP_len n) c w { p with l := l }
        simp only [List.length_cons] at this ⊢; omega
theorem args_sim {f : Rd → Tm × Rd} {g : Ps → Tm × Ps} (hfg : ∀ r p, Corr r p → SimT (f r) (g p)) (hlr : ∀ r, (f r).2.s.length ≤ r.s.length) (hlp : ∀ p, (g p).2.l.length ≤ p.l.length) :
    ∀ (k kp : Nat) (l : List Tm) (r : Rd) (p : Ps), Corr r p → r.s.length < k → (g p).2.l.length < kp →
    ((argsR f k l r).1 = (argsP g kp (l ++ [(g p).1]) (g p).2).1 ∧ Corr (argsR f k l r).2 (argsP g kp (l ++ [(g p).1]) (g p).2).2) ∨
    ((argsP g kp (l ++ [(g p).1]) (g p).2).2.bad = true ∧ ((argsR f k l r).2.bad = true ∨ ∃ t ∈ (argsR f k l r).1, Ill t))
  | 0, kp, l, r, p, hc, hk, hkp => by omega
  | k + 1, 0, l, r, p, hc, hk, hkp => by omega
  | k + 1, kp + 1, l, r, p, hc, hk, hkp => by
    rw [argsR]
    rcases hfg r p hc with ⟨he, hc'⟩ | ⟨hb, hd⟩
    · have eP : argsP g (kp + 1) (l ++ [(g p).1]) (g p).2 = if ((g p).2.take [44]).1 = false then (l ++ [(g p).1], (g p).2) else argsP g kp ((l ++ [(g p).1]) ++ [(g ((g p).2.take [44]).2).1]) (g ((g p).2.take [44]).2).2 := by
        rw [argsP, if_neg (by rw [hc'.pb]; simp)]
      rw [eP, if_neg (by rw [hc'.rb]; simp)]
      obtain ⟨e1, hc2⟩ := take_corr comma hc'
      have hlt := at_len (sg := [44]) (f r).2
      have hl0 := hlr r
      rw [e1]
      cases ha : ((f r).2.at_ [44]).1 with
      | false =>
        simp only [if_true, Bool.false_eq_true, if_false]
        left
        refine ⟨by rw [he], ?_⟩
        have : (g p).2 = ((g p).2.take [44]).2 := by
          have h9 := e1.trans ha
          unfold Ps.take at h9 ⊢
          split
          · rfl
          · rename_i x l2 hx
            rw [hx] at h9
            simp only at h9 ⊢
            split
            · rename_i hy
              rw [if_pos hy] at h9; cases h9
            · rfl
        rw [this]; exact hc2
      | true =>
        simp only [if_true, Bool.true_eq_false, if_false]
        rw [he]
        have h5 := hlt.2 ha
        simp only [List.length_singleton] at h5
        have h6 := (take_len (sg := [44]) (g p).2).2 (e1.trans ha)
        have h7 := hlp ((g p).2.take [44]).2
        exact args_sim hfg hlr hlp k kp (l ++ [(g p).1]) _ _ hc2 (by omega) (by omega)
    · right
      rw [argsP, if_pos hb]
      refine ⟨hb, ?_⟩
      rcases hd with hd | hd
      · rw [if_pos hd]; exact .inl hd
      · split
        · exact .inr ⟨_, by simp, hd⟩
        · split
          · exact .inr (args_ill k _ _ ⟨_, by simp, hd⟩)
          · exact .inr ⟨_, by simp, hd⟩
theorem take_same {sg : Str} {p : Ps} (h : (p.take sg).1 = false) : (p.take sg).2 = p := by
  unfold Ps.take at h ⊢
  split
  · rfl
  · rename_i x l2 hx
    rw [hx] at h
    simp only at h ⊢
    split
    · rename_i hy
      rw [if_pos hy] at h; cases h
    · rfl
theorem tail_sim {f : Rd → Tm × Rd} {g : Ps → Tm × Ps} (hfg : ∀ r p, Corr r p → SimT (f r) (g p)) (hlr : ∀ r, (f r).2.s.length ≤ r.s.length) (hlp : ∀ p, (g p).2.l.length ≤ p.l.length) (w : Str) (r : Rd) (p : Ps) (hc : Corr r p) :
    SimT (tailR f w r) (tailP g w p) := by
  obtain ⟨e1, hc2⟩ := take_corr opens hc
  unfold tailR tailP
  rw [← e1]
  cases ha : (p.take [40]).1 with
  | false =>
    rw [take_same ha] at hc2
    simp only [if_true]
    exact .inl ⟨rfl, hc2⟩
  | true =>
    simp only [Bool.true_eq_false, if_false]
    rcases args_sim hfg hlr hlp ((r.at_ [40]).2.s.length + 1) ((g (p.take [40]).2).2.l.length + 1) [] _ _ hc2 (by omega) (by omega) with ⟨h1, h2⟩ | ⟨h1, h2⟩
    · rw [List.nil_append] at h1 h2
      generalize argsR f ((r.at_ [40]).2.s.length + 1) [] (r.at_ [40]).2 = X at *
      generalize argsP g ((g (p.take [40]).2).2.l.length + 1) [(g (p.take [40]).2).1] (g (p.take [40]).2).2 = Y at *
      obtain ⟨e3, hc3⟩ := take_corr closes h2
      rw [e3]
      have hb2 : ¬ Y.2.bad = true := by rw [h2.pb]; simp
      simp only [hb2, if_false]
      by_cases ha3 : (X.2.at_ [41]).1 = true
      · simp only [ha3, if_true]
        exact .inl ⟨by rw [h1], hc3⟩
      · simp only [ha3, if_false]
        exact .inr ⟨rfl, .inl rfl⟩
    · rw [List.nil_append] at h1
      generalize argsR f ((r.at_ [40]).2.s.length + 1) [] (r.at_ [40]).2 = X at *
      generalize argsP g ((g (p.take [40]).2).2.l.length + 1) [(g (p.take [40]).2).1] (g (p.take [40]).2).2 = Y at *
      have eY : (if Y.2.bad = true then Y.2 else if (Y.2.take [41]).1 = true then (Y.2.take [41]).2 else Y.2.kill) = Y.2 := if_pos h1
      rw [eY]
      refine .inr ⟨h1, ?_⟩
      rcases h2 with h2 | ⟨t, ht, hi⟩
      · left
        split
        · exact (at_bad _).trans h2
        · rfl
      · exact .inr (.arg _ _ _ _ t ht hi)
theorem tail_ill (f : Rd → Tm × Rd) (r : Rd) : Ill (tailR f [] r).1 := by
  unfold tailR
  split
  · exact .name _ _ _ (.inl rfl)
  · exact .name _ _ _ (.inr rfl)
theorem tokLen_cons (c : UInt8) (r : Str) : tokLen (c :: r) = if lowB c || upB c then 1 + lows r else if digB c || c == 45 then 1 + digs r else if c = 58 ∧ r.head? = some 45 then 2
    else if c = 40 ∨ c = 41 ∨ c = 44 ∨ c = 46 ∨ c = 33 then 1 else 0 := rfl
theorem wordLen_cons (c : UInt8) (r : Str) : wordLen (c :: r) = if lowB c || upB c then 1 + lows r else 0 := rfl
theorem numLen_tok {c : UInt8} {rest : Str} (h : c = 45 ∨ digB c = true) : numLen (c :: rest) = 1 + digs rest := by
  unfold numLen
  by_cases h' : c = 45
  · simp only [h', if_true]
  · have hd : digB c = true := h.resolve_left h'
    simp only [h', if_false]
    unfold digs
    rw [List.takeWhile_cons, hd]
    simp only [if_true, List.length_cons]
    omega
theorem low_num (c : UInt8) : ((lowB c || upB c) = true → c ≠ 33 ∧ c ≠ 45 ∧ digB c = false ∧ spB c = false) ∧ (c = 45 ∨ digB c = true → c ≠ 33 ∧ lowB c = false ∧ upB c = false ∧ spB c = false) ∧ (upB c = true → lowB c = false) := by
  have hsp : ∀ n : UInt8, (c == n) = decide (c.toNat = n.toNat) := fun n => by
    rw [Bool.eq_iff_iff, beq_iff_eq, decide_eq_true_eq, UInt8.toNat_inj]
  have hne : ∀ n : UInt8, c ≠ n ↔ c.toNat ≠ n.toNat := fun n => by rw [Ne, Ne, UInt8.toNat_inj]
  have heq : ∀ n : UInt8, c = n ↔ c.toNat = n.toNat := fun n => by rw [UInt8.toNat_inj]
  unfold spB lowB upB digB
  simp only [hsp, hne, heq, Bool.or_eq_true, Bool.and_eq_true, decide_eq_true_eq, Bool.or_eq_false_iff, Bool.and_eq_false_iff, decide_eq_false_iff_not]
  have e1 : (33 : UInt8).toNat = 33 := rfl
  have e2 : (45 : UInt8).toNat = 45 := rfl
  have e3 : (32 : UInt8).toNat = 32 := rfl
  have e4 : (10 : UInt8).toNat = 10 := rfl
  have e5 : (9 : UInt8).toNat = 9 := rfl
  have e6 : (13 : UInt8).toNat = 13 := rfl
  rw [e1, e2, e3, e4, e5, e6]
  omega
theorem head_sim {f : Rd → Tm × Rd} {g : Ps → Tm × Ps} (hfg : ∀ r p, Corr r p → SimT (f r) (g p)) (hlr : ∀ r, (f r).2.s.length ≤ r.s.length) (hlp : ∀ p, (g p).2.l.length ≤ p.l.length)
    (c : UInt8) (rest : Str) (vars : List Str) (hsp : spB c = false) (htok : tokLen (c :: rest) ≠ 0) (l : List Str) (w : Str) (hw : (c :: rest).take (tokLen (c :: rest)) = c :: w) (hl : l = words ((c :: rest).drop (tokLen (c :: rest)))) (hg : ¬ (lowB c = false ∧ upB c = false ∧ digB c = false ∧ c ≠ 45 ∧ c :: w ≠ [33])) :
    SimT (headR f c rest vars) (headP g c w ⟨l, vars, false⟩) := by
  obtain ⟨k1, k2, k3⟩ := low_num c
  unfold headR headP
  by_cases hU : (lowB c || upB c) = true
  · obtain ⟨n33, n45, nd, -⟩ := k1 hU
    have ht : tokLen (c :: rest) = wordLen (c :: rest) := by rw [tokLen_cons, wordLen_cons, if_pos hU, if_pos hU]
    rw [if_neg (show ¬ c :: w = [33] from fun e => n33 (by simp only [List.cons.injEq] at e; exact e.1))]
    rw [ht] at hw hl
    by_cases hu : upB c = true
    · rw [if_pos hu, if_pos hu, hw]
      exact .inl ⟨rfl, rfl, rfl, rfl, hl⟩
    · rw [if_neg hu, if_neg hu, if_neg n33, if_neg (by simp [n45, nd]), if_neg (by simp [n45, nd]), hw]
      exact tail_sim hfg hlr hlp _ _ _ ⟨rfl, rfl, rfl, hl⟩
  · have hU' : lowB c = false ∧ upB c = false := by simpa using hU
    have hu : ¬ upB c = true := by simp [hU'.2]
    rw [if_neg hu]
    by_cases hN : c = 45 ∨ digB c = true
    · obtain ⟨n33, -⟩ := k2 hN
      have ht : tokLen (c :: rest) = numLen (c :: rest) := by
        rw [numLen_tok hN, tokLen_cons, if_neg hU, if_pos (by simp; exact hN.symm)]
      rw [ht] at hw hl
      rw [if_neg n33, if_pos hN, if_neg (show ¬ c :: w = [33] from fun e => n33 (by simp only [List.cons.injEq] at e; exact e.1)), if_neg hu, if_pos hN, hw]
      cases valueF (c :: w) with
      | none => exact .inr ⟨rfl, .inl rfl⟩
      | some k => exact .inl ⟨rfl, rfl, rfl, rfl, hl⟩
    · have hN' : c ≠ 45 ∧ digB c = false := by
        constructor
        · exact fun e => hN (.inl e)
        · simpa using fun e => hN (.inr e)
      have e33 : c :: w = [33] := Classical.byContradiction fun hh => hg ⟨hU'.1, hU'.2, hN'.2, hN'.1, hh⟩
      obtain ⟨rfl, rfl⟩ : c = 33 ∧ w = [] := by simpa using e33
      rw [if_pos rfl, if_pos rfl]
      have ht : tokLen (33 :: rest) = 1 := by simp [tokLen, lowB, upB, digB]
      rw [ht] at hl
      exact .inl ⟨rfl, rfl, rfl, rfl, by rw [hl]; rfl⟩
theorem term_sim : ∀ (n : Nat) (r : Rd) (p : Ps), Corr r p → SimT (termR n r) (termP n p)
  | 0, r, p, hc => .inr ⟨rfl, .inl rfl⟩
  | n + 1, r, p, hc => by
    have e0 : termR (n + 1) r = match spaceF r.s with
      | [] => (tmz, r.space.kill)
      | c :: rest => headR (termR n) c rest r.vars := by
        rw [termR, if_neg (by rw [hc.rb]; simp)]
    rw [e0]
    have hsp := words_eq_nil (s := r.s)
    have hl := hc.l
    rw [← words_space] at hl
    unfold termP
    cases hs : spaceF r.s with
    | nil =>
      rw [hs, words_nil] at hl
      rw [hl]
      exact .inr ⟨rfl, .inl rfl⟩
    | cons c rest =>
      have hcs := spaceF_head hs
      simp only
      rw [hs] at hl
      by_cases h0 : tokLen (c :: rest) = 0
      · rw [words_bad hcs h0] at hl
        rw [hl]
        simp only
        refine .inr ⟨rfl, .inr ?_⟩
        -- the reader takes an empty word
        unfold headR
        have hU : (lowB c || upB c) = false := by
          by_cases h : (lowB c || upB c) = true
          · rw [tokLen_cons, if_pos h] at h0; omega
          · simpa using h
        have hU' : lowB c = false ∧ upB c = false := by simpa using hU
        have hN : ¬ (c = 45 ∨ digB c = true) := fun h => by
          rw [tokLen_cons, if_neg (by rw [hU]; simp), if_pos (by simp; exact h.symm)] at h0; omega
        have n33 : c ≠ 33 := by
          rintro rfl
          simp [tokLen, lowB, upB, digB] at h0
        have hw : wordLen (c :: rest) = 0 := by rw [wordLen_cons, if_neg (by rw [hU]; simp)]
        rw [if_neg (by simp [hU'.2]), if_neg n33, if_neg hN, hw]
        exact tail_ill _ _
      · rw [words_tok hcs h0] at hl
        have hw : ∃ w, (c :: rest).take (tokLen (c :: rest)) = c :: w := by
          cases hk : tokLen (c :: rest) with
          | zero => exact absurd hk h0
          | succ k => exact ⟨rest.take k, by rw [List.take_succ_cons]⟩
        obtain ⟨w, hw⟩ := hw
        rw [hw] at hl
        rw [hl]
        simp only
        split
        · rename_i hg
          -- a sign that begins no term
          obtain ⟨g1, g2, g3, g4, g5⟩ := hg
          refine .inr ⟨rfl, .inr ?_⟩
          have n33 : c ≠ 33 := by
            rintro rfl
            apply g5
            have ht : tokLen (33 :: rest) = 1 := by simp [tokLen, lowB, upB, digB]
            rw [ht] at hw
            simpa using hw.symm
          have hw0 : wordLen (c :: rest) = 0 := by rw [wordLen_cons, if_neg (by simp [g1, g2])]
          unfold headR
          rw [if_neg (by simp [g2]), if_neg n33, if_neg (by simp [g3, g4]), hw0]
          exact tail_ill _ _
        · rename_i hg
          have := head_sim (term_sim n) (term_len n) (termP_len n) c rest r.vars hcs h0 _ w hw rfl hg
          have e : ({ p with l := words ((c :: rest).drop (tokLen (c :: rest))) } : Ps) = ⟨words ((c :: rest).drop (tokLen (c :: rest))), r.vars, false⟩ := by
            rw [hc.vars, hc.pb]
          rw [e]; exact this
end Go.Proofs.YtlpmfkpefoegeacGreatDoor
