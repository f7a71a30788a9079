/-
  Reading, in plain data: the reader (sign by sign) and the document's parser (word by word) read the same.
-/
import Derived.Test.YtlpmfkpefoegeacDoorQTerm
namespace Go.Proofs.YtlpmfkpefoegeacDoor
set_option linter.unusedVariables false
set_option linter.unusedSimpArgs false
abbrev Str := List UInt8
def bs (l : Str) : ByteArray := ⟨l.toArray⟩
def spB (c : UInt8) : Bool := c == 32 || c == 10 || c == 9 || c == 13
def lowB (c : UInt8) : Bool := decide (97 ≤ c.toNat) && decide (c.toNat ≤ 122)
def upB (c : UInt8) : Bool := decide (65 ≤ c.toNat) && decide (c.toNat ≤ 90)
def digB (c : UInt8) : Bool := decide (48 ≤ c.toNat) && decide (c.toNat ≤ 57)
def lows (s : Str) : Nat := (s.takeWhile lowB).length
def digs (s : Str) : Nat := (s.takeWhile digB).length
def spaceF (s : Str) : Str := s.dropWhile spB
def tmz : Tm := .mk 0 0 ⟨#[]⟩ []
structure Rd where
  s : Str
  vars : List Str
  bad : Bool
def Rd.space (r : Rd) : Rd := { r with s := spaceF r.s }
def Rd.kill (r : Rd) : Rd := { r with bad := true }
def Rd.at_ (sign : Str) (r : Rd) : Bool × Rd := if sign <+: spaceF r.s then (true, { r with s := (spaceF r.s).drop sign.length }) else (false, r.space)
def wordLen : Str → Nat
  | [] => 0
  | c :: r => if lowB c || upB c then 1 + lows r else 0
def numLen : Str → Nat
  | [] => 0
  | c :: r => if c = 45 then 1 + digs r else digs (c :: r)
def decV (d : Str) : Int := d.foldl (fun (n : Int) (c : UInt8) => 10 * n + ((c.toNat : Int) - 48)) 0
def digitsOf (t : Str) : Str := if t.head? = some 45 then t.tail else t
def valueF (t : Str) : Option Int :=
  if digitsOf t = [] ∨ (digitsOf t).length > 13 ∨ ((digitsOf t).head? = some 48 ∧ t ≠ [48]) then none
  else if decV (digitsOf t) > 1099511627776 then none
  else some (if digitsOf t = t then decV (digitsOf t) else - decV (digitsOf t))
def varF (vars : List Str) (w : Str) : Int × List Str := if w ∈ vars then ((vars.idxOf w : Nat), vars) else ((vars.length : Nat), vars ++ [w])
def argsR (f : Rd → Tm × Rd) : Nat → List Tm → Rd → List Tm × Rd
  | 0, l, r => (l, r)
  | k + 1, l, r =>
    if (f r).2.bad then (l ++ [(f r).1], (f r).2)
    else if ((f r).2.at_ [44]).1 then argsR f k (l ++ [(f r).1]) ((f r).2.at_ [44]).2
    else (l ++ [(f r).1], ((f r).2.at_ [44]).2)
def tailR (f : Rd → Tm × Rd) (w : Str) (r : Rd) : Tm × Rd :=
  if (r.at_ [40]).1 = false then (.mk 1 0 (bs w) [], (r.at_ [40]).2)
  else
    let l := argsR f ((r.at_ [40]).2.s.length + 1) [] (r.at_ [40]).2
    (.mk 3 0 (bs w) l.1, if (l.2.at_ [41]).1 then (l.2.at_ [41]).2 else (l.2.at_ [41]).2.kill)
def headR (f : Rd → Tm × Rd) (c : UInt8) (rest : Str) (vars : List Str) : Tm × Rd :=
  if upB c then (.mk 0 (varF vars ((c :: rest).take (wordLen (c :: rest)))).1 ⟨#[]⟩ [], ⟨(c :: rest).drop (wordLen (c :: rest)), (varF vars ((c :: rest).take (wordLen (c :: rest)))).2, false⟩)
  else if c = 33 then (.mk 1 0 (bs [33]) [], ⟨rest, vars, false⟩)
  else if c = 45 ∨ digB c = true then
    match valueF ((c :: rest).take (numLen (c :: rest))) with
    | some k => (.mk 2 k ⟨#[]⟩ [], ⟨(c :: rest).drop (numLen (c :: rest)), vars, false⟩)
    | none => (.mk 2 0 ⟨#[]⟩ [], ⟨c :: rest, vars, true⟩)
  else tailR f ((c :: rest).take (wordLen (c :: rest))) ⟨(c :: rest).drop (wordLen (c :: rest)), vars, false⟩
def termR : Nat → Rd → Tm × Rd
  | 0, r => (tmz, r.space.kill)
  | n + 1, r => if r.bad then (tmz, r.space.kill) else
    match spaceF r.s with
    | [] => (tmz, r.space.kill)
    | c :: rest => headR (termR n) c rest r.vars
/-! the parser -/
structure Ps where
  l : List Str
  vars : List Str
  bad : Bool
def Ps.kill (p : Ps) : Ps := { p with bad := true }
def Ps.take (w : Str) (p : Ps) : Bool × Ps := match p.l with
  | [] => (false, p)
  | x :: l => if x = w then (true, { p with l := l }) else (false, p)
def tokLen : Str → Nat
  | [] => 0
  | c :: r => if lowB c || upB c then 1 + lows r else if digB c || c == 45 then 1 + digs r else if c = 58 ∧ r.head? = some 45 then 2
    else if c = 40 ∨ c = 41 ∨ c = 44 ∨ c = 46 ∨ c = 33 then 1 else 0
def wordsN : Nat → Str → List Str
  | 0, _ => []
  | n + 1, s => match s with
    | [] => []
    | c :: r => if spB c then wordsN n r else if tokLen (c :: r) = 0 then [[]] else (c :: r).take (tokLen (c :: r)) :: wordsN n ((c :: r).drop (tokLen (c :: r)))
def words (s : Str) : List Str := wordsN s.length s
theorem spaceF_head {s : Str} {c : UInt8} {r : Str} (h : spaceF s = c :: r) : spB c = false := by
  induction s with
  | nil => simp [spaceF] at h
  | cons x s ih =>
    unfold spaceF at h ih
    rw [List.dropWhile_cons] at h
    split at h
    · exact ih h
    · rename_i hx
      simp only [List.cons.injEq] at h
      obtain ⟨rfl, -⟩ := h
      simpa using hx
theorem spaceF_idem (s : Str) : spaceF (spaceF s) = spaceF s := by
  cases h : spaceF s with
  | nil => rfl
  | cons c r =>
    have := spaceF_head h
    unfold spaceF
    rw [List.dropWhile_cons, this]
    simp
theorem spaceF_len (s : Str) : (spaceF s).length ≤ s.length := by unfold spaceF; exact (List.dropWhile_sublist _).length_le
theorem at_len {sg : Str} (r : Rd) : (r.at_ sg).2.s.length ≤ r.s.length ∧ ((r.at_ sg).1 = true → (r.at_ sg).2.s.length + sg.length ≤ r.s.length) := by
  have := spaceF_len r.s
  unfold Rd.at_
  split
  · rename_i hp
    have := hp.length_le
    simp only [List.length_drop]
    exact ⟨by omega, fun _ => by omega⟩
  · exact ⟨this, by simp⟩
theorem args_len {f : Rd → Tm × Rd} (hf : ∀ r, (f r).2.s.length ≤ r.s.length) : ∀ (k : Nat) (l : List Tm) (r : Rd), (argsR f k l r).2.s.length ≤ r.s.length
  | 0, l, r => Nat.le_refl _
  | k + 1, l, r => by
    rw [argsR]
    have h1 := hf r
    have h2 := (at_len (sg := [44]) (f r).2).1
    split
    · exact h1
    · split
      · have := args_len hf k (l ++ [(f r).1]) ((f r).2.at_ [44]).2
        omega
      · simp only; omega
theorem drop_le (n : Nat) (s : Str) : (s.drop n).length ≤ s.length := by simp
theorem tail_len {f : Rd → Tm × Rd} (hf : ∀ r, (f r).2.s.length ≤ r.s.length) (w : Str) (r : Rd) : (tailR f w r).2.s.length ≤ r.s.length := by
  unfold tailR
  have h1 := (at_len (sg := [40]) r).1
  split
  · exact h1
  · simp only
    have h2 := args_len hf ((r.at_ [40]).2.s.length + 1) [] (r.at_ [40]).2
    have h3 := (at_len (sg := [41]) (argsR f ((r.at_ [40]).2.s.length + 1) [] (r.at_ [40]).2).2).1
    split
    · omega
    · simp only [Rd.kill]; omega
theorem head_len {f : Rd → Tm × Rd} (hf : ∀ r, (f r).2.s.length ≤ r.s.length) (c : UInt8) (rest : Str) (vars : List Str) : (headR f c rest vars).2.s.length ≤ rest.length + 1 := by
  unfold headR
  split
  · have := drop_le (wordLen (c :: rest)) (c :: rest)
    simp only [List.length_cons] at this ⊢; omega
  · split
    · simp only; omega
    · split
      · split
        · have := drop_le (numLen (c :: rest)) (c :: rest)
          simp only [List.length_cons] at this ⊢; omega
        · simp
      · have h1 := tail_len hf ((c :: rest).take (wordLen (c :: rest))) ⟨(c :: rest).drop (wordLen (c :: rest)), vars, false⟩
        have h2 := drop_le (wordLen (c :: rest)) (c :: rest)
        simp only [List.length_cons] at h1 h2 ⊢
        omega
theorem term_len : ∀ (n : Nat) (r : Rd), (termR n r).2.s.length ≤ r.s.length
  | 0, r => spaceF_len _
  | n + 1, r => by
    have h0 := spaceF_len r.s
    unfold termR
    split
    · exact h0
    · split
      · exact h0
      · rename_i c rest hs
        have := head_len (term_len n) c rest r.vars
        rw [hs] at h0
        simp only [List.length_cons] at h0
        omega
inductive Ill : Tm → Prop where
  | name (k n : Int) (l : List Tm) (h : k = 1 ∨ k = 3) : Ill (.mk k n (bs []) l)
  | arg (k n : Int) (s : ByteArray) (l : List Tm) (t : Tm) (ht : t ∈ l) (h : Ill t) : Ill (.mk k n s l)
structure Corr (r : Rd) (p : Ps) : Prop where
  rb : r.bad = false
  pb : p.bad = false
  vars : p.vars = r.vars
  l : p.l = words r.s
theorem wordLen_cons (c : UInt8) (r : Str) : wordLen (c :: r) = if lowB c || upB c then 1 + lows r else 0 := rfl
theorem numLen_tok {c : UInt8} {rest : Str} (h : c = 45 ∨ digB c = true) : numLen (c :: rest) = 1 + digs rest := by
  unfold numLen
  by_cases h' : c = 45
  · simp only [h', if_true]
  · have hd : digB c = true := h.resolve_left h'
    simp only [h', if_false]
    unfold digs
    rw [List.takeWhile_cons, hd]
    simp only [if_true, List.length_cons]
    omega
theorem low_num (c : UInt8) : ((lowB c || upB c) = true → c ≠ 33 ∧ c ≠ 45 ∧ digB c = false ∧ spB c = false) ∧ (c = 45 ∨ digB c = true → c ≠ 33 ∧ lowB c = false ∧ upB c = false ∧ spB c = false) ∧ (upB c = true → lowB c = false) := by
  have hsp : ∀ n : UInt8, (c == n) = decide (c.toNat = n.toNat) := fun n => by
    rw [Bool.eq_iff_iff, beq_iff_eq, decide_eq_true_eq, UInt8.toNat_inj]
  have hne : ∀ n : UInt8, c ≠ n ↔ c.toNat ≠ n.toNat := fun n => by rw [Ne, Ne, UInt8.toNat_inj]
  have heq : ∀ n : UInt8, c = n ↔ c.toNat = n.toNat := fun n => by rw [UInt8.toNat_inj]
  unfold spB lowB upB digB
  simp only [hsp, hne, heq, Bool.or_eq_true, Bool.and_eq_true, decide_eq_true_eq, Bool.or_eq_false_iff, Bool.and_eq_false_iff, decide_eq_false_iff_not]
  have e1 : (33 : UInt8).toNat = 33 := rfl
  have e2 : (45 : UInt8).toNat = 45 := rfl
  have e3 : (32 : UInt8).toNat = 32 := rfl
  have e4 : (10 : UInt8).toNat = 10 := rfl
  have e5 : (9 : UInt8).toNat = 9 := rfl
  have e6 : (13 : UInt8).toNat = 13 := rfl
  rw [e1, e2, e3, e4, e5, e6]
  omega
end Go.Proofs.YtlpmfkpefoegeacDoor
