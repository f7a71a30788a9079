/-
  What is printed of a tidy query is read back as it, in plain data.
-/
import Derived.Test.YtlpmfkpefoegeacDoorPPrint
import Derived.Test.YtlpmfkpefoegeacDoorPTidy
namespace Go.Proofs.YtlpmfkpefoegeacDoor
set_option linter.unusedVariables false
set_option linter.unusedSimpArgs false
open Go.RowKit
def letters (k : Nat) : List Str := (List.range k).map fun i => [UInt8.ofNat (65 + i)]
theorem letters_length (k : Nat) : (letters k).length = k := by simp [letters]
theorem letters_succ (k : Nat) : letters (k + 1) = letters k ++ [[UInt8.ofNat (65 + k)]] := by simp [letters, List.range_succ]
theorem letter_inj {i j : Nat} (hi : i < 26) (hj : j < 26) (h : UInt8.ofNat (65 + i) = UInt8.ofNat (65 + j)) : i = j := by
  have h1 := congrArg UInt8.toNat h
  simp only [UInt8.toNat_ofNat'] at h1
  omega
theorem mem_letters {k n : Nat} (hk : k ≤ 26) (hn : n < 26) : [UInt8.ofNat (65 + n)] ∈ letters k ↔ n < k := by
  simp only [letters, List.mem_map, List.mem_range]
  constructor
  · rintro ⟨i, hi, he⟩
    have := letter_inj (i := i) (j := n) (by omega) hn (by simpa using he)
    omega
  · intro h; exact ⟨n, h, rfl⟩
theorem idxOf_letters {k n : Nat} (hk : k ≤ 26) (hn : n < k) : (letters k).idxOf [UInt8.ofNat (65 + n)] = n := by
  have hl : n < (letters k).length := by rw [letters_length]; exact hn
  have hnd : (letters k).Nodup := by
    unfold letters
    rw [List.nodup_iff_pairwise_ne]
    refine List.Pairwise.imp_of_mem ?_ ?_ (l := _) (R := fun a b => a ≠ b)
    · intro a b _ _ h; exact h
    · rw [List.pairwise_map]
      refine List.Pairwise.imp_of_mem ?_ (List.nodup_iff_pairwise_ne.1 (List.nodup_range (n := k)))
      intro a b ha hb hab e
      rw [List.mem_range] at ha hb
      exact hab (letter_inj (by omega) (by omega) (by simpa using e))
  have he : (letters k)[n] = [UInt8.ofNat (65 + n)] := by simp [letters]
  have := hnd.idxOf_getElem n hl
  rw [he] at this
  exact this
theorem varF_letter {k : Nat} {n : Int} (hk : k ≤ 8) (h0 : 0 ≤ n) (h8 : n < 8) (h : (seenF (upTo k) n).1 = n) :
    ∃ k', (seenF (upTo k) n).2 = upTo k' ∧ k ≤ k' ∧ k' ≤ 8 ∧ varF (letters k) [UInt8.ofNat (65 + n.toNat)] = (n, letters k') := by
  obtain ⟨m, rfl⟩ : ∃ m : Nat, n = m := ⟨n.toNat, by omega⟩
  simp only [Int.toNat_natCast]
  by_cases hm : m < k
  · have h1 : (m : Int) ∈ upTo k := mem_upTo.2 ⟨by omega, by omega⟩
    refine ⟨k, by simp only [seenF, h1, if_true], Nat.le_refl _, hk, ?_⟩
    unfold varF
    rw [if_pos ((mem_letters (by omega) (by omega)).2 hm), idxOf_letters (by omega) hm]
  · have h1 : ¬ (m : Int) ∈ upTo k := fun e => by have := mem_upTo.1 e; omega
    simp only [seenF, h1, if_false, upTo_length] at h ⊢
    have e : m = k := by omega
    subst e
    refine ⟨m + 1, (upTo_succ m).symm, by omega, by omega, ?_⟩
    unfold varF
    rw [if_neg (fun e => hm ((mem_letters (by omega) (by omega)).1 e)), letters_length, letters_succ]
def EndB (s : Str) : Prop := ∃ c r, s = c :: r ∧ (c = 41 ∨ c = 44 ∨ c = 46)
theorem EndB.facts {s : Str} (h : EndB s) : spaceF s = s ∧ lows s = 0 ∧ digs s = 0 ∧ ¬ [40] <+: s := by
  obtain ⟨c, r, rfl, h⟩ := h
  rcases h with rfl | rfl | rfl <;> refine ⟨?_, ?_, ?_, ?_⟩ <;> simp [spaceF, spB, lows, lowB, digs, digB]
theorem atNo {s : Str} {sg : Str} {vs : List Str} (hs : spaceF s = s) (h : ¬ sg <+: s) : (Rd.mk s vs false).at_ sg = (false, ⟨s, vs, false⟩) := by
  unfold Rd.at_
  simp only [hs, h, if_false, Rd.space]
theorem atYes {s : Str} {c : UInt8} {vs : List Str} (hc : spB c = false) : (Rd.mk (c :: s) vs false).at_ [c] = (true, ⟨s, vs, false⟩) := by
  have : spaceF (c :: s) = c :: s := by unfold spaceF; rw [List.dropWhile_cons, hc]; rfl
  unfold Rd.at_
  simp only [this, show [c] <+: c :: s from ⟨s, rfl⟩, if_true]
  simp
theorem takeWhile_app {q : UInt8 → Bool} : ∀ (d s : Str), (∀ c ∈ d, q c = true) → ((d ++ s).takeWhile q).length = d.length + (s.takeWhile q).length
  | [], s, _ => by simp
  | c :: r, s, h => by
    rw [List.cons_append, List.takeWhile_cons, h c (by simp)]
    simp only [if_true, List.length_cons]
    rw [takeWhile_app r s fun x hx => h x (by simp [hx])]
    omega
theorem name_low {s : ByteArray} (h : IsName s) (h1 : ¬ s.toList = [33]) : ∃ c r, s.data.toList = c :: r ∧ lowB c = true ∧ (∀ x ∈ r, lowB x = true) ∧ r.length ≤ 7 := by
  rcases h with rfl | ⟨h2, h3, h4⟩
  · exact absurd (by decide +kernel) h1
  · have hl : s.data.toList.length = s.size := Array.length_toList
    have ha : ∀ x ∈ s.data.toList, lowB x = true := by
      intro x hx
      obtain ⟨i, hi, rfl⟩ := List.getElem_of_mem hx
      have h5 := h4 i (by rw [← hl]; exact hi)
      have e : s[i]'(by rw [← hl]; exact hi) = s.data.toList[i] := by
        rw [Array.getElem_toList]; rfl
      rw [e] at h5
      unfold lowB
      simp only [Bool.and_eq_true, decide_eq_true_eq]
      omega
    cases hc : s.data.toList with
    | nil => rw [hc] at hl; simp only [List.length_nil] at hl; omega
    | cons c r =>
      rw [hc] at hl ha
      simp only [List.length_cons] at hl
      exact ⟨c, r, rfl, ha c (by simp), fun x hx => ha x (by simp [hx]), by omega⟩
theorem low_plain {c : UInt8} (h : lowB c = true) : spB c = false ∧ upB c = false ∧ c ≠ 33 ∧ ¬ (c = 45 ∨ digB c = true) := by
  obtain ⟨k1, k2, k3⟩ := low_num c
  obtain ⟨a1, a2, a3, a4⟩ := k1 (by rw [h]; rfl)
  refine ⟨a4, ?_, a1, ?_⟩
  · cases hu : upB c with
    | false => rfl
    | true => rw [k3 hu] at h; cases h
  · rintro (e | e)
    · exact a2 e
    · rw [a3] at e; cases e
theorem bsData (s : ByteArray) : bs s.data.toList = s := by cases s; rfl
def BackT (n : Nat) (t : Tm) : Prop := ∀ (k : Nat) (s : Str), k ≤ 8 → t.Good 8 → (t.renS seenF (upTo k)).1 = t → EndB s →
  ∃ k', (t.renS seenF (upTo k)).2 = upTo k' ∧ k ≤ k' ∧ k' ≤ 8 ∧ termR n ⟨printF t ++ s, letters k, false⟩ = (t, ⟨s, letters k', false⟩)
theorem headWord {f : Rd → Tm × Rd} {c : UInt8} {r s : Str} {vs : List Str} (hc : lowB c = true) (hr : ∀ x ∈ r, lowB x = true) (hs : lows s = 0) :
    headR f c (r ++ s) vs = tailR f (c :: r) ⟨s, vs, false⟩ := by
  obtain ⟨-, h2, h3, h4⟩ := low_plain hc
  have hw : wordLen (c :: (r ++ s)) = (c :: r).length := by
    rw [wordLen_cons, if_pos (by rw [hc]; rfl)]
    unfold lows at hs ⊢
    rw [takeWhile_app r s hr, hs, List.length_cons]; omega
  unfold headR
  rw [if_neg (by rw [h2]; simp), if_neg h3, if_neg h4, hw, ← List.cons_append, List.take_left, List.drop_left]
theorem args_back {n : Nat} {l : List Tm} (ih : ∀ t ∈ l, BackT n t) (s : Str) : ∀ (r : List Tm) (t : Tm) (m : Nat) (acc : List Tm) (k : Nat), (∀ x ∈ t :: r, x ∈ l) → (∀ x ∈ t :: r, x.Good 8) → k ≤ 8 →
    (Tm.renSL seenF (upTo k) (t :: r)).1 = t :: r → r.length < m →
    ∃ k', (Tm.renSL seenF (upTo k) (t :: r)).2 = upTo k' ∧ k ≤ k' ∧ k' ≤ 8 ∧ argsR (termR n) m acc ⟨printF t ++ (printA 44 r ++ 41 :: s), letters k, false⟩ = (acc ++ t :: r, ⟨41 :: s, letters k', false⟩)
  | [], t, 0, acc, k, hm, hg, hk, he, hmm => by omega
  | x :: r, t, 0, acc, k, hm, hg, hk, he, hmm => by omega
  | [], t, m + 1, acc, k, hm, hg, hk, he, hmm => by
    simp only [Tm.renSL, List.cons.injEq, and_true] at he ⊢
    obtain ⟨k', h1, h2, h3, h4⟩ := ih t (hm t (by simp)) k (41 :: s) hk (hg t (by simp)) he ⟨41, s, rfl, .inl rfl⟩
    refine ⟨k', h1, h2, h3, ?_⟩
    rw [argsR, printA, List.nil_append, h4]
    simp only [Bool.false_eq_true, if_false]
    rw [atNo (by simp [spaceF, spB]) (by simp)]
    simp
  | x :: r, t, m + 1, acc, k, hm, hg, hk, he, hmm => by
    have he' : (t.renS seenF (upTo k)).1 = t ∧ (Tm.renSL seenF (t.renS seenF (upTo k)).2 (x :: r)).1 = x :: r := by
      have e : Tm.renSL seenF (upTo k) (t :: x :: r) = ((t.renS seenF (upTo k)).1 :: (Tm.renSL seenF (t.renS seenF (upTo k)).2 (x :: r)).1, (Tm.renSL seenF (t.renS seenF (upTo k)).2 (x :: r)).2) := rfl
      rw [e] at he
      exact List.cons.inj he
    obtain ⟨k', h1, h2, h3, h4⟩ := ih t (hm t (by simp)) k (44 :: (printF x ++ (printA 44 r ++ 41 :: s))) hk (hg t (by simp)) he'.1 ⟨44, _, rfl, .inr (.inl rfl)⟩
    simp only [List.length_cons] at hmm
    rw [h1] at he'
    obtain ⟨k2, g1, g2, g3, g4⟩ := args_back ih s r x m (acc ++ [t]) k' (fun y hy => hm y (List.mem_cons_of_mem _ hy)) (fun y hy => hg y (List.mem_cons_of_mem _ hy)) h3 he'.2 (by omega)
    refine ⟨k2, ?_, by omega, g3, ?_⟩
    · have e : (Tm.renSL seenF (upTo k) (t :: x :: r)).2 = (Tm.renSL seenF (t.renS seenF (upTo k)).2 (x :: r)).2 := rfl
      rw [e, h1]; exact g1
    · have e : printF t ++ (printA 44 (x :: r) ++ 41 :: s) = printF t ++ 44 :: (printF x ++ (printA 44 r ++ 41 :: s)) := by rw [printA]; simp
      rw [argsR, e, h4]
      simp only [Bool.false_eq_true, if_false]
      rw [atYes (by decide)]
      simp only [if_true]
      rw [g4]
      simp
theorem nodesL_len (l : List Tm) : l.length ≤ Tm.nodesL l := by
  induction l with
  | nil => simp
  | cons x r ih => have := x.nodes_pos; simp only [List.length_cons, Tm.nodesL]; omega
theorem printA_len {l : List Tm} (h : ∀ t ∈ l, t.Good 8) (b : UInt8) : l.length ≤ (printA b l).length := by
  induction l generalizing b with
  | nil => simp
  | cons x r ih =>
    have h1 := ih (fun t ht => h t (by simp [ht])) 44
    simp only [printA, List.length_cons, List.length_append]
    omega
theorem itoa_shape {k : Int} : ∃ c r, Lib.itoa k = c :: r ∧ (c = 45 ∨ digB c = true) ∧ (∀ x ∈ r, digB x = true) := by
  by_cases hk : 0 ≤ k
  · obtain ⟨u, rfl⟩ : ∃ u : Nat, k = u := ⟨k.toNat, by omega⟩
    obtain ⟨d1, d2, -, -⟩ := decDigits_all u
    rw [Lib.itoa_nonneg]
    cases h : Lib.decDigits u with
    | nil => exact absurd h d2
    | cons c r => rw [h] at d1; exact ⟨c, r, rfl, .inr (d1 c (by simp)), fun x hx => d1 x (by simp [hx])⟩
  · obtain ⟨u, rfl, hu⟩ : ∃ u : Nat, k = -(u : Int) ∧ 1 ≤ u := ⟨k.natAbs, by omega, by omega⟩
    obtain ⟨d1, d2, -, -⟩ := decDigits_all u
    rw [Lib.itoa_neg u hu]
    exact ⟨45, _, rfl, .inl rfl, fun x hx => d1 x hx⟩
theorem headNum {f : Rd → Tm × Rd} {c : UInt8} {r s : Str} {vs : List Str} {k : Int} (hc : c = 45 ∨ digB c = true) (hr : ∀ x ∈ r, digB x = true) (hs : digs s = 0) (hv : valueF (c :: r) = some k) :
    headR f c (r ++ s) vs = (.mk 2 k ⟨#[]⟩ [], ⟨s, vs, false⟩) := by
  obtain ⟨k1, k2, k3⟩ := low_num c
  obtain ⟨a1, a2, a3, a4⟩ := k2 hc
  have hw : numLen (c :: (r ++ s)) = (c :: r).length := by
    rw [numLen_tok hc]
    unfold digs at hs ⊢
    rw [takeWhile_app r s hr, hs, List.length_cons]; omega
  unfold headR
  rw [if_neg (by rw [a3]; simp), if_neg a1, if_pos hc, hw, ← List.cons_append, List.take_left, List.drop_left, hv]
theorem termGo {n : Nat} {c : UInt8} {r : Str} {vs : List Str} (hc : spB c = false) : termR (n + 1) ⟨c :: r, vs, false⟩ = headR (termR n) c r vs := by
  have e : spaceF (c :: r) = c :: r := by unfold spaceF; rw [List.dropWhile_cons, hc]; rfl
  rw [termR, if_neg (by simp)]
  simp only [e]
theorem term_back : ∀ (t : Tm) (n : Nat), t.nodes ≤ n → BackT n t := by
  intro t
  induction t using Tm.induct with
  | h kd nu sx l ih =>
    intro n hn k s hk hg he hs
    obtain ⟨hs1, hs2, hs3, hs4⟩ := hs.facts
    cases n with
    | zero => simp only [Tm.nodes] at hn; omega
    | succ n =>
    simp only [Tm.nodes] at hn
    cases hg with
    | var m h0 h1 =>
      simp only [Tm.renS, Tm.num, if_true, Tm.renSL] at he ⊢
      obtain ⟨k', g1, g2, g3, g4⟩ := varF_letter hk h0 h1 (by injection he)
      refine ⟨k', g1, g2, g3, ?_⟩
      have hp : printF (.mk 0 nu ⟨#[]⟩ []) = [UInt8.ofNat (65 + nu.toNat)] := by
        unfold printF; rw [if_pos rfl, if_neg (by omega)]
      have hp' : printF (.mk 0 nu ByteArray.empty []) = [UInt8.ofNat (65 + nu.toNat)] := hp
      rw [hp']
      obtain ⟨m, rfl⟩ : ∃ m : Nat, nu = m := ⟨nu.toNat, by omega⟩
      simp only [Int.toNat_natCast] at g4 ⊢
      have hc : (UInt8.ofNat (65 + m)).toNat = 65 + m := by simp only [UInt8.toNat_ofNat']; omega
      have hu : upB (UInt8.ofNat (65 + m)) = true := by unfold upB; rw [hc]; simp; omega
      have hsp : spB (UInt8.ofNat (65 + m)) = false := by
        obtain ⟨k1, -⟩ := low_num (UInt8.ofNat (65 + m))
        exact (k1 (by rw [hu]; simp)).2.2.2
      rw [List.cons_append, List.nil_append, termGo hsp]
      have hw : wordLen (UInt8.ofNat (65 + m) :: s) = 1 := by
        rw [wordLen_cons, if_pos (by rw [hu]; simp), hs2]
      unfold headR
      rw [if_pos hu, hw]
      simp only [List.take_succ_cons, List.take_zero, List.drop_succ_cons, List.drop_zero, g4]
      rfl
    | atom _ h =>
      simp only [Tm.renS, Tm.num, Tm.renSL] at he ⊢
      refine ⟨k, by simp, Nat.le_refl _, hk, ?_⟩
      have hp : printF (.mk 1 0 sx []) = sx.data.toList := by
        unfold printF
        rw [if_neg (by decide), if_neg (by decide), if_pos (.inl rfl)]
        simp [printA]
      rw [hp]
      by_cases h33 : sx.toList = [33]
      · have e : sx.data.toList = [33] := by rw [← ByteArray.toList_eq]; exact h33
        rw [e, List.cons_append, List.nil_append, termGo (by decide)]
        unfold headR
        rw [if_neg (by decide), if_pos rfl]
        have e2 : bs [33] = sx := by rw [← e, bsData]
        rw [e2]
      · obtain ⟨c, r, e, hc, hr, -⟩ := name_low h h33
        rw [e, List.cons_append, termGo (low_plain hc).1, headWord hc hr hs2]
        unfold tailR
        rw [atNo hs1 hs4]
        simp only [if_true]
        rw [← e, bsData]
    | int m h0 h1 =>
      simp only [Tm.renS, Tm.num, Tm.renSL] at he ⊢
      refine ⟨k, by simp, Nat.le_refl _, hk, ?_⟩
      have hp : printF (.mk 2 nu ByteArray.empty []) = Lib.itoa nu := by
        unfold printF; rw [if_neg (by decide), if_pos rfl]
      rw [hp]
      obtain ⟨c, r, e, hc, hr⟩ := itoa_shape (k := nu)
      have hv := value_itoa h0 h1
      rw [e] at hv ⊢
      obtain ⟨k1, k2, k3⟩ := low_num c
      rw [List.cons_append, termGo (k2 hc).2.2.2, headNum hc hr hs3 hv]
      rfl
    | comp _ _ h h1 h2 h3 h4 =>
      have he' : (Tm.renSL seenF (upTo k) l).1 = l := by
        simp only [Tm.renS, Tm.num] at he
        simp at he
        exact he
      have hp : printF (.mk 3 0 sx l) ++ s = sx.data.toList ++ (printA 40 l ++ 41 :: s) := by
        rw [printF, if_neg (by decide), if_neg (by decide), if_pos (.inr rfl), if_neg (by intro e; rw [e] at h2; simp at h2)]
        simp
      rw [hp]
      cases l with
      | nil => simp at h2
      | cons t r =>
        have hnd : ∀ x ∈ t :: r, BackT n x := fun x hx => ih x hx n (by
          have := nodesL_mem hx
          omega)
        have hmm : r.length < (printF t ++ (printA 44 r ++ 41 :: s)).length + 1 := by
          have := printA_len (l := r) (fun x hx => h4 x (by simp [hx])) 44
          simp only [List.length_append, List.length_cons]; omega
        obtain ⟨k', g1, g2, g3, g4⟩ := args_back hnd s r t ((printF t ++ (printA 44 r ++ 41 :: s)).length + 1) [] k (fun x hx => hx) h4 hk he' hmm
        refine ⟨k', ?_, g2, g3, ?_⟩
        · have e : (Tm.renS seenF (upTo k) (.mk 3 0 sx (t :: r))).2 = (Tm.renSL seenF (upTo k) (t :: r)).2 := by simp [Tm.renS, Tm.num]
          rw [e]; exact g1
        · obtain ⟨c, q, e, hc, hr, -⟩ := name_low h h1
          have ep : printA 40 (t :: r) ++ 41 :: s = 40 :: (printF t ++ (printA 44 r ++ 41 :: s)) := by rw [printA]; simp
          rw [e, List.cons_append, termGo (low_plain hc).1, headWord hc hr (by rw [ep]; simp [lows, lowB]), ep]
          unfold tailR
          rw [atYes (by decide)]
          simp only [Bool.true_eq_false, if_false]
          rw [g4]
          simp only [List.nil_append]
          rw [atYes (by decide)]
          simp only [if_true]
          rw [← e, bsData]
def printQ : List Tm → Str
  | [] => []
  | t :: r => printF t ++ printA 44 r
theorem goals_back (s : Str) : ∀ (r : List Tm) (t : Tm) (m : Nat) (acc : List Tm) (k : Nat), (∀ x ∈ t :: r, x.Good 8 ∧ x.nodes ≤ 24) → k ≤ 8 →
    (Tm.renSL seenF (upTo k) (t :: r)).1 = t :: r → r.length < m →
    ∃ k', (Tm.renSL seenF (upTo k) (t :: r)).2 = upTo k' ∧ k ≤ k' ∧ k' ≤ 8 ∧ goalsRN (termR 24) m acc ⟨printF t ++ (printA 44 r ++ 46 :: s), letters k, false⟩ = (acc ++ t :: r, ⟨46 :: s, letters k', false⟩)
  | [], t, 0, acc, k, hg, hk, he, hmm => by omega
  | x :: r, t, 0, acc, k, hg, hk, he, hmm => by omega
  | [], t, m + 1, acc, k, hg, hk, he, hmm => by
    simp only [Tm.renSL, List.cons.injEq, and_true] at he ⊢
    have ht := hg t (by simp)
    obtain ⟨k', h1, h2, h3, h4⟩ := term_back t 24 ht.2 k (46 :: s) hk ht.1 he ⟨46, s, rfl, .inr (.inr rfl)⟩
    refine ⟨k', h1, h2, h3, ?_⟩
    rw [goalsRN, if_neg (by simp), printA, List.nil_append, h4]
    simp only
    rw [atNo (by simp [spaceF, spB]) (by simp)]
    simp
  | x :: r, t, m + 1, acc, k, hg, hk, he, hmm => by
    have he' : (t.renS seenF (upTo k)).1 = t ∧ (Tm.renSL seenF (t.renS seenF (upTo k)).2 (x :: r)).1 = x :: r := by
      have e : Tm.renSL seenF (upTo k) (t :: x :: r) = ((t.renS seenF (upTo k)).1 :: (Tm.renSL seenF (t.renS seenF (upTo k)).2 (x :: r)).1, (Tm.renSL seenF (t.renS seenF (upTo k)).2 (x :: r)).2) := rfl
      rw [e] at he
      exact List.cons.inj he
    have ht := hg t (by simp)
    obtain ⟨k', h1, h2, h3, h4⟩ := term_back t 24 ht.2 k (44 :: (printF x ++ (printA 44 r ++ 46 :: s))) hk ht.1 he'.1 ⟨44, _, rfl, .inr (.inl rfl)⟩
    simp only [List.length_cons] at hmm
    rw [h1] at he'
    obtain ⟨k2, g1, g2, g3, g4⟩ := goals_back s r x m (acc ++ [t]) k' (fun y hy => hg y (List.mem_cons_of_mem _ hy)) h3 he'.2 (by omega)
    refine ⟨k2, ?_, by omega, g3, ?_⟩
    · have e : (Tm.renSL seenF (upTo k) (t :: x :: r)).2 = (Tm.renSL seenF (t.renS seenF (upTo k)).2 (x :: r)).2 := rfl
      rw [e, h1]; exact g1
    · have e : printF t ++ (printA 44 (x :: r) ++ 46 :: s) = printF t ++ 44 :: (printF x ++ (printA 44 r ++ 46 :: s)) := by rw [printA]; simp
      rw [goalsRN, if_neg (by simp), e, h4]
      simp only
      rw [atYes (by decide)]
      simp only [if_true]
      rw [g4]
      simp
theorem itoa_15 {n : Int} (h0 : -1099511627776 ≤ n) (h1 : n ≤ 1099511627776) : (Lib.itoa n).length ≤ 14 := by
  have hv := value_itoa h0 h1
  obtain ⟨c, r, e, hc, hr⟩ := itoa_shape (k := n)
  rw [e] at hv ⊢
  unfold valueF at hv
  split at hv
  · cases hv
  · rename_i hh
    have h2 : (digitsOf (c :: r)).length ≤ 13 := by
      apply Classical.byContradiction
      intro hx
      exact hh (.inr (.inl (by omega)))
    unfold digitsOf at h2
    split at h2
    · simp only [List.tail_cons, List.length_cons] at h2 ⊢; omega
    · simp only [List.length_cons] at h2 ⊢; omega
theorem print_len : ∀ (t : Tm), t.Good 8 → (printF t).length + 1 ≤ 15 * t.nodes := by
  intro t
  induction t using Tm.induct with
  | h kd nu sx l ih =>
    intro hg
    cases hg with
    | var m h0 h1 => simp only [Tm.nodes, Tm.nodesL]; rw [printF, if_pos rfl, if_neg (by omega)]; simp
    | atom _ h =>
      simp only [Tm.nodes, Tm.nodesL]
      rw [printF, if_neg (by decide), if_neg (by decide), if_pos (.inl rfl)]
      have h2 : sx.data.toList.length ≤ 8 := by
        rcases h with rfl | ⟨-, h2, -⟩
        · simp
        · rw [Array.length_toList]; exact h2
      simp [printA]; simp at h2; omega
    | int m h0 h1 =>
      simp only [Tm.nodes, Tm.nodesL]
      rw [printF, if_neg (by decide), if_pos rfl]
      have := itoa_15 h0 h1
      omega
    | comp _ _ h h1 h2 h3 h4 =>
      have hL : ∀ (r : List Tm) (b : UInt8), (∀ x ∈ r, x ∈ l) → (printA b r).length ≤ 15 * Tm.nodesL r := by
        intro r
        induction r with
        | nil => intro b _; simp [printA]
        | cons x r ihr =>
          intro b hm
          have e1 := ih x (hm x (by simp)) (h4 x (hm x (by simp)))
          have e2 := ihr 44 (fun y hy => hm y (by simp [hy]))
          simp only [printA, List.length_cons, List.length_append, Tm.nodesL]
          omega
      have e1 := hL l 40 (fun x hx => hx)
      rw [printF, if_neg (by decide), if_neg (by decide), if_pos (.inr rfl)]
      obtain ⟨c, q, e, -, -, hq⟩ := name_low h h1
      rw [e]
      simp only [Tm.nodes, List.length_append, List.length_cons]
      have : (if l = [] then ([] : Str) else [41]).length ≤ 1 := by split <;> simp
      omega
theorem printA_len15 {l : List Tm} (h : ∀ t ∈ l, t.Good 8 ∧ t.nodes ≤ 24) (b : UInt8) : (printA b l).length ≤ 360 * l.length := by
  induction l generalizing b with
  | nil => simp [printA]
  | cons x r ih =>
    have h1 := ih (fun t ht => h t (by simp [ht])) 44
    have h2 := print_len x (h x (by simp)).1
    have h3 := (h x (by simp)).2
    simp only [printA, List.length_cons, List.length_append]
    omega
theorem printQ_len {l : List Tm} (h : ∀ t ∈ l, t.Good 8 ∧ t.nodes ≤ 24) : (printQ l).length ≤ 360 * l.length := by
  cases l with
  | nil => simp [printQ]
  | cons x r =>
    have h1 := printA_len15 (l := r) (fun t ht => h t (by simp [ht])) 44
    have h2 := print_len x (h x (by simp)).1
    have h3 := (h x (by simp)).2
    simp only [printQ, List.length_cons, List.length_append]
    omega
theorem Good.more {v v' : Int} (hv : v ≤ v') : ∀ {t : Tm}, t.Good v → t.Good v' := by
  intro t h
  induction h with
  | var n h0 h1 => exact .var n h0 (by omega)
  | atom s h => exact .atom s h
  | int n h0 h1 => exact .int n h0 h1
  | comp s l h h1 h2 h3 h4 ih => exact .comp s l h h1 h2 h3 ih
def SeenOK (v : Int) (t : Tm) : Prop := t.Good v → ∀ (st : List Int), (∀ x ∈ (t.renS seenF st).2, x ∈ st ∨ (0 ≤ x ∧ x < v)) ∧ (∀ x ∈ st, x ∈ (t.renS seenF st).2) ∧ t.Vars (fun n => n ∈ (t.renS seenF st).2)
theorem Tm.Vars.mono {p q : Int → Prop} (h : ∀ n, p n → q n) : ∀ {t : Tm}, t.Vars p → t.Vars q := by
  intro t ht
  induction ht with
  | mk k n s l h1 _ ih => exact .mk k n s l (fun e => h _ (h1 e)) ih
theorem seenTL {v : Int} : ∀ (l : List Tm), (∀ t ∈ l, SeenOK v t) → (∀ t ∈ l, t.Good v) → ∀ (st : List Int), (∀ x ∈ (Tm.renSL seenF st l).2, x ∈ st ∨ (0 ≤ x ∧ x < v)) ∧ (∀ x ∈ st, x ∈ (Tm.renSL seenF st l).2) ∧ ∀ t ∈ l, t.Vars (fun n => n ∈ (Tm.renSL seenF st l).2)
  | [], _, _, st => ⟨fun x h => .inl h, fun x h => h, fun t h => by cases h⟩
  | t :: r, hs, hg, st => by
    obtain ⟨a1, a2, a3⟩ := hs t (by simp) (hg t (by simp)) st
    obtain ⟨b1, b2, b3⟩ := seenTL r (fun x hx => hs x (by simp [hx])) (fun x hx => hg x (by simp [hx])) (t.renS seenF st).2
    simp only [Tm.renSL]
    refine ⟨fun x hx => ?_, fun x hx => b2 x (a2 x hx), fun y hy => ?_⟩
    · rcases b1 x hx with h | h
      · exact a1 x h
      · exact .inr h
    · rcases List.mem_cons.1 hy with rfl | hy
      · exact a3.mono b2
      · exact b3 y hy
theorem seen_ok {v : Int} : ∀ (t : Tm), SeenOK v t := by
  intro t
  induction t using Tm.induct with
  | h kd nu sx l ih =>
    intro hg st
    have hv := hg.vars
    have hgl : ∀ x ∈ l, x.Good v := by
      cases hg with
      | var _ _ _ => intro x hx; cases hx
      | atom _ _ => intro x hx; cases hx
      | int _ _ _ => intro x hx; cases hx
      | comp _ _ _ _ _ _ h4 => exact h4
    obtain ⟨b1, b2, b3⟩ := seenTL l ih hgl (Tm.num seenF st kd nu).2
    have hn : (∀ x ∈ (Tm.num seenF st kd nu).2, x ∈ st ∨ (0 ≤ x ∧ x < v)) ∧ (∀ x ∈ st, x ∈ (Tm.num seenF st kd nu).2) ∧ (kd = 0 → nu ∈ (Tm.num seenF st kd nu).2) := by
      unfold Tm.num
      by_cases e : kd = 0
      · have hn0 : 0 ≤ nu ∧ nu < v := by cases hv with | mk _ _ _ _ h _ => exact h e
        rw [if_pos e]
        unfold seenF
        split
        · rename_i h; exact ⟨fun x hx => .inl hx, fun x hx => hx, fun _ => h⟩
        · refine ⟨fun x hx => ?_, fun x hx => by simp [hx], fun _ => by simp⟩
          simp only [List.mem_append, List.mem_singleton] at hx
          rcases hx with hx | rfl
          · exact .inl hx
          · exact .inr hn0
      · rw [if_neg e]; exact ⟨fun x hx => .inl hx, fun x hx => hx, fun h => absurd h e⟩
    obtain ⟨c1, c2, c3⟩ := hn
    simp only [Tm.renS]
    refine ⟨fun x hx => ?_, fun x hx => b2 x (c2 x hx), .mk _ _ _ _ (fun e => b2 _ (c3 e)) b3⟩
    rcases b1 x hx with h | h
    · exact c1 x h
    · exact .inr h
theorem good_in {v v' : Int} : ∀ {t : Tm}, t.Good v → t.Vars (fun n => 0 ≤ n ∧ n < v') → t.Good v' := by
  intro t h
  induction h with
  | var n h0 h1 => intro hv; cases hv with | mk _ _ _ _ h _ => exact .var n h0 (h rfl).2
  | atom s h => intro _; exact .atom s h
  | int n h0 h1 => intro _; exact .int n h0 h1
  | comp s l h h1 h2 h3 h4 ih => intro hv; cases hv with | mk _ _ _ _ _ hl => exact .comp s l h h1 h2 h3 fun t ht => ih t ht (hl t ht)
theorem tidy_end {l : List Tm} (ht : tidy l = l) : ∃ k, Tm.renSL seenF (upTo 0) l = (l, upTo k) := by
  have h := renSL_again l []
  have e : (Tm.renSL seenF [] l).1 = l := ht
  rw [e] at h
  exact ⟨_, h⟩
theorem query_num {l : List Tm} {v : Int} {k : Nat} (hk : Tm.renSL seenF (upTo 0) l = (l, upTo k)) (hg : GoodQ l v) : (k : Int) ≤ v ∧ GoodQ l k := by
  obtain ⟨g1, g2, g3, g4⟩ := hg
  obtain ⟨a1, -, a3⟩ := seenTL (v := v) l (fun t _ => seen_ok t) (fun t ht => (g4 t ht).2.1) (upTo 0)
  rw [hk] at a1 a3
  have h1 : (k : Int) ≤ v := by
    cases k with
    | zero => simpa using g1
    | succ j =>
      rcases a1 (j : Int) (mem_upTo.2 ⟨by omega, by omega⟩) with h | h
      · have := mem_upTo.1 h; omega
      · omega
  exact ⟨h1, by omega, by omega, g3, fun t ht => ⟨(g4 t ht).1, good_in (g4 t ht).2.1 ((a3 t ht).mono fun n hn => mem_upTo.1 hn), (g4 t ht).2.2⟩⟩
theorem query_back {l : List Tm} {v : Int} (ht : tidy l = l) (h0 : l ≠ []) (hg : GoodQ l v) (hm : ∀ u, 0 ≤ u → u < v → ¬ GoodQ l u) : queryR (printQ l ++ [46]) = (l, v, 0) ∧ (printQ l).length ≤ 1800 := by
  obtain ⟨k, hk⟩ := tidy_end ht
  obtain ⟨h1, h2⟩ := query_num hk hg
  have e : v = k := by
    by_cases h : (k : Int) < v
    · exact absurd h2 (hm k (by omega) h)
    · omega
  subst e
  obtain ⟨g1, g2, g3, g4⟩ := hg
  have h8 : ∀ t ∈ l, t.Good 8 ∧ t.nodes ≤ 24 := fun t h => ⟨Good.more g2 (g4 t h).2.1, (g4 t h).2.2⟩
  have hlen : (printQ l).length ≤ 1800 := by have := printQ_len h8; omega
  refine ⟨?_, hlen⟩
  cases l with
  | nil => exact absurd rfl h0
  | cons t r =>
    have hmm : r.length < (printQ (t :: r) ++ [46]).length + 1 := by
      have := printA_len (l := r) (fun x hx => (h8 x (by simp [hx])).1) 44
      simp only [printQ, List.length_append, List.length_cons]; omega
    obtain ⟨k', b1, b2, b3, b4⟩ := goals_back [] r t ((printQ (t :: r) ++ [46]).length + 1) [] 0 h8 (by omega) (by rw [hk]) hmm
    have ek : k' = k := by
      rw [hk] at b1
      have := congrArg List.length b1
      rw [upTo_length, upTo_length] at this
      exact this.symm
    subst ek
    have eg : goalsR ⟨printQ (t :: r) ++ [46], [], false⟩ = (t :: r, ⟨[], letters k', false⟩) := by
      have es : (Rd.mk (printQ (t :: r) ++ [46]) [] false) = ⟨printF t ++ (printA 44 r ++ 46 :: []), letters 0, false⟩ := by
        simp only [printQ, letters, List.range_zero, List.map_nil, List.append_assoc]
      unfold goalsR
      rw [es]
      simp only
      have es2 : (printF t ++ (printA 44 r ++ 46 :: [])) = printQ (t :: r) ++ [46] := by simp [printQ]
      rw [es2] at b4 ⊢
      rw [b4]
      unfold Rd.must
      rw [atYes (by decide)]
      rfl
    unfold queryR
    rw [if_neg (by simp only [List.length_append, List.length_singleton]; omega), eg]
    simp only [letters_length]
    rw [if_neg]
    rintro (h | h | h)
    · cases h
    · exact h rfl
    · exact h (by rw [letters_length]; exact ⟨g1, g2, g3, g4⟩)
end Go.Proofs.YtlpmfkpefoegeacDoor
