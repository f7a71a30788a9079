/-
  strings.Trim at a cutset of ASCII bytes, laid at this dump (out of what lay-plain.mjs prints).
  Names, as the document's own answer has them: by strings.Trim.
  Terms, as the document's own answer has them.
-/
import Derived.Shelf.Strings.SlTrimAscii
import Derived.Test.YtlpmfkpefoegeabDoorProg
import Derived.Test.YtlpmfkpefoegeabDoorQNamed
import Derived.Test.YtlpmfkpefoegeabDoorQGood
namespace Go.Proofs.YtlpmfkpefoegeabDoor
set_option linter.unusedVariables false
open Go.Shelf
def laysTrim_ren : Go.Shelf.Ren := ⟨fun | 160 => 49 | 232 => 77 | 231 => 76 | 227 => 78 | 234 => 80 | 233 => 79 | 236 => 82 | 235 => 81 | 228 => 116 | 271 => 119 | 151 => 118 | 197 => 117 | 120 => 142 | 152 => 141 | 260 => 140 | 137 => 155 | 119 => 156 | 224 => 157 | 225 => 158 | 217 => 172 | 266 => 178 | n => n, fun | 9 => 9 | 4 => 4 | 3 => 3 | 5 => 5 | 117 => 124 | 116 => 123 | 0 => 0 | 124 => 127 | 21 => 21 | 105 => 175 | 46 => 217 | 119 => 216 | 139 => 220 | 138 => 219 | n => n, fun | 3 => 1 | 4 => 2 | n => n⟩
theorem laysTrim : Lays.n160 Tryd.prog laysTrim_ren := {
  mixed := by kernel_rfl
  f119 := Tryd.func156.trans (congrArg some (by kernel_rfl))
  f120 := Tryd.func142.trans (congrArg some (by kernel_rfl))
  f137 := Tryd.func155.trans (congrArg some (by kernel_rfl))
  f151 := Tryd.func118.trans (congrArg some (by kernel_rfl))
  f152 := Tryd.func141.trans (congrArg some (by kernel_rfl))
  f160 := Tryd.func49.trans (congrArg some (by kernel_rfl))
  f197 := Tryd.func117.trans (congrArg some (by kernel_rfl))
  f217 := Tryd.func172.trans (congrArg some (by kernel_rfl))
  f224 := Tryd.func157.trans (congrArg some (by kernel_rfl))
  f225 := Tryd.func158.trans (congrArg some (by kernel_rfl))
  f227 := Tryd.func78.trans (congrArg some (by kernel_rfl))
  f228 := Tryd.func116.trans (congrArg some (by kernel_rfl))
  f231 := Tryd.func76.trans (congrArg some (by kernel_rfl))
  f232 := Tryd.func77.trans (congrArg some (by kernel_rfl))
  f233 := Tryd.func79.trans (congrArg some (by kernel_rfl))
  f234 := Tryd.func80.trans (congrArg some (by kernel_rfl))
  f235 := Tryd.func81.trans (congrArg some (by kernel_rfl))
  f236 := Tryd.func82.trans (congrArg some (by kernel_rfl))
  f260 := Tryd.func140.trans (congrArg some (by kernel_rfl))
  f266 := Tryd.func178.trans (congrArg some (by kernel_rfl))
  f271 := Tryd.func119.trans (congrArg some (by kernel_rfl))
  t0 := Tryd.underlying0
  a0 := Tryd.isAgg0
  z0 := Tryd.sizeOf0
  v0 := Tryd.zeroValue0
  t3 := Tryd.underlying3
  a3 := Tryd.isAgg3
  z3 := Tryd.sizeOf3
  v3 := Tryd.zeroValue3
  t4 := Tryd.underlying4
  a4 := Tryd.isAgg4
  z4 := Tryd.sizeOf4
  v4 := Tryd.zeroValue4
  t5 := Tryd.underlying5
  a5 := Tryd.isAgg5
  z5 := Tryd.sizeOf5
  v5 := Tryd.zeroValue5
  t9 := Tryd.underlying9
  a9 := Tryd.isAgg9
  z9 := Tryd.sizeOf9
  v9 := Tryd.zeroValue9
  t21 := Tryd.underlying21
  a21 := Tryd.isAgg21
  z21 := Tryd.sizeOf21
  v21 := Tryd.zeroValue21
  t46 := Tryd.underlying217
  a46 := Tryd.isAgg217
  z46 := Tryd.sizeOf217
  v46 := Tryd.zeroValue217
  t105 := Tryd.underlying175
  a105 := Tryd.isAgg175
  z105 := Tryd.sizeOf175
  v105 := Tryd.zeroValue175
  t116 := Tryd.underlying123
  a116 := Tryd.isAgg123
  z116 := Tryd.sizeOf123
  t117 := Tryd.underlying124
  a117 := Tryd.isAgg124
  z117 := Tryd.sizeOf124
  v117 := Tryd.zeroValue124
  t119 := Tryd.underlying216
  a119 := Tryd.isAgg216
  z119 := Tryd.sizeOf216
  t124 := Tryd.underlying127
  a124 := Tryd.isAgg127
  z124 := Tryd.sizeOf127
  v124 := Tryd.zeroValue127
  t138 := Tryd.underlying219
  a138 := Tryd.isAgg219
  z138 := Tryd.sizeOf219
  v138 := Tryd.zeroValue219
  t139 := Tryd.underlying220
  a139 := Tryd.isAgg220
  z139 := Tryd.sizeOf220
  v139 := Tryd.zeroValue220
  g3 := by kernel_rfl
  g4 := by kernel_rfl }
open Go.RowKit in
theorem trim_laid (s cutset : ByteArray) (w : World) (hs : s.size ≤ 9223372036854775807) (hcs : cutset.size < 4294967281)
    (hascii : ∀ (j : Nat) b, cutset.data.toList[j]? = some b → b.toNat < 128) :
    Calls Tryd.prog 49 #[.string s, .string cutset] w fun e w' => e = .returned (.string ⟨(Lib.trimS s.data.toList cutset.data.toList).toArray⟩) ∧ Below w.heap.size w w' :=
  Any.strings_Trim_laid laysTrim (by kernel_rfl) s cutset w hs hcs hascii
end Go.Proofs.YtlpmfkpefoegeabDoor

namespace Go.Proofs.YtlpmfkpefoegeabDoor
set_option linter.unusedVariables false
set_option linter.unusedSimpArgs false
open Go.RowKit
theorem dropWhile_nil {p : UInt8 → Bool} : ∀ (l : List UInt8), l.dropWhile p = [] ↔ ∀ b ∈ l, p b = true
  | [] => by simp
  | b :: r => by
    rw [List.dropWhile_cons]
    cases h : p b with
    | true => simpa [h] using dropWhile_nil r
    | false => simp [h]
theorem trimS_nil (l cs : List UInt8) : Lib.trimS l cs = [] ↔ ∀ b ∈ l, cs.contains b = true := by
  unfold Lib.trimS Lib.trimLeftS Lib.trimRightS
  constructor
  · intro h
    rw [dropWhile_nil] at h
    have h0 : l.reverse.dropWhile (cs.contains ·) = [] := by
      cases e : l.reverse.dropWhile (cs.contains ·) with
      | nil => rfl
      | cons b r =>
        have h1 := List.head?_dropWhile_not (cs.contains ·) l.reverse
        rw [e] at h1 h
        simp only [List.head?_cons] at h1
        have h2 := h b (by simp)
        rw [h2] at h1
        cases h1
    rw [dropWhile_nil] at h0
    exact fun b hb => h0 b (by simpa using hb)
  · intro h
    rw [(dropWhile_nil l.reverse).2 (fun b hb => h b (by simpa using hb))]
    rfl
def abc : ByteArray := ⟨#[97, 98, 99, 100, 101, 102, 103, 104, 105, 106, 107, 108, 109, 110, 111, 112, 113, 114, 115, 116, 117, 118, 119, 120, 121, 122]⟩
theorem abc_has (b : UInt8) : abc.data.toList.contains b = true ↔ 97 ≤ (b.toNat : Int) ∧ (b.toNat : Int) ≤ 122 := by
  simp only [abc, List.contains_iff_mem, List.mem_cons, List.mem_nil_iff, or_false, ← UInt8.toNat_inj]
  show (b.toNat = 97 ∨ b.toNat = 98 ∨ b.toNat = 99 ∨ b.toNat = 100 ∨ b.toNat = 101 ∨ b.toNat = 102 ∨ b.toNat = 103 ∨ b.toNat = 104 ∨ b.toNat = 105 ∨ b.toNat = 106 ∨ b.toNat = 107 ∨ b.toNat = 108 ∨ b.toNat = 109 ∨ b.toNat = 110 ∨ b.toNat = 111 ∨ b.toNat = 112 ∨ b.toNat = 113 ∨ b.toNat = 114 ∨ b.toNat = 115 ∨ b.toNat = 116 ∨ b.toNat = 117 ∨ b.toNat = 118 ∨ b.toNat = 119 ∨ b.toNat = 120 ∨ b.toNat = 121 ∨ b.toNat = 122) ↔ _
  omega
theorem isName_iff {s : ByteArray} (h : s ≠ ⟨#[33]⟩) (h1 : 1 ≤ s.size) (h8 : s.size ≤ 8) : IsName s ↔ Lib.trimS s.data.toList abc.data.toList = [] := by
  rw [trimS_nil]
  constructor
  · rintro (e | ⟨_, _, k⟩)
    · exact absurd e h
    · intro b hb
      obtain ⟨i, hi, rfl⟩ := List.mem_iff_getElem.1 hb
      rw [abc_has]
      exact k i (by simpa using hi)
  · intro k
    refine .inr ⟨h1, h8, fun i hi => ?_⟩
    have := (abc_has _).1 (k (s.data.toList[i]'(by simpa using hi)) (List.getElem_mem _))
    exact this
theorem abc_ascii : ∀ (j : Nat) b, abc.data.toList[j]? = some b → b.toNat < 128 := by
  intro j b h
  have h2 := (abc_has b).1 (by rw [List.contains_iff_mem]; exact List.mem_of_getElem? h)
  omega
set_option maxHeartbeats 400000 in
theorem isName_ok (s : ByteArray) (w : World) (hs : s.size ≤ 1048576) :
    Calls Tryd.prog 14 #[.string s] w (Pure w fun v _ => ∃ r, v = .bool r ∧ (r = true ↔ IsName s)) := by
  have hc : (⟨#[33]⟩ : ByteArray).toList = [33] := by decide +kernel
  by_cases h1 : s.toList = (⟨#[33]⟩ : ByteArray).toList
  · have h1b : (s.toList == [33]) = true := by rw [h1, hc]; rfl
    have hn : IsName s := .inl (toList_inj' h1)
    have HN := hid hn
    clear hn h1 hc
    go_enter Tryd.func14, Tryd.ntmps14
    go_wp2_with fail
    go_ret
    exact ⟨_, rfl, Below.refl _ _, true, rfl, by simp [HN.out]⟩
  · have h1' : ¬ s = ⟨#[33]⟩ := fun e => h1 (by rw [e])
    have h1b : (s.toList == [33]) = false := by rw [hc] at h1; simpa using h1
    have HN := hid h1'
    clear h1' h1 hc
    by_cases h2 : s.toList.isEmpty = true
    · have hz : s = ByteArray.empty := by
        refine toList_inj' ?_
        have : s.toList = [] := by simpa using h2
        rw [this]; decide +kernel
      have hn : ¬ IsName s := by
        rintro (e | ⟨e, _⟩)
        · exact HN.out e
        · rw [hz] at e; simp at e
      have HZ := hid hn
      clear hn hz
      go_enter Tryd.func14, Tryd.ntmps14
      go_wp2_with fail
      go_ret
      exact ⟨_, rfl, Below.refl _ _, false, rfl, by simp [HZ.out]⟩
    · have h2b : s.toList.isEmpty = false := by simpa using h2
      have hp : 1 ≤ s.size := by
        rcases Nat.eq_zero_or_pos s.size with h | h
        · exfalso
          apply h2
          have : s = ByteArray.empty := by
            cases s with | mk d =>
            congr 1
            exact Array.eq_empty_of_size_eq_zero h
          rw [this]; decide +kernel
        · exact h
      clear h2
      by_cases h9 : decide ((s.size : Int) < 9) = true
      · have h8 : s.size ≤ 8 := by have := of_decide_eq_true h9; omega
        have HI := hid (isName_iff HN.out hp h8)
        have HT := hid (fun (W : World) => trim_laid s abc W (by omega) (by decide) abc_ascii)
        go_enter Tryd.func14, Tryd.ntmps14
        go_wp2_with fail
        refine (HT.out _).mono ?_
        rintro e w1 ⟨rfl, hb⟩
        have HB := hid hb
        clear hb HT
        by_cases ht : Lib.trimS s.data.toList abc.data.toList = []
        · have ht2 : (ByteArray.toList ⟨(Lib.trimS s.data.toList abc.data.toList).toArray⟩).isEmpty = true := by rw [ht]; decide +kernel
          have HX := hid (HI.out.2 ht)
          clear ht
          generalize (⟨(Lib.trimS s.data.toList abc.data.toList).toArray⟩ : ByteArray) = u at ht2 ⊢
          go_wp2_with fail
          go_ret
          exact ⟨_, rfl, HB.out, true, rfl, by simp [HX.out]⟩
        · have ht2 : (ByteArray.toList ⟨(Lib.trimS s.data.toList abc.data.toList).toArray⟩).isEmpty = false := by
            rw [ByteArray.toList_eq]; simpa using ht
          have HX := hid (show ¬ IsName s from fun k => ht (HI.out.1 k))
          clear ht
          generalize (⟨(Lib.trimS s.data.toList abc.data.toList).toArray⟩ : ByteArray) = u at ht2 ⊢
          go_wp2_with fail
          go_ret
          exact ⟨_, rfl, HB.out, false, rfl, by simp [HX.out]⟩
      · have h9b : decide ((s.size : Int) < 9) = false := by simpa using h9
        have hn : ¬ IsName s := by
          rintro (e | ⟨_, e, _⟩)
          · exact HN.out e
          · have := of_decide_eq_false h9b; omega
        have HZ := hid hn
        clear hn h9
        go_enter Tryd.func14, Tryd.ntmps14
        go_wp2_with fail
        go_ret
        exact ⟨_, rfl, Below.refl _ _, false, rfl, by simp [HZ.out]⟩
end Go.Proofs.YtlpmfkpefoegeabDoor

namespace Go.Proofs.YtlpmfkpefoegeabDoor
set_option linter.unusedVariables false
set_option linter.unusedSimpArgs false
open Go.RowKit
theorem good_args {v : Int} {t : Tm} (h : t.Good v) : ∀ x ∈ t.args, x.Good v := by
  cases h with
  | comp s l h h1 h2 h3 h4 => exact h4
  | _ => intro x hx; simp [Tm.args] at hx
theorem isT0 {vars n : Int} {s : ByteArray} {l : List Tm} : Tm.Good vars (.mk 0 n s l) ↔ ((l.length : Int) == 0) = true ∧ s.toList.isEmpty = true ∧ decide (0 ≤ n) = true ∧ decide (n < vars) = true := by
  rw [Tm.good0]
  constructor
  · rintro ⟨h1, h2, h3, h4⟩; exact ⟨h4, h3, h1, h2⟩
  · rintro ⟨h1, h2, h3, h4⟩; exact ⟨h3, h4, h2, h1⟩
theorem isT1 {vars n : Int} {s : ByteArray} {l : List Tm} : Tm.Good vars (.mk 1 n s l) ↔ ((l.length : Int) == 0) = true ∧ (n == 0) = true ∧ IsName s := by
  rw [Tm.good1]
  constructor
  · rintro ⟨h1, h2, h3⟩; exact ⟨h3, h1, h2⟩
  · rintro ⟨h1, h2, h3⟩; exact ⟨h2, h3, h1⟩
theorem isT2 {vars n : Int} {s : ByteArray} {l : List Tm} : Tm.Good vars (.mk 2 n s l) ↔ ((l.length : Int) == 0) = true ∧ s.toList.isEmpty = true ∧ decide (n ≤ 1099511627776) = true ∧ decide (-1099511627776 ≤ n) = true := by
  rw [Tm.good2]
  constructor
  · rintro ⟨h1, h2, h3, h4⟩; exact ⟨h4, h3, h2, h1⟩
  · rintro ⟨h1, h2, h3, h4⟩; exact ⟨h4, h3, h2, h1⟩
theorem isT3 {vars n : Int} {s : ByteArray} {l : List Tm} (hl : ∀ t ∈ l, t.Good vars) : Tm.Good vars (.mk 3 n s l) ↔ decide (0 < l.length) = true ∧ decide ((l.length : Int) < 5) = true ∧ (n == 0) = true ∧ (s.toList == [33]) = false ∧ IsName s := by
  rw [Tm.good3]
  have e : ((n != 0) = false) ↔ ((n == 0) = true) := by simp
  rw [e]
  simp only [decide_eq_true_eq, decide_eq_false_iff_not]
  constructor
  · rintro ⟨h1, h2, h3, h4, h5, h6⟩; exact ⟨by omega, by omega, h1, h3, h2⟩
  · rintro ⟨h1, h2, h3, h4, h5⟩; exact ⟨h3, h5, h4, by omega, by omega, hl⟩
def IsTermOK (t : Tm) : Prop := ∀ (vars : Int) (A : Nat → Prop) (w : World) (vs : List Value), I64 vars → Tm.rep A w t vs →
  Calls Tryd.prog 16 #[.agg vs.toArray, .int .i64 vars] w (Pure w fun v _ => ∃ r, v = .bool r ∧ (r = true ↔ t.Good vars))
set_option maxHeartbeats 8000000 in
theorem isTerm_of (k n : Int) (s : ByteArray) (l : List Tm) (ih : ∀ t ∈ l, IsTermOK t) : IsTermOK (.mk k n s l) := by
  intro vars A w vs hvars hv
  rw [Tm.rep_iff] at hv
  obtain ⟨hk, hn, hs, v, rfl, hl⟩ := hv
  obtain ⟨a, cap, b, off, rfl, hlc, hcm, hlb, ha, he⟩ := hl.at
  have HE := hid he
  have HA := hid ha
  have IH := hid ih
  have HVS := hid hvars
  clear he ha hl ih
  go_enter Tryd.func16, Tryd.ntmps16
  go_wp2_with fail
  have HX0 := hid (blk_new w (.cells #[.int .i64 k, .int .i64 n, .string s, .slice a l.length cap] 31))
  have HB0 := hid (below_pure (Below.refl _ (w.alloc (.cells #[.int .i64 k, .int .i64 n, .string s, .slice a l.length cap] 31))))
  have hz0 : w.heap.size < (w.alloc (.cells #[.int .i64 k, .int .i64 n, .string s, .slice a l.length cap] 31)).heap.size := by simp
  generalize w.alloc (.cells #[.int .i64 k, .int .i64 n, .string s, .slice a l.length cap] 31) = wa at HX0 HB0 hz0 ⊢
  go_loopw [11] (fun q wr => ∃ j : Nat, j ≤ l.length ∧ q = .int .i64 j ∧ (∀ i (hi : i < l.length), i < j → l[i].Good vars) ∧ Below wa.heap.size wa wr) (fun q _ => l.length - (intOf q).toNat)
  case atStart => exact ⟨0, Nat.zero_le _, rfl, fun i _ hi => by omega, Below.refl _ _⟩
  case round =>
    obtain ⟨j, hj, rfl, hg, hb⟩ := hrel
    have HB := hid hb
    have HG := hid hg
    have hz := hb.size
    clear hb hg
    by_cases hlt : j < l.length
    · obtain ⟨rfl, hAb⟩ := HA.out (by omega)
      obtain ⟨sa, sc, c0, c1, c2, c3, hr⟩ := tm_cells HE.out hAb ((Keeps.of_below HB0.out).trans (Keeps.of_below HB.out)) hlt
      have HC := hid (IH.out _ (List.getElem_mem hlt) vars _ (wr.alloc _) _ HVS.out (Tm.rep_lasts.1 _ _ _ _ _ hr (Keeps.alloc _ _ (.cells (#[.int .i64 l[j].kind, .int .i64 l[j].n, .string l[j].s, .slice sa l[j].args.length sc] : Array Value) 31))))
      clear hr
      go_wp2_with fail
      refine (HC.out).mono ?_
      rintro e w1 ⟨v, rfl, hb1, r, rfl, hgr⟩
      have HB1 := hid ((HB.out.alloc hz _).trans (hb1.mono (by simp; omega)))
      have HR := hid hgr
      clear hb1 HC c0 c1 c2 c3 hgr
      cases r with
      | false =>
        go_wp2_with fail
        go_ret
        refine ⟨_, rfl, HB0.out.trans (HB1.out.mono HB0.out.size), false, rfl, ?_⟩
        simp only [Bool.false_eq_true, false_iff]
        exact fun h => by
          have h1 := HR.out.2 (good_args h _ (List.getElem_mem hlt))
          cases h1
      | true =>
        have HGj := hid (HR.out.1 rfl)
        clear HR
        go_wp2_with fail
        go_roundw
        case rel =>
          refine ⟨j + 1, by omega, by go_num, fun i hi hij => ?_, HB1.out⟩
          by_cases e : i = j
          · subst e; exact HGj.out
          · exact HG.out i hi (by omega)
        case measure => simp [intOf]; omega
    · have : j = l.length := by omega
      subst this
      have HL := hid (show ∀ t ∈ l, t.Good vars from fun t ht => by
        obtain ⟨i, hi, rfl⟩ := List.mem_iff_getElem.1 ht
        exact HG.out i hi hi)
      have HX := hid (blk_below HX0.out HB.out)
      have HBf := hid (HB0.out.trans (HB.out.mono HB0.out.size))
      obtain ⟨x0, x1, x2, x3, xz⟩ := blk4 HX.out
      have hxz := blk_lt HX.out
      clear hlt HG HE HA IH hj hz hz0
      by_cases k0 : (k == 0) = true
      · have KD := hid (show k = 0 by simpa using k0)
        by_cases a0 : ((l.length : Int) == 0) = true
        · by_cases a1 : s.toList.isEmpty = true
          · by_cases a2 : decide (0 ≤ n) = true
            · by_cases a3 : decide (n < vars) = true
              · go_wp2_with fail
                go_ret
                refine ⟨_, rfl, HBf.out, true, rfl, ?_⟩
                obtain rfl := KD.out
                rw [isT0]
                simp [a0, a1, a2, a3]
              · have a3' : decide (n < vars) = false := by simpa using a3
                clear a3
                go_wp2_with fail
                go_ret
                refine ⟨_, rfl, HBf.out, false, rfl, ?_⟩
                obtain rfl := KD.out
                rw [isT0]
                simp [a0, a1, a2, a3']
            · have a2' : decide (0 ≤ n) = false := by simpa using a2
              clear a2
              go_wp2_with fail
              go_ret
              refine ⟨_, rfl, HBf.out, false, rfl, ?_⟩
              obtain rfl := KD.out
              rw [isT0]
              simp [a0, a1, a2']
          · have a1' : s.toList.isEmpty = false := by simpa using a1
            clear a1
            go_wp2_with fail
            go_ret
            refine ⟨_, rfl, HBf.out, false, rfl, ?_⟩
            obtain rfl := KD.out
            rw [isT0]
            simp [a0, a1']
        · have a0' : ((l.length : Int) == 0) = false := by simpa using a0
          clear a0
          go_wp2_with fail
          go_ret
          refine ⟨_, rfl, HBf.out, false, rfl, ?_⟩
          obtain rfl := KD.out
          rw [isT0]
          simp [a0']
      · replace k0 : (k == 0) = false := by simpa using k0
        by_cases k1 : (k == 1) = true
        · have KD := hid (show k = 1 by simpa using k1)
          by_cases a0 : ((l.length : Int) == 0) = true
          · by_cases a1 : (n == 0) = true
            · have HN := hid (isName_ok s)
              go_wp2_with fail
              refine (HN.out _ hs).mono ?_
              rintro e w2 ⟨v2, rfl, hb2, r, rfl, hr⟩
              have HBn := hid (HBf.out.trans (hb2.mono HBf.out.size))
              have HR := hid hr
              clear hb2 hr HN x0 x1 x2 x3 xz
              cases r with
              | false =>
                have HF := hid (show ¬ IsName s from fun h => by have := HR.out.2 h; cases this)
                go_wp2_with fail
                go_ret
                refine ⟨_, rfl, HBn.out, false, rfl, ?_⟩
                obtain rfl := KD.out
                rw [isT1]
                simp [a0, a1, HF.out]
              | true =>
                have HF := hid (show IsName s from HR.out.1 rfl)
                go_wp2_with fail
                go_ret
                refine ⟨_, rfl, HBn.out, true, rfl, ?_⟩
                obtain rfl := KD.out
                rw [isT1]
                simp [a0, a1, HF.out]
            · have a1' : (n == 0) = false := by simpa using a1
              clear a1
              go_wp2_with fail
              go_ret
              refine ⟨_, rfl, HBf.out, false, rfl, ?_⟩
              obtain rfl := KD.out
              rw [isT1]
              simp [a0, a1']
          · have a0' : ((l.length : Int) == 0) = false := by simpa using a0
            clear a0
            go_wp2_with fail
            go_ret
            refine ⟨_, rfl, HBf.out, false, rfl, ?_⟩
            obtain rfl := KD.out
            rw [isT1]
            simp [a0']
        · replace k1 : (k == 1) = false := by simpa using k1
          by_cases k2 : (k == 2) = true
          · have KD := hid (show k = 2 by simpa using k2)
            by_cases a0 : ((l.length : Int) == 0) = true
            · by_cases a1 : s.toList.isEmpty = true
              · by_cases a2 : decide (n ≤ 1099511627776) = true
                · by_cases a3 : decide (-1099511627776 ≤ n) = true
                  · go_wp2_with fail
                    go_ret
                    refine ⟨_, rfl, HBf.out, true, rfl, ?_⟩
                    obtain rfl := KD.out
                    rw [isT2]
                    simp [a0, a1, a2, a3]
                  · have a3' : decide (-1099511627776 ≤ n) = false := by simpa using a3
                    clear a3
                    go_wp2_with fail
                    go_ret
                    refine ⟨_, rfl, HBf.out, false, rfl, ?_⟩
                    obtain rfl := KD.out
                    rw [isT2]
                    simp [a0, a1, a2, a3']
                · have a2' : decide (n ≤ 1099511627776) = false := by simpa using a2
                  clear a2
                  go_wp2_with fail
                  go_ret
                  refine ⟨_, rfl, HBf.out, false, rfl, ?_⟩
                  obtain rfl := KD.out
                  rw [isT2]
                  simp [a0, a1, a2']
              · have a1' : s.toList.isEmpty = false := by simpa using a1
                clear a1
                go_wp2_with fail
                go_ret
                refine ⟨_, rfl, HBf.out, false, rfl, ?_⟩
                obtain rfl := KD.out
                rw [isT2]
                simp [a0, a1']
            · have a0' : ((l.length : Int) == 0) = false := by simpa using a0
              clear a0
              go_wp2_with fail
              go_ret
              refine ⟨_, rfl, HBf.out, false, rfl, ?_⟩
              obtain rfl := KD.out
              rw [isT2]
              simp [a0']
          · replace k2 : (k == 2) = false := by simpa using k2
            by_cases k3 : (k == 3) = true
            · have KD := hid (show k = 3 by simpa using k3)
              by_cases a0 : decide (0 < l.length) = true
              · by_cases a1 : decide ((l.length : Int) < 5) = true
                · by_cases a2 : (n == 0) = true
                  · by_cases a3 : (s.toList == [33]) = false
                    · have HN := hid (isName_ok s)
                      go_wp2_with fail
                      refine (HN.out _ hs).mono ?_
                      rintro e w2 ⟨v2, rfl, hb2, r, rfl, hr⟩
                      have HBn := hid (HBf.out.trans (hb2.mono HBf.out.size))
                      have HR := hid hr
                      clear hb2 hr HN x0 x1 x2 x3 xz
                      cases r with
                      | false =>
                        have HF := hid (show ¬ IsName s from fun h => by have := HR.out.2 h; cases this)
                        go_wp2_with fail
                        go_ret
                        refine ⟨_, rfl, HBn.out, false, rfl, ?_⟩
                        obtain rfl := KD.out
                        rw [isT3 HL.out]
                        simp [a0, a1, a2, a3, HF.out]
                      | true =>
                        have HF := hid (show IsName s from HR.out.1 rfl)
                        go_wp2_with fail
                        go_ret
                        refine ⟨_, rfl, HBn.out, true, rfl, ?_⟩
                        obtain rfl := KD.out
                        rw [isT3 HL.out]
                        simp [a0, a1, a2, a3, HF.out]
                    · have a3' : (s.toList == [33]) = true := by simpa using a3
                      clear a3
                      go_wp2_with fail
                      go_ret
                      refine ⟨_, rfl, HBf.out, false, rfl, ?_⟩
                      obtain rfl := KD.out
                      rw [isT3 HL.out]
                      simp [a0, a1, a2, a3']
                  · have a2' : (n == 0) = false := by simpa using a2
                    clear a2
                    go_wp2_with fail
                    go_ret
                    refine ⟨_, rfl, HBf.out, false, rfl, ?_⟩
                    obtain rfl := KD.out
                    rw [isT3 HL.out]
                    simp [a0, a1, a2']
                · have a1' : decide ((l.length : Int) < 5) = false := by simpa using a1
                  clear a1
                  go_wp2_with fail
                  go_ret
                  refine ⟨_, rfl, HBf.out, false, rfl, ?_⟩
                  obtain rfl := KD.out
                  rw [isT3 HL.out]
                  simp [a0, a1']
              · have a0' : decide (0 < l.length) = false := by simpa using a0
                clear a0
                go_wp2_with fail
                go_ret
                refine ⟨_, rfl, HBf.out, false, rfl, ?_⟩
                obtain rfl := KD.out
                rw [isT3 HL.out]
                simp [a0']
            · replace k3 : (k == 3) = false := by simpa using k3
              have KN := hid (show ¬ (k = 0 ∨ k = 1 ∨ k = 2 ∨ k = 3) by simp at k0 k1 k2 k3; omega)
              go_wp2_with fail
              go_ret
              refine ⟨_, rfl, HBf.out, false, rfl, ?_⟩
              simp only [Bool.false_eq_true, false_iff]
              exact fun h => KN.out (Tm.good_kind h)
theorem isTerm_ok : ∀ t, IsTermOK t := by
  intro t
  induction t using Tm.induct with
  | h k n s l ih => exact isTerm_of k n s l ih
end Go.Proofs.YtlpmfkpefoegeabDoor
