/-
  strings.Trim at a cutset of ASCII bytes, laid at this dump (out of what lay-plain.mjs prints).
  Names, as the document's own answer has them: by strings.Trim.
-/
import Derived.Shelf.Strings.SlTrimAscii
import Derived.Test.YtlpmfkpefoegeabDoorProg
import Derived.Test.YtlpmfkpefoegeabDoorQNamed
namespace Go.Proofs.YtlpmfkpefoegeabDoor
set_option linter.unusedVariables false
open Go.Shelf
def laysTrim_ren : Go.Shelf.Ren := ⟨fun | 160 => 49 | 232 => 77 | 231 => 76 | 227 => 78 | 234 => 80 | 233 => 79 | 236 => 82 | 235 => 81 | 228 => 116 | 271 => 119 | 151 => 118 | 197 => 117 | 120 => 142 | 152 => 141 | 260 => 140 | 137 => 155 | 119 => 156 | 224 => 157 | 225 => 158 | 217 => 172 | 266 => 178 | n => n, fun | 9 => 9 | 4 => 4 | 3 => 3 | 5 => 5 | 117 => 124 | 116 => 123 | 0 => 0 | 124 => 127 | 21 => 21 | 105 => 175 | 46 => 217 | 119 => 216 | 139 => 220 | 138 => 219 | n => n, fun | 3 => 1 | 4 => 2 | n => n⟩
theorem laysTrim : Lays.n160 Tryd.prog laysTrim_ren := {
  mixed := by kernel_rfl
  f119 := Tryd.func156.trans (congrArg some (by kernel_rfl))
  f120 := Tryd.func142.trans (congrArg some (by kernel_rfl))
  f137 := Tryd.func155.trans (congrArg some (by kernel_rfl))
  f151 := Tryd.func118.trans (congrArg some (by kernel_rfl))
  f152 := Tryd.func141.trans (congrArg some (by kernel_rfl))
  f160 := Tryd.func49.trans (congrArg some (by kernel_rfl))
  f197 := Tryd.func117.trans (congrArg some (by kernel_rfl))
  f217 := Tryd.func172.trans (congrArg some (by kernel_rfl))
  f224 := Tryd.func157.trans (congrArg some (by kernel_rfl))
  f225 := Tryd.func158.trans (congrArg some (by kernel_rfl))
  f227 := Tryd.func78.trans (congrArg some (by kernel_rfl))
  f228 := Tryd.func116.trans (congrArg some (by kernel_rfl))
  f231 := Tryd.func76.trans (congrArg some (by kernel_rfl))
  f232 := Tryd.func77.trans (congrArg some (by kernel_rfl))
  f233 := Tryd.func79.trans (congrArg some (by kernel_rfl))
  f234 := Tryd.func80.trans (congrArg some (by kernel_rfl))
  f235 := Tryd.func81.trans (congrArg some (by kernel_rfl))
  f236 := Tryd.func82.trans (congrArg some (by kernel_rfl))
  f260 := Tryd.func140.trans (congrArg some (by kernel_rfl))
  f266 := Tryd.func178.trans (congrArg some (by kernel_rfl))
  f271 := Tryd.func119.trans (congrArg some (by kernel_rfl))
  t0 := Tryd.underlying0
  a0 := Tryd.isAgg0
  z0 := Tryd.sizeOf0
  v0 := Tryd.zeroValue0
  t3 := Tryd.underlying3
  a3 := Tryd.isAgg3
  z3 := Tryd.sizeOf3
  v3 := Tryd.zeroValue3
  t4 := Tryd.underlying4
  a4 := Tryd.isAgg4
  z4 := Tryd.sizeOf4
  v4 := Tryd.zeroValue4
  t5 := Tryd.underlying5
  a5 := Tryd.isAgg5
  z5 := Tryd.sizeOf5
  v5 := Tryd.zeroValue5
  t9 := Tryd.underlying9
  a9 := Tryd.isAgg9
  z9 := Tryd.sizeOf9
  v9 := Tryd.zeroValue9
  t21 := Tryd.underlying21
  a21 := Tryd.isAgg21
  z21 := Tryd.sizeOf21
  v21 := Tryd.zeroValue21
  t46 := Tryd.underlying217
  a46 := Tryd.isAgg217
  z46 := Tryd.sizeOf217
  v46 := Tryd.zeroValue217
  t105 := Tryd.underlying175
  a105 := Tryd.isAgg175
  z105 := Tryd.sizeOf175
  v105 := Tryd.zeroValue175
  t116 := Tryd.underlying123
  a116 := Tryd.isAgg123
  z116 := Tryd.sizeOf123
  t117 := Tryd.underlying124
  a117 := Tryd.isAgg124
  z117 := Tryd.sizeOf124
  v117 := Tryd.zeroValue124
  t119 := Tryd.underlying216
  a119 := Tryd.isAgg216
  z119 := Tryd.sizeOf216
  t124 := Tryd.underlying127
  a124 := Tryd.isAgg127
  z124 := Tryd.sizeOf127
  v124 := Tryd.zeroValue127
  t138 := Tryd.underlying219
  a138 := Tryd.isAgg219
  z138 := Tryd.sizeOf219
  v138 := Tryd.zeroValue219
  t139 := Tryd.underlying220
  a139 := Tryd.isAgg220
  z139 := Tryd.sizeOf220
  v139 := Tryd.zeroValue220
  g3 := by kernel_rfl
  g4 := by kernel_rfl }

open Go.RowKit in
theorem trim_laid (s cutset : ByteArray) (w : World) (hs : s.size ≤ 9223372036854775807) (hcs : cutset.size < 4294967281)
    (hascii : ∀ (j : Nat) b, cutset.data.toList[j]? = some b → b.toNat < 128) :
    Calls Tryd.prog 49 #[.string s, .string cutset] w fun e w' => e = .returned (.string ⟨(Lib.trimS s.data.toList cutset.data.toList).toArray⟩) ∧ Below w.heap.size w w' :=
  Any.strings_Trim_laid laysTrim (by kernel_rfl) s cutset w hs hcs hascii
end Go.Proofs.YtlpmfkpefoegeabDoor

namespace Go.Proofs.YtlpmfkpefoegeabDoor
set_option linter.unusedVariables false
set_option linter.unusedSimpArgs false
open Go.RowKit

theorem dropWhile_nil {p : UInt8 → Bool} : ∀ (l : List UInt8), l.dropWhile p = [] ↔ ∀ b ∈ l, p b = true
  | [] => by simp
  | b :: r => by
    rw [List.dropWhile_cons]
    cases h : p b with
    | true => simpa [h] using dropWhile_nil r
    | false => simp [h]

theorem trimS_nil (l cs : List UInt8) : Lib.trimS l cs = [] ↔ ∀ b ∈ l, cs.contains b = true := by
  unfold Lib.trimS Lib.trimLeftS Lib.trimRightS
  constructor
  · intro h
    rw [dropWhile_nil] at h
    have h0 : l.reverse.dropWhile (cs.contains ·) = [] := by
      cases e : l.reverse.dropWhile (cs.contains ·) with
      | nil => rfl
      | cons b r =>
        have h1 := List.head?_dropWhile_not (cs.contains ·) l.reverse
        rw [e] at h1 h
        simp only [List.head?_cons] at h1
        have h2 := h b (by simp)
        rw [h2] at h1
        cases h1
    rw [dropWhile_nil] at h0
    exact fun b hb => h0 b (by simpa using hb)
  · intro h
    rw [(dropWhile_nil l.reverse).2 (fun b hb => h b (by simpa using hb))]
    rfl

def abc : ByteArray := ⟨#[97, 98, 99, 100, 101, 102, 103, 104, 105, 106, 107, 108, 109, 110, 111, 112, 113, 114, 115, 116, 117, 118, 119, 120, 121, 122]⟩
theorem abc_has (b : UInt8) : abc.data.toList.contains b = true ↔ 97 ≤ (b.toNat : Int) ∧ (b.toNat : Int) ≤ 122 := by
  simp only [abc, List.contains_iff_mem, List.mem_cons, List.mem_nil_iff, or_false, ← UInt8.toNat_inj]
  show (b.toNat = 97 ∨ b.toNat = 98 ∨ b.toNat = 99 ∨ b.toNat = 100 ∨ b.toNat = 101 ∨ b.toNat = 102 ∨ b.toNat = 103 ∨ b.toNat = 104 ∨ b.toNat = 105 ∨ b.toNat = 106 ∨ b.toNat = 107 ∨ b.toNat = 108 ∨ b.toNat = 109 ∨ b.toNat = 110 ∨ b.toNat = 111 ∨ b.toNat = 112 ∨ b.toNat = 113 ∨ b.toNat = 114 ∨ b.toNat = 115 ∨ b.toNat = 116 ∨ b.toNat = 117 ∨ b.toNat = 118 ∨ b.toNat = 119 ∨ b.toNat = 120 ∨ b.toNat = 121 ∨ b.toNat = 122) ↔ _
  omega

theorem isName_iff {s : ByteArray} (h : s ≠ ⟨#[33]⟩) (h1 : 1 ≤ s.size) (h8 : s.size ≤ 8) : IsName s ↔ Lib.trimS s.data.toList abc.data.toList = [] := by
  rw [trimS_nil]
  constructor
  · rintro (e | ⟨_, _, k⟩)
    · exact absurd e h
    · intro b hb
      obtain ⟨i, hi, rfl⟩ := List.mem_iff_getElem.1 hb
      rw [abc_has]
      exact k i (by simpa using hi)
  · intro k
    refine .inr ⟨h1, h8, fun i hi => ?_⟩
    have := (abc_has _).1 (k (s.data.toList[i]'(by simpa using hi)) (List.getElem_mem _))
    exact this

theorem abc_ascii : ∀ (j : Nat) b, abc.data.toList[j]? = some b → b.toNat < 128 := by
  intro j b h
  have h2 := (abc_has b).1 (by rw [List.contains_iff_mem]; exact List.mem_of_getElem? h)
  omega

set_option maxHeartbeats 400000 in
theorem isName_ok (s : ByteArray) (w : World) (hs : s.size ≤ 1048576) :
    Calls Tryd.prog 14 #[.string s] w (Pure w fun v _ => ∃ r, v = .bool r ∧ (r = true ↔ IsName s)) := by
  have hc : (⟨#[33]⟩ : ByteArray).toList = [33] := by decide +kernel
  by_cases h1 : s.toList = (⟨#[33]⟩ : ByteArray).toList
  · have h1b : (s.toList == [33]) = true := by rw [h1, hc]; rfl
    have hn : IsName s := .inl (toList_inj' h1)
    have HN := hid hn
    clear hn h1 hc
    go_enter Tryd.func14, Tryd.ntmps14
    go_wp2_with fail
    go_ret
    exact ⟨_, rfl, Below.refl _ _, true, rfl, by simp [HN.out]⟩
  · have h1' : ¬ s = ⟨#[33]⟩ := fun e => h1 (by rw [e])
    have h1b : (s.toList == [33]) = false := by rw [hc] at h1; simpa using h1
    have HN := hid h1'
    clear h1' h1 hc
    by_cases h2 : s.toList.isEmpty = true
    · have hz : s = ByteArray.empty := by
        refine toList_inj' ?_
        have : s.toList = [] := by simpa using h2
        rw [this]; decide +kernel
      have hn : ¬ IsName s := by
        rintro (e | ⟨e, _⟩)
        · exact HN.out e
        · rw [hz] at e; simp at e
      have HZ := hid hn
      clear hn hz
      go_enter Tryd.func14, Tryd.ntmps14
      go_wp2_with fail
      go_ret
      exact ⟨_, rfl, Below.refl _ _, false, rfl, by simp [HZ.out]⟩
    · have h2b : s.toList.isEmpty = false := by simpa using h2
      have hp : 1 ≤ s.size := by
        rcases Nat.eq_zero_or_pos s.size with h | h
        · exfalso
          apply h2
          have : s = ByteArray.empty := by
            cases s with | mk d =>
            congr 1
            exact Array.eq_empty_of_size_eq_zero h
          rw [this]; decide +kernel
        · exact h
      clear h2
      by_cases h9 : decide ((s.size : Int) < 9) = true
      · have h8 : s.size ≤ 8 := by have := of_decide_eq_true h9; omega
        have HI := hid (isName_iff HN.out hp h8)
        have HT := hid (fun (W : World) => trim_laid s abc W (by omega) (by decide) abc_ascii)
        go_enter Tryd.func14, Tryd.ntmps14
        go_wp2_with fail
        refine (HT.out _).mono ?_
        rintro e w1 ⟨rfl, hb⟩
        have HB := hid hb
        clear hb HT
        by_cases ht : Lib.trimS s.data.toList abc.data.toList = []
        · have ht2 : (ByteArray.toList ⟨(Lib.trimS s.data.toList abc.data.toList).toArray⟩).isEmpty = true := by rw [ht]; decide +kernel
          have HX := hid (HI.out.2 ht)
          clear ht
          generalize (⟨(Lib.trimS s.data.toList abc.data.toList).toArray⟩ : ByteArray) = u at ht2 ⊢
          go_wp2_with fail
          go_ret
          exact ⟨_, rfl, HB.out, true, rfl, by simp [HX.out]⟩
        · have ht2 : (ByteArray.toList ⟨(Lib.trimS s.data.toList abc.data.toList).toArray⟩).isEmpty = false := by
            rw [ByteArray.toList_eq]; simpa using ht
          have HX := hid (show ¬ IsName s from fun k => ht (HI.out.1 k))
          clear ht
          generalize (⟨(Lib.trimS s.data.toList abc.data.toList).toArray⟩ : ByteArray) = u at ht2 ⊢
          go_wp2_with fail
          go_ret
          exact ⟨_, rfl, HB.out, false, rfl, by simp [HX.out]⟩
      · have h9b : decide ((s.size : Int) < 9) = false := by simpa using h9
        have hn : ¬ IsName s := by
          rintro (e | ⟨_, e, _⟩)
          · exact HN.out e
          · have := of_decide_eq_false h9b; omega
        have HZ := hid hn
        clear hn h9
        go_enter Tryd.func14, Tryd.ntmps14
        go_wp2_with fail
        go_ret
        exact ⟨_, rfl, Below.refl _ _, false, rfl, by simp [HZ.out]⟩
end Go.Proofs.YtlpmfkpefoegeabDoor
