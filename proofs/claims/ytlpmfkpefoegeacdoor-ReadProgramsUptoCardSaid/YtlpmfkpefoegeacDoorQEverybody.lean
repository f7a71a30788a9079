import Derived.Test.YtlpmfkpefoegeacDoorQClause2
import Derived.BigQuiet
namespace Go.Proofs.YtlpmfkpefoegeacDoor
set_option maxRecDepth 100000
set_option maxHeartbeats 16000000
set_option linter.all false
open Go.RowKit
def Zat:Nat->List UInt8×Nat|0=>([33],0)|1=>([116,114,117,101],0)|2=>([102,97,105,108],0)|3=>([101,113],2)|4=>([108,101,115,115],2)|_=>([97,100,100],3)
theorem Zbf(t:Tm):t.Known↔∃q,q<6/\t.s.toList=(Zat q).1/\t.args.length=(Zat q).2:=by
 constructor
 ·rintro(⟨h,h1|h1|h1⟩|⟨h,h1|h1⟩|⟨h,h1⟩);·exact⟨0,by omega,h1,h⟩
  ·exact⟨1,by omega,h1,h⟩
  ·exact⟨2,by omega,h1,h⟩
  ·exact⟨3,by omega,h1,h⟩
  ·exact⟨4,by omega,h1,h⟩
  ·exact⟨5,by omega,h1,h⟩
 ·rintro⟨q,hq,h1,h2⟩;match q,hq with|0,_=>exact .inl ⟨h2,.inl h1⟩|1,_=>exact .inl ⟨h2,.inr (.inl h1)⟩|2,_=>exact .inl ⟨h2,.inr (.inr h1)⟩|3,_=>exact .inr (.inl ⟨h2,.inl h1⟩)|4,_=>exact .inr (.inl ⟨h2,.inr h1⟩)|5,_=>exact .inr (.inr ⟨h2,h1⟩)
theorem Zdx (t : Tm) (A : Nat → Prop) (w : World) (vs : List Value) (hv : Tm.rep A w t vs) :
    Calls Tryd.prog 52 #[.agg vs.toArray] w (Pure w (ZcT t.Known)) := by
  obtain ⟨sa, sc, rfl, -⟩ := Tm.rep4 hv
  clear hv
  go_enter Tryd.func52, Tryd.ntmps52
  go_wp2_with fail
  have HX0 := zh (Za2 (ZaC w (.cells #[.int .i64 t.kind, .int .i64 t.n, .string t.s, .slice sa t.args.length sc] 27)) (.cells #[.string ⟨#[33, 47, 48]⟩, .string ⟨#[116, 114, 117, 101, 47, 48]⟩, .string ⟨#[102, 97, 105, 108, 47, 48]⟩, .string ⟨#[101, 113, 47, 50]⟩, .string ⟨#[108, 101, 115, 115, 47, 50]⟩, .string ⟨#[97, 100, 100, 47, 51]⟩] 9))
  have HY0 := zh (ZaC (w.alloc (.cells #[.int .i64 t.kind, .int .i64 t.n, .string t.s, .slice sa t.args.length sc] 27)) (.cells #[.string ⟨#[33, 47, 48]⟩, .string ⟨#[116, 114, 117, 101, 47, 48]⟩, .string ⟨#[102, 97, 105, 108, 47, 48]⟩, .string ⟨#[101, 113, 47, 50]⟩, .string ⟨#[108, 101, 115, 115, 47, 50]⟩, .string ⟨#[97, 100, 100, 47, 51]⟩] 9))
  have HB0 := zh (((Below.refl _ w).alloc (zL _) (.cells #[.int .i64 t.kind, .int .i64 t.n, .string t.s, .slice sa t.args.length sc] 27)).alloc (by simp) (.cells #[.string ⟨#[33, 47, 48]⟩, .string ⟨#[116, 114, 117, 101, 47, 48]⟩, .string ⟨#[102, 97, 105, 108, 47, 48]⟩, .string ⟨#[101, 113, 47, 50]⟩, .string ⟨#[108, 101, 115, 115, 47, 50]⟩, .string ⟨#[97, 100, 100, 47, 51]⟩] 9))
  have hz0 : (w.alloc (.cells #[.int .i64 t.kind, .int .i64 t.n, .string t.s, .slice sa t.args.length sc] 27)).heap.size = w.heap.size + 1 := by simp
  rw [hz0] at HY0
  generalize (w.alloc (.cells #[.int .i64 t.kind, .int .i64 t.n, .string t.s, .slice sa t.args.length sc] 27)).alloc (.cells #[.string ⟨#[33, 47, 48]⟩, .string ⟨#[116, 114, 117, 101, 47, 48]⟩, .string ⟨#[102, 97, 105, 108, 47, 48]⟩, .string ⟨#[101, 113, 47, 50]⟩, .string ⟨#[108, 101, 115, 115, 47, 50]⟩, .string ⟨#[97, 100, 100, 47, 51]⟩] 9) = wa at HX0 HY0 HB0 ⊢
  clear hz0
  go_loopw [8] (fun i W => ∃ j : Nat, j ≤ 6 ∧ i = .int .i64 (j : Int) ∧ Below wa.heap.size wa W ∧ ∀ q, q < j → ¬ (t.s.toList = (Zat q).1 ∧ t.args.length = (Zat q).2)) (fun i _ => 6 - (intOf i).toNat)
  case atStart => exact ⟨0, by omega, rfl, zB _ _, fun q h => absurd h (Nat.not_lt_zero _)⟩
  case round =>
    obtain ⟨j, hj, rfl, hb, hq⟩ := hrel
    have HB := zh hb
    have HQ := zh hq
    have hz := hb.size
    obtain ⟨x0, x1, x2, x3, xf⟩ := Za8 (Zan HX0.o hb)
    have HY := zh (Zan HY0.o hb)
    clear hb hq
    by_cases h6 : j = 6
    · subst h6
      go_wp2_with fail
      go_ret
      exact ⟨_, rfl, HB0.o.trans (HB.o.mono HB0.o.size), _, rfl, ⟨(fun h => by cases h), fun h => by
        obtain ⟨q, h1, h2⟩ := (Zbf t).1 h
        exact absurd h2 (HQ.o q h1)⟩⟩
    by_cases h0 : j = 0
    · subst h0
      have c0 : wr.cell? ⟨w.heap.size + 1, 0, none⟩ = some (.string ⟨#[33, 47, 48]⟩) := (Zaj HY.o 0).trans rfl
      by_cases e : t.s.toList = [33]
      · have e' : (t.s.toList == (ByteArray.extract ⟨#[33, 47, 48]⟩ 0 1).toList) = true := by rw [show (ByteArray.extract ⟨#[33, 47, 48]⟩ 0 1).toList = [33] by decide +kernel]; simpa using e
        by_cases e2 : t.args.length = 0
        · have HKN := zh ((Zbf t).2 ⟨0, by omega, e, e2⟩)
          have e2' : ((t.args.length : Int) == (((((⟨#[33, 47, 48]⟩ : ByteArray)[2]'(by decide)).toNat : Int) - 48) % 256)) = true := by rw [show (((((⟨#[33, 47, 48]⟩ : ByteArray)[2]'(by decide)).toNat : Int) - 48) % 256) = 0 by decide +kernel]; simp [e2]
          clear e e2
          go_wp2_with fail
          go_quiet (fail)
          go_wp2_with fail
          go_ret
          exact ⟨_, rfl, (HB0.o.trans (HB.o.mono HB0.o.size)).trans ⟨rfl, rfl, rfl, zL _, fun _ _ => rfl⟩, _, rfl, ⟨fun _ => HKN.o, fun _ => rfl⟩⟩
        · have HNK := zh (show ¬ (t.s.toList = (Zat 0).1 ∧ t.args.length = (Zat 0).2) from fun h => e2 h.2)
          have e2' : ((t.args.length : Int) == (((((⟨#[33, 47, 48]⟩ : ByteArray)[2]'(by decide)).toNat : Int) - 48) % 256)) = false := by rw [show (((((⟨#[33, 47, 48]⟩ : ByteArray)[2]'(by decide)).toNat : Int) - 48) % 256) = 0 by decide +kernel]; simpa using fun h : (t.args.length : Int) = 0 => e2 (by omega)
          clear e e2
          go_wp2_with fail
          go_quiet (fail)
          go_wp2_with fail
          refine ⟨⟨1, by omega, by go_num, HB.o.trans ⟨rfl, rfl, rfl, zL _, fun _ _ => rfl⟩, fun q hq => ?_⟩, by first | (simp [intOf]; done) | (simp [intOf]; omega)⟩
          by_cases h : q = 0
          · subst h; exact HNK.o
          · exact HQ.o q (by omega)
      · have HNK := zh (show ¬ (t.s.toList = (Zat 0).1 ∧ t.args.length = (Zat 0).2) from fun h => e h.1)
        have e' : (t.s.toList == (ByteArray.extract ⟨#[33, 47, 48]⟩ 0 1).toList) = false := by rw [show (ByteArray.extract ⟨#[33, 47, 48]⟩ 0 1).toList = [33] by decide +kernel]; simpa using e
        clear e
        go_wp2_with fail
        go_quiet (fail)
        go_wp2_with fail
        refine ⟨⟨1, by omega, by go_num, HB.o.trans ⟨rfl, rfl, rfl, zL _, fun _ _ => rfl⟩, fun q hq => ?_⟩, by first | (simp [intOf]; done) | (simp [intOf]; omega)⟩
        by_cases h : q = 0
        · subst h; exact HNK.o
        · exact HQ.o q (by omega)
    by_cases h1 : j = 1
    · subst h1
      have c1 : wr.cell? ⟨w.heap.size + 1, 1, none⟩ = some (.string ⟨#[116, 114, 117, 101, 47, 48]⟩) := (Zaj HY.o 1).trans rfl
      by_cases e : t.s.toList = [116, 114, 117, 101]
      · have e' : (t.s.toList == (ByteArray.extract ⟨#[116, 114, 117, 101, 47, 48]⟩ 0 4).toList) = true := by rw [show (ByteArray.extract ⟨#[116, 114, 117, 101, 47, 48]⟩ 0 4).toList = [116, 114, 117, 101] by decide +kernel]; simpa using e
        by_cases e2 : t.args.length = 0
        · have HKN := zh ((Zbf t).2 ⟨1, by omega, e, e2⟩)
          have e2' : ((t.args.length : Int) == (((((⟨#[116, 114, 117, 101, 47, 48]⟩ : ByteArray)[5]'(by decide)).toNat : Int) - 48) % 256)) = true := by rw [show (((((⟨#[116, 114, 117, 101, 47, 48]⟩ : ByteArray)[5]'(by decide)).toNat : Int) - 48) % 256) = 0 by decide +kernel]; simp [e2]
          clear e e2
          go_wp2_with fail
          go_quiet (fail)
          go_wp2_with fail
          go_ret
          exact ⟨_, rfl, (HB0.o.trans (HB.o.mono HB0.o.size)).trans ⟨rfl, rfl, rfl, zL _, fun _ _ => rfl⟩, _, rfl, ⟨fun _ => HKN.o, fun _ => rfl⟩⟩
        · have HNK := zh (show ¬ (t.s.toList = (Zat 1).1 ∧ t.args.length = (Zat 1).2) from fun h => e2 h.2)
          have e2' : ((t.args.length : Int) == (((((⟨#[116, 114, 117, 101, 47, 48]⟩ : ByteArray)[5]'(by decide)).toNat : Int) - 48) % 256)) = false := by rw [show (((((⟨#[116, 114, 117, 101, 47, 48]⟩ : ByteArray)[5]'(by decide)).toNat : Int) - 48) % 256) = 0 by decide +kernel]; simpa using fun h : (t.args.length : Int) = 0 => e2 (by omega)
          clear e e2
          go_wp2_with fail
          go_quiet (fail)
          go_wp2_with fail
          refine ⟨⟨2, by omega, by go_num, HB.o.trans ⟨rfl, rfl, rfl, zL _, fun _ _ => rfl⟩, fun q hq => ?_⟩, by first | (simp [intOf]; done) | (simp [intOf]; omega)⟩
          by_cases h : q = 1
          · subst h; exact HNK.o
          · exact HQ.o q (by omega)
      · have HNK := zh (show ¬ (t.s.toList = (Zat 1).1 ∧ t.args.length = (Zat 1).2) from fun h => e h.1)
        have e' : (t.s.toList == (ByteArray.extract ⟨#[116, 114, 117, 101, 47, 48]⟩ 0 4).toList) = false := by rw [show (ByteArray.extract ⟨#[116, 114, 117, 101, 47, 48]⟩ 0 4).toList = [116, 114, 117, 101] by decide +kernel]; simpa using e
        clear e
        go_wp2_with fail
        go_quiet (fail)
        go_wp2_with fail
        refine ⟨⟨2, by omega, by go_num, HB.o.trans ⟨rfl, rfl, rfl, zL _, fun _ _ => rfl⟩, fun q hq => ?_⟩, by first | (simp [intOf]; done) | (simp [intOf]; omega)⟩
        by_cases h : q = 1
        · subst h; exact HNK.o
        · exact HQ.o q (by omega)
    by_cases h2 : j = 2
    · subst h2
      have c2 : wr.cell? ⟨w.heap.size + 1, 2, none⟩ = some (.string ⟨#[102, 97, 105, 108, 47, 48]⟩) := (Zaj HY.o 2).trans rfl
      by_cases e : t.s.toList = [102, 97, 105, 108]
      · have e' : (t.s.toList == (ByteArray.extract ⟨#[102, 97, 105, 108, 47, 48]⟩ 0 4).toList) = true := by rw [show (ByteArray.extract ⟨#[102, 97, 105, 108, 47, 48]⟩ 0 4).toList = [102, 97, 105, 108] by decide +kernel]; simpa using e
        by_cases e2 : t.args.length = 0
        · have HKN := zh ((Zbf t).2 ⟨2, by omega, e, e2⟩)
          have e2' : ((t.args.length : Int) == (((((⟨#[102, 97, 105, 108, 47, 48]⟩ : ByteArray)[5]'(by decide)).toNat : Int) - 48) % 256)) = true := by rw [show (((((⟨#[102, 97, 105, 108, 47, 48]⟩ : ByteArray)[5]'(by decide)).toNat : Int) - 48) % 256) = 0 by decide +kernel]; simp [e2]
          clear e e2
          go_wp2_with fail
          go_quiet (fail)
          go_wp2_with fail
          go_ret
          exact ⟨_, rfl, (HB0.o.trans (HB.o.mono HB0.o.size)).trans ⟨rfl, rfl, rfl, zL _, fun _ _ => rfl⟩, _, rfl, ⟨fun _ => HKN.o, fun _ => rfl⟩⟩
        · have HNK := zh (show ¬ (t.s.toList = (Zat 2).1 ∧ t.args.length = (Zat 2).2) from fun h => e2 h.2)
          have e2' : ((t.args.length : Int) == (((((⟨#[102, 97, 105, 108, 47, 48]⟩ : ByteArray)[5]'(by decide)).toNat : Int) - 48) % 256)) = false := by rw [show (((((⟨#[102, 97, 105, 108, 47, 48]⟩ : ByteArray)[5]'(by decide)).toNat : Int) - 48) % 256) = 0 by decide +kernel]; simpa using fun h : (t.args.length : Int) = 0 => e2 (by omega)
          clear e e2
          go_wp2_with fail
          go_quiet (fail)
          go_wp2_with fail
          refine ⟨⟨3, by omega, by go_num, HB.o.trans ⟨rfl, rfl, rfl, zL _, fun _ _ => rfl⟩, fun q hq => ?_⟩, by first | (simp [intOf]; done) | (simp [intOf]; omega)⟩
          by_cases h : q = 2
          · subst h; exact HNK.o
          · exact HQ.o q (by omega)
      · have HNK := zh (show ¬ (t.s.toList = (Zat 2).1 ∧ t.args.length = (Zat 2).2) from fun h => e h.1)
        have e' : (t.s.toList == (ByteArray.extract ⟨#[102, 97, 105, 108, 47, 48]⟩ 0 4).toList) = false := by rw [show (ByteArray.extract ⟨#[102, 97, 105, 108, 47, 48]⟩ 0 4).toList = [102, 97, 105, 108] by decide +kernel]; simpa using e
        clear e
        go_wp2_with fail
        go_quiet (fail)
        go_wp2_with fail
        refine ⟨⟨3, by omega, by go_num, HB.o.trans ⟨rfl, rfl, rfl, zL _, fun _ _ => rfl⟩, fun q hq => ?_⟩, by first | (simp [intOf]; done) | (simp [intOf]; omega)⟩
        by_cases h : q = 2
        · subst h; exact HNK.o
        · exact HQ.o q (by omega)
    by_cases h3 : j = 3
    · subst h3
      have c3 : wr.cell? ⟨w.heap.size + 1, 3, none⟩ = some (.string ⟨#[101, 113, 47, 50]⟩) := (Zaj HY.o 3).trans rfl
      by_cases e : t.s.toList = [101, 113]
      · have e' : (t.s.toList == (ByteArray.extract ⟨#[101, 113, 47, 50]⟩ 0 2).toList) = true := by rw [show (ByteArray.extract ⟨#[101, 113, 47, 50]⟩ 0 2).toList = [101, 113] by decide +kernel]; simpa using e
        by_cases e2 : t.args.length = 2
        · have HKN := zh ((Zbf t).2 ⟨3, by omega, e, e2⟩)
          have e2' : ((t.args.length : Int) == (((((⟨#[101, 113, 47, 50]⟩ : ByteArray)[3]'(by decide)).toNat : Int) - 48) % 256)) = true := by rw [show (((((⟨#[101, 113, 47, 50]⟩ : ByteArray)[3]'(by decide)).toNat : Int) - 48) % 256) = 2 by decide +kernel]; simp [e2]
          clear e e2
          go_wp2_with fail
          go_quiet (fail)
          go_wp2_with fail
          go_ret
          exact ⟨_, rfl, (HB0.o.trans (HB.o.mono HB0.o.size)).trans ⟨rfl, rfl, rfl, zL _, fun _ _ => rfl⟩, _, rfl, ⟨fun _ => HKN.o, fun _ => rfl⟩⟩
        · have HNK := zh (show ¬ (t.s.toList = (Zat 3).1 ∧ t.args.length = (Zat 3).2) from fun h => e2 h.2)
          have e2' : ((t.args.length : Int) == (((((⟨#[101, 113, 47, 50]⟩ : ByteArray)[3]'(by decide)).toNat : Int) - 48) % 256)) = false := by rw [show (((((⟨#[101, 113, 47, 50]⟩ : ByteArray)[3]'(by decide)).toNat : Int) - 48) % 256) = 2 by decide +kernel]; simpa using fun h : (t.args.length : Int) = 2 => e2 (by omega)
          clear e e2
          go_wp2_with fail
          go_quiet (fail)
          go_wp2_with fail
          refine ⟨⟨4, by omega, by go_num, HB.o.trans ⟨rfl, rfl, rfl, zL _, fun _ _ => rfl⟩, fun q hq => ?_⟩, by first | (simp [intOf]; done) | (simp [intOf]; omega)⟩
          by_cases h : q = 3
          · subst h; exact HNK.o
          · exact HQ.o q (by omega)
      · have HNK := zh (show ¬ (t.s.toList = (Zat 3).1 ∧ t.args.length = (Zat 3).2) from fun h => e h.1)
        have e' : (t.s.toList == (ByteArray.extract ⟨#[101, 113, 47, 50]⟩ 0 2).toList) = false := by rw [show (ByteArray.extract ⟨#[101, 113, 47, 50]⟩ 0 2).toList = [101, 113] by decide +kernel]; simpa using e
        clear e
        go_wp2_with fail
        go_quiet (fail)
        go_wp2_with fail
        refine ⟨⟨4, by omega, by go_num, HB.o.trans ⟨rfl, rfl, rfl, zL _, fun _ _ => rfl⟩, fun q hq => ?_⟩, by first | (simp [intOf]; done) | (simp [intOf]; omega)⟩
        by_cases h : q = 3
        · subst h; exact HNK.o
        · exact HQ.o q (by omega)
    by_cases h4 : j = 4
    · subst h4
      have c4 : wr.cell? ⟨w.heap.size + 1, 4, none⟩ = some (.string ⟨#[108, 101, 115, 115, 47, 50]⟩) := (Zaj HY.o 4).trans rfl
      by_cases e : t.s.toList = [108, 101, 115, 115]
      · have e' : (t.s.toList == (ByteArray.extract ⟨#[108, 101, 115, 115, 47, 50]⟩ 0 4).toList) = true := by rw [show (ByteArray.extract ⟨#[108, 101, 115, 115, 47, 50]⟩ 0 4).toList = [108, 101, 115, 115] by decide +kernel]; simpa using e
        by_cases e2 : t.args.length = 2
        · have HKN := zh ((Zbf t).2 ⟨4, by omega, e, e2⟩)
          have e2' : ((t.args.length : Int) == (((((⟨#[108, 101, 115, 115, 47, 50]⟩ : ByteArray)[5]'(by decide)).toNat : Int) - 48) % 256)) = true := by rw [show (((((⟨#[108, 101, 115, 115, 47, 50]⟩ : ByteArray)[5]'(by decide)).toNat : Int) - 48) % 256) = 2 by decide +kernel]; simp [e2]
          clear e e2
          go_wp2_with fail
          go_quiet (fail)
          go_wp2_with fail
          go_ret
          exact ⟨_, rfl, (HB0.o.trans (HB.o.mono HB0.o.size)).trans ⟨rfl, rfl, rfl, zL _, fun _ _ => rfl⟩, _, rfl, ⟨fun _ => HKN.o, fun _ => rfl⟩⟩
        · have HNK := zh (show ¬ (t.s.toList = (Zat 4).1 ∧ t.args.length = (Zat 4).2) from fun h => e2 h.2)
          have e2' : ((t.args.length : Int) == (((((⟨#[108, 101, 115, 115, 47, 50]⟩ : ByteArray)[5]'(by decide)).toNat : Int) - 48) % 256)) = false := by rw [show (((((⟨#[108, 101, 115, 115, 47, 50]⟩ : ByteArray)[5]'(by decide)).toNat : Int) - 48) % 256) = 2 by decide +kernel]; simpa using fun h : (t.args.length : Int) = 2 => e2 (by omega)
          clear e e2
          go_wp2_with fail
          go_quiet (fail)
          go_wp2_with fail
          refine ⟨⟨5, by omega, by go_num, HB.o.trans ⟨rfl, rfl, rfl, zL _, fun _ _ => rfl⟩, fun q hq => ?_⟩, by first | (simp [intOf]; done) | (simp [intOf]; omega)⟩
          by_cases h : q = 4
          · subst h; exact HNK.o
          · exact HQ.o q (by omega)
      · have HNK := zh (show ¬ (t.s.toList = (Zat 4).1 ∧ t.args.length = (Zat 4).2) from fun h => e h.1)
        have e' : (t.s.toList == (ByteArray.extract ⟨#[108, 101, 115, 115, 47, 50]⟩ 0 4).toList) = false := by rw [show (ByteArray.extract ⟨#[108, 101, 115, 115, 47, 50]⟩ 0 4).toList = [108, 101, 115, 115] by decide +kernel]; simpa using e
        clear e
        go_wp2_with fail
        go_quiet (fail)
        go_wp2_with fail
        refine ⟨⟨5, by omega, by go_num, HB.o.trans ⟨rfl, rfl, rfl, zL _, fun _ _ => rfl⟩, fun q hq => ?_⟩, by first | (simp [intOf]; done) | (simp [intOf]; omega)⟩
        by_cases h : q = 4
        · subst h; exact HNK.o
        · exact HQ.o q (by omega)
    by_cases h5 : j = 5
    · subst h5
      have c5 : wr.cell? ⟨w.heap.size + 1, 5, none⟩ = some (.string ⟨#[97, 100, 100, 47, 51]⟩) := (Zaj HY.o 5).trans rfl
      by_cases e : t.s.toList = [97, 100, 100]
      · have e' : (t.s.toList == (ByteArray.extract ⟨#[97, 100, 100, 47, 51]⟩ 0 3).toList) = true := by rw [show (ByteArray.extract ⟨#[97, 100, 100, 47, 51]⟩ 0 3).toList = [97, 100, 100] by decide +kernel]; simpa using e
        by_cases e2 : t.args.length = 3
        · have HKN := zh ((Zbf t).2 ⟨5, by omega, e, e2⟩)
          have e2' : ((t.args.length : Int) == (((((⟨#[97, 100, 100, 47, 51]⟩ : ByteArray)[4]'(by decide)).toNat : Int) - 48) % 256)) = true := by rw [show (((((⟨#[97, 100, 100, 47, 51]⟩ : ByteArray)[4]'(by decide)).toNat : Int) - 48) % 256) = 3 by decide +kernel]; simp [e2]
          clear e e2
          go_wp2_with fail
          go_quiet (fail)
          go_wp2_with fail
          go_ret
          exact ⟨_, rfl, (HB0.o.trans (HB.o.mono HB0.o.size)).trans ⟨rfl, rfl, rfl, zL _, fun _ _ => rfl⟩, _, rfl, ⟨fun _ => HKN.o, fun _ => rfl⟩⟩
        · have HNK := zh (show ¬ (t.s.toList = (Zat 5).1 ∧ t.args.length = (Zat 5).2) from fun h => e2 h.2)
          have e2' : ((t.args.length : Int) == (((((⟨#[97, 100, 100, 47, 51]⟩ : ByteArray)[4]'(by decide)).toNat : Int) - 48) % 256)) = false := by rw [show (((((⟨#[97, 100, 100, 47, 51]⟩ : ByteArray)[4]'(by decide)).toNat : Int) - 48) % 256) = 3 by decide +kernel]; simpa using fun h : (t.args.length : Int) = 3 => e2 (by omega)
          clear e e2
          go_wp2_with fail
          go_quiet (fail)
          go_wp2_with fail
          refine ⟨⟨6, by omega, by go_num, HB.o.trans ⟨rfl, rfl, rfl, zL _, fun _ _ => rfl⟩, fun q hq => ?_⟩, by first | (simp [intOf]; done) | (simp [intOf]; omega)⟩
          by_cases h : q = 5
          · subst h; exact HNK.o
          · exact HQ.o q (by omega)
      · have HNK := zh (show ¬ (t.s.toList = (Zat 5).1 ∧ t.args.length = (Zat 5).2) from fun h => e h.1)
        have e' : (t.s.toList == (ByteArray.extract ⟨#[97, 100, 100, 47, 51]⟩ 0 3).toList) = false := by rw [show (ByteArray.extract ⟨#[97, 100, 100, 47, 51]⟩ 0 3).toList = [97, 100, 100] by decide +kernel]; simpa using e
        clear e
        go_wp2_with fail
        go_quiet (fail)
        go_wp2_with fail
        refine ⟨⟨6, by omega, by go_num, HB.o.trans ⟨rfl, rfl, rfl, zL _, fun _ _ => rfl⟩, fun q hq => ?_⟩, by first | (simp [intOf]; done) | (simp [intOf]; omega)⟩
        by_cases h : q = 5
        · subst h; exact HNK.o
        · exact HQ.o q (by omega)
    omega
end Go.Proofs.YtlpmfkpefoegeacDoor
