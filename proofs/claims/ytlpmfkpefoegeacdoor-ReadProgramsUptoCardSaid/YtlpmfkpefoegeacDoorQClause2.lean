import Derived.Test.YtlpmfkpefoegeacDoorQNodes
import Derived.Test.YtlpmfkpefoegeacDoorQIsHeap
namespace Go.Proofs.YtlpmfkpefoegeacDoor
set_option maxRecDepth 100000
set_option maxHeartbeats 16000000
set_option linter.all false
open Go.RowKit
def Tm.IsGoal(t:Tm):Prop:=t.kind=1\/t.kind=3
def Tm.Known(t:Tm):Prop:=(t.args.length=0/\(t.s.toList=[33]\/t.s.toList=[116,114,117,101]\/t.s.toList=[102,97,105,108]))\/(t.args.length=2/\(t.s.toList=[101,113]\/t.s.toList=[108,101,115,115]))\/(t.args.length=3/\t.s.toList=[97,100,100])
def Tm.Fits(v:Int)(t:Tm):Prop:=t.Good v/\t.nodes<=24
theorem Zc8(t:Tm)(A:Nat->Prop)(w:World)(vs:List Value)(hv:Tm.rep A w t vs):Calls Tryd.prog 38 #[.agg vs.toArray] w (Pure w (ZcT t.IsGoal)):=by
 obtain⟨k,n,s,l⟩:=t;rw[Tm.rep_iff]at hv;obtain⟨hk,hn,hs,v,rfl,hl⟩:=hv;obtain⟨a,cap, -, -,rfl, -⟩:=hl.at;have HB:=zh (show Below w.heap.size w (w.alloc (.cells #[.int .i64 k,.int .i64 n,.string s,.slice a l.length cap] 27))from ZaB (zB _ _));clear hl;by_cases e1:k=1;·subst e1;go_enter Tryd.func38,Tryd.ntmps38;go_wp2_with fail;go_ret;exact⟨_,rfl,HB.o,_,rfl,by simp[Tm.IsGoal,Tm.kind]⟩
 ·have h1:(k==1)=false:=by simpa using e1
  by_cases e3:k=3;·subst e3;go_enter Tryd.func38,Tryd.ntmps38;go_wp2_with fail;go_ret;exact⟨_,rfl,HB.o,_,rfl,by simp[Tm.IsGoal,Tm.kind]⟩
  ·have h3:(k==3)=false:=by simpa using e3
   go_enter Tryd.func38,Tryd.ntmps38;go_wp2_with fail;go_ret;exact⟨_,rfl,HB.o,_,rfl,by simp[Tm.IsGoal,Tm.kind,e1,e3]⟩
theorem ZfI(t:Tm)(A:Nat->Prop)(w:World)(vs:List Value)(hv:Tm.rep A w t vs):Calls Tryd.prog 44 #[.agg vs.toArray] w (Pure w (ZcT t.Known)):=by
 obtain⟨k,n,s,l⟩:=t;rw[Tm.rep_iff]at hv;obtain⟨hk,hn,hs,v,rfl,hl⟩:=hv;obtain⟨a,cap, -, -,rfl, -⟩:=hl.at;have HB:=zh (show Below w.heap.size w (w.alloc (.cells #[.int .i64 k,.int .i64 n,.string s,.slice a l.length cap] 27))from ZaB (zB _ _));clear hl;by_cases e0:l.length=0
 ·rw[e0];by_cases s1:s.toList=[33]
  ·have q1:(s.toList==[33])=true:=by simpa using s1
   go_enter Tryd.func44,Tryd.ntmps44;rw[e0]at HB;go_wp2_with fail;go_ret;exact⟨_,rfl,HB.o,_,rfl,by simp[Tm.Known,Tm.args,Tm.s,e0,s1]⟩
  ·have q1:(s.toList==[33])=false:=by simpa using s1
   by_cases s2:s.toList=[116,114,117,101]
   ·have q2:(s.toList==[116,114,117,101])=true:=by simpa using s2
    go_enter Tryd.func44,Tryd.ntmps44;rw[e0]at HB;go_wp2_with fail;go_ret;exact⟨_,rfl,HB.o,_,rfl,by simp[Tm.Known,Tm.args,Tm.s,e0,s2]⟩
   ·have q2:(s.toList==[116,114,117,101])=false:=by simpa using s2
    go_enter Tryd.func44,Tryd.ntmps44;rw[e0]at HB;go_wp2_with fail;go_ret;exact⟨_,rfl,HB.o,_,rfl,by simp[Tm.Known,Tm.args,Tm.s,e0,s1,s2]⟩
 ·by_cases e2:l.length=2
  ·rw[e2];by_cases s1:s.toList=[101,113]
   ·have q1:(s.toList==[101,113])=true:=by simpa using s1
    go_enter Tryd.func44,Tryd.ntmps44;rw[e2]at HB;go_wp2_with fail;go_ret;exact⟨_,rfl,HB.o,_,rfl,by simp[Tm.Known,Tm.args,Tm.s,e2,s1]⟩
   ·have q1:(s.toList==[101,113])=false:=by simpa using s1
    go_enter Tryd.func44,Tryd.ntmps44;rw[e2]at HB;go_wp2_with fail;go_ret;exact⟨_,rfl,HB.o,_,rfl,by simp[Tm.Known,Tm.args,Tm.s,e2,s1]⟩
  ·by_cases e3:l.length=3;·rw[e3];go_enter Tryd.func44,Tryd.ntmps44;rw[e3]at HB;go_wp2_with fail;go_ret;exact⟨_,rfl,HB.o,_,rfl,by simp[Tm.Known,Tm.args,Tm.s,e3]⟩
   ·have l0:((l.length:Int)==0)=false:=by simpa using(show ¬(l.length:Int)=0 by omega)
    have l2:((l.length:Int)==2)=false:=by simpa using(show ¬(l.length:Int)=2 by omega)
    have l3:((l.length:Int)==3)=false:=by simpa using(show ¬(l.length:Int)=3 by omega)
    go_enter Tryd.func44,Tryd.ntmps44;go_wp2_with fail;go_ret;refine⟨_,rfl,HB.o,_,rfl,?_⟩;simp only[Tm.Known,Tm.args,Tm.s];exact⟨(fun h=>by cases h),fun h=>by rcases h with⟨h, -⟩|⟨h, -⟩|⟨h, -⟩<;>omega⟩
theorem ZeU (t : Tm) (v : Int) (hnd : t.nodes ≤ 1099511627776) (hi : I64 v) (A : Nat → Prop) (w : World) (vs : List Value) (hv : Tm.rep A w t vs) :
    Calls Tryd.prog 39 #[.agg vs.toArray, .int .i64 v] w (Pure w (ZcT (t.Fits v))) := by
  have HG := zh (fun w' (hk : Keeps A w w') => ZfF t v A w' vs hi (Tm.rep_lasts.1 _ _ _ _ _ hv hk))
  have HN := zh (fun w' (hk : Keeps A w w') => ZfH t A w' vs hnd (Tm.rep_lasts.1 _ _ _ _ _ hv hk))
  obtain ⟨sa, sc, rfl, -⟩ := Tm.rep4 hv
  clear hv
  go_enter Tryd.func39, Tryd.ntmps39
  go_wp2_with fail
  refine (HG.o _ (Keeps.alloc _ _ _)).mono ?_
  rintro e w1 ⟨r, rfl, hb, b, rfl, hr⟩
  have HB := zh (show Below w.heap.size w w1 from ZaB (hb.mono (by simp)))
  have HX := zh (Zan (ZaC w (.cells #[.int .i64 t.kind, .int .i64 t.n, .string t.s, .slice sa t.args.length sc] 27)) hb)
  clear hb
  obtain ⟨x0, x1, x2, x3, xf⟩ := Za8 HX.o
  have hzz := HB.o.size
  cases b with
  | false =>
    have HNG := zh (show ¬ t.Good v from fun h => by have := hr.2 h; cases this)
    clear hr
    go_wp2_with fail
    go_ret
    exact ⟨_, rfl, HB.o, _, rfl, ⟨(fun h => by cases h), fun h => absurd h.1 HNG.o⟩⟩
  | true =>
    have HGD := zh (hr.1 rfl)
    clear hr
    go_wp2_with fail
    refine (HN.o _ (Keeps.ob HB.o)).mono ?_
    rintro e w2 ⟨r, rfl, hb, rfl⟩
    have HB2 := zh (HB.o.trans (hb.mono HB.o.size))
    clear hb
    by_cases hn : t.nodes ≤ 24
    · have HNN := zh hn
      have hn' : (t.nodes : Int) ≤ 24 := by omega
      clear hn
      go_wp2_with fail
      go_ret
      exact ⟨_, rfl, HB2.o, _, rfl, ⟨fun _ => ⟨HGD.o, HNN.o⟩, fun _ => (by first | rfl | simp [hn'])⟩⟩
    · have HNN := zh hn
      have hn' : ¬ (t.nodes : Int) ≤ 24 := by omega
      clear hn
      go_wp2_with fail
      go_ret
      exact ⟨_, rfl, HB2.o, _, rfl, ⟨(fun h => by first | (cases h; done) | (simp at h; omega)), fun h => absurd h.2 HNN.o⟩⟩
structure Cl where
  head : Tm
  body : List Tm
  vars : Int
def Cl.rep(A:Nat->Prop)(w:World)(c:Cl)(vs:List Value):Prop:=∃a ac b bc,vs=[.int .i64 c.head.kind,.int .i64 c.head.n,.string c.head.s,.slice a c.head.args.length ac,.slice b c.body.length bc,.int .i64 c.vars]/\Tm.rep A w c.head [.int .i64 c.head.kind,.int .i64 c.head.n,.string c.head.s,.slice a c.head.args.length ac]/\ZdA A w c.body (.slice b c.body.length bc)/\I64 c.vars
theorem Cl.rep_lasts:Lasts Cl.rep:=by
 refine⟨fun A w w' c vs h hk=>?_,fun A A' w c vs h hA=>?_,fun A w c vs h=>?_⟩;·obtain⟨a,ac,b,bc,rfl,h1,h2,h3⟩:=h;exact⟨a,ac,b,bc,rfl,Tm.rep_lasts.1 _ _ _ _ _ h1 hk,SlR.keeps Tm.rep_lasts h2 hk,h3⟩
 ·obtain⟨a,ac,b,bc,rfl,h1,h2,h3⟩:=h;exact⟨a,ac,b,bc,rfl,Tm.rep_lasts.2.1 _ _ _ _ _ h1 hA,SlR.mono Tm.rep_lasts (by omega) h2 hA,h3⟩
 ·obtain⟨a,ac,b,bc,rfl,h1,h2,h3⟩:=h;intro u hu;simp only[List.mem_cons,List.not_mem_nil,or_false]at hu;rcases hu with rfl|rfl|rfl|rfl|rfl|rfl<;>rfl
theorem ZbG{l:List Tm}{t:Tm}(h:t∈l):t.nodes<=Tm.nodesL l:=by
 induction l with
  |nil=>cases h
  |cons x r ih=>
   simp only[Tm.nodesL];rcases List.mem_cons.1 h with rfl|h;·omega
   ·have :=ih h;omega
theorem ZfJ (l : List Tm) (v : Int) (hnd : Tm.nodesL l ≤ 1099511627776) (hi : I64 v) (A : Nat → Prop) (w : World) (u : Value) (hu : ZdA A w l u) :
    Calls Tryd.prog 21 #[u, .int .i64 v] w (Pure w (ZcT (∀ g ∈ l, g.IsGoal ∧ g.Fits v))) := by
  obtain ⟨a, cap, b, off, rfl, hlc, hcm, hlb, ha, he⟩ := hu.at
  have HE := zh he
  have HA := zh ha
  have HI := zh hi
  have HND := zh hnd
  clear hu he ha hi hnd
  go_enter Tryd.func21, Tryd.ntmps21
  go_wp2_with fail
  go_loopw [9] (fun i W => ∃ j : Nat, j ≤ l.length ∧ i = .int .i64 (j : Int) ∧ Below w.heap.size w W ∧ ∀ q (hq : q < l.length), q < j → l[q].IsGoal ∧ l[q].Fits v) (fun i _ => l.length - (intOf i).toNat)
  case atStart => exact ⟨0, Nat.zero_le _, rfl, zB _ _, fun q _ h => absurd h (Nat.not_lt_zero _)⟩
  case round =>
    obtain ⟨j, hj, rfl, hb, hq⟩ := hrel
    have HB := zh hb
    have HQ := zh hq
    have hz := hb.size
    clear hb hq
    by_cases hlt : j < l.length
    · obtain ⟨rfl, hAb⟩ := HA.o (by omega)
      obtain ⟨sa, sc, c0, c1, c2, c3, hr⟩ := ZaW HE.o hAb (Keeps.ob HB.o) hlt
      have hlt' : (j : Int) < (l.length : Int) := by omega
      have HLT := zh hlt
      obtain ⟨t, ht⟩ : ∃ t, t = l[j]'hlt := ⟨_, rfl⟩
      have hmem : t ∈ l := by rw [ht]; exact List.getElem_mem _
      rw [← ht] at c0 c1 c2 c3 hr
      have hn := ZbG hmem
      have hnn := HND.o
      have HT := zh ht
      have HR := zh hr
      have HN := zh (show t.nodes ≤ 1099511627776 by omega)
      clear hr ht hmem hn hnn
      go_wp2_with fail
      refine (Zc8 t A _ _ (Tm.rep_lasts.1 _ _ _ _ _ HR.o (Keeps.alloc _ _ _))).mono ?_
      rintro e w1 ⟨r, rfl, hb, g, rfl, hg⟩
      have HX := zh (Zan (ZaC wr (.cells #[.int .i64 t.kind, .int .i64 t.n, .string t.s, .slice sa t.args.length sc] 27)) hb)
      have HB1 := zh ((HB.o.alloc (by omega) (.cells #[.int .i64 t.kind, .int .i64 t.n, .string t.s, .slice sa t.args.length sc] 27)).trans (hb.mono (by simp; omega)))
      have HR1 := zh (Tm.rep_lasts.1 _ _ _ _ _ (Tm.rep_lasts.1 _ _ _ _ _ HR.o (Keeps.alloc _ _ (.cells (#[.int .i64 t.kind, .int .i64 t.n, .string t.s, .slice sa t.args.length sc] : Array Value) 27))) (Keeps.ob hb))
      clear hb c0 c1 c2 c3
      obtain ⟨x0, x1, x2, x3, xf⟩ := Za8 HX.o
      cases g with
      | false =>
        have HNG := zh (show ¬ t.IsGoal from fun h => by have := hg.2 h; cases this)
        clear hg
        go_wp2_with fail
        go_ret
        exact ⟨_, rfl, HB1.o, _, rfl, ⟨(fun h => by cases h), fun h => absurd (h t (by rw [HT.o]; exact List.getElem_mem _)).1 HNG.o⟩⟩
      | true =>
        have HGD := zh (hg.1 rfl)
        clear hg
        go_wp2_with fail
        refine (ZeU t v HN.o HI.o A _ _ HR1.o).mono ?_
        rintro e w2 ⟨r, rfl, hb, g, rfl, hg⟩
        have HB2 := zh (HB1.o.trans (hb.mono HB1.o.size))
        clear hb x0 x1 x2 x3 xf
        cases g with
        | false =>
          have HNG := zh (show ¬ t.Fits v from fun h => by have := hg.2 h; cases this)
          clear hg
          go_wp2_with fail
          go_ret
          exact ⟨_, rfl, HB2.o, _, rfl, ⟨(fun h => by cases h), fun h => absurd (h t (by rw [HT.o]; exact List.getElem_mem _)).2 HNG.o⟩⟩
        | true =>
          have HFT := zh (hg.1 rfl)
          clear hg
          go_wp2_with fail
          go_roundw
          case rel =>
            refine ⟨j + 1, by omega, by go_num, HB2.o, fun q hq hqj => ?_⟩
            by_cases e : q = j
            · subst e; rw [← HT.o]; exact ⟨HGD.o, HFT.o⟩
            · exact HQ.o q hq (by omega)
          case measure => first | (simp [intOf]; done) | (simp [intOf]; omega)
    · have hlt' : ¬ (j : Int) < (l.length : Int) := by omega
      have HALL := zh (show ∀ g ∈ l, g.IsGoal ∧ g.Fits v from fun g hg => by
        obtain ⟨q, hq, rfl⟩ := List.mem_iff_getElem.1 hg
        exact HQ.o q hq (by omega))
      go_wp2_with fail
      go_ret
      exact ⟨_, rfl, HB.o, _, rfl, ⟨fun _ => HALL.o, fun _ => rfl⟩⟩
def Zem(l:List Tm)(v:Int):Prop:=0<=v/\v<=8/\l.length<=5/\∀g∈l,g.IsGoal/\g.Fits v
def Cl.Good(c:Cl):Prop:=Zem c.body c.vars/\c.head.IsGoal/\c.head.Fits c.vars/\¬c.head.Known
theorem ZgS{w:World}{g:Nat}{E:TypeId}{v0 v1 v2 v3 v4 v5:Value}(h:w.heap[g]?=some (.cells #[v0,v1,v2,v3,v4,v5] E (0,0))):w.cell? ⟨g,0,none⟩=some v0/\w.cell? ⟨g,1,none⟩=some v1/\w.cell? ⟨g,2,none⟩=some v2/\w.cell? ⟨g,3,none⟩=some v3/\w.cell? ⟨g,4,none⟩=some v4/\w.cell? ⟨g,5,none⟩=some v5/\∀o,w.frozen? ⟨g,o,none⟩=false:=⟨(Zaj h 0).trans rfl,(Zaj h 1).trans rfl,(Zaj h 2).trans rfl,(Zaj h 3).trans rfl,(Zaj h 4).trans rfl,(Zaj h 5).trans rfl,fun o=>by simp[World.frozen?,h]⟩
def Cl.nodes(c:Cl):Nat:=c.head.nodes+Tm.nodesL c.body
theorem ZcU (c : Cl) (hnd : c.nodes ≤ 1099511627776) (A : Nat → Prop) (w : World) (vs : List Value) (hc : Cl.rep A w c vs) :
    Calls Tryd.prog 28 #[.agg vs.toArray] w (Pure w (ZcT c.Good)) := by
  obtain ⟨h, l, v⟩ := c
  obtain ⟨a, ac, b, bc, rfl, hh, hb, hi⟩ := hc
  simp only [Cl.nodes] at hnd
  simp only at hh hb hi
  obtain ⟨_, _, -, -, e, -, -, hbl, -⟩ := hb.at
  have HH := zh hh
  have HBD := zh hb
  have HI := zh hi
  have HN1 := zh (show h.nodes ≤ 1099511627776 by omega)
  have HN2 := zh (show Tm.nodesL l ≤ 1099511627776 by omega)
  have i1 : v ≤ 9223372036854775807 := by unfold I64 at hi; omega
  have i2 : -9223372036854775808 ≤ v := by unfold I64 at hi; omega
  clear hh hb hi e hnd
  have HX := zh (ZaC w (.cells #[.int .i64 h.kind, .int .i64 h.n, .string h.s, .slice a h.args.length ac, .slice b l.length bc, .int .i64 v] 48))
  have HB := zh ((Below.refl _ w).alloc (zL _) (.cells #[.int .i64 h.kind, .int .i64 h.n, .string h.s, .slice a h.args.length ac, .slice b l.length bc, .int .i64 v] 48))
  have HK := zh (Keeps.alloc A w (.cells #[.int .i64 h.kind, .int .i64 h.n, .string h.s, .slice a h.args.length ac, .slice b l.length bc, .int .i64 v] 48))
  by_cases h1 : v < 0
  · go_enter Tryd.func28, Tryd.ntmps28
    go_wp2_with fail
    go_ret
    exact ⟨_, rfl, HB.o, _, rfl, ⟨(fun h => by first | (cases h; done) | (simp at h; omega)), fun h => absurd h.1.1 (by simp only; omega)⟩⟩
  by_cases h2 : 8 < v
  · go_enter Tryd.func28, Tryd.ntmps28
    go_wp2_with fail
    go_ret
    exact ⟨_, rfl, HB.o, _, rfl, ⟨(fun h => by first | (cases h; done) | (simp at h; omega)), fun h => absurd h.1.2.1 (by simp only; omega)⟩⟩
  by_cases h3 : 5 < l.length
  · have h3' : (5 : Int) < (l.length : Int) := by omega
    go_enter Tryd.func28, Tryd.ntmps28
    go_wp2_with fail
    go_ret
    exact ⟨_, rfl, HB.o, _, rfl, ⟨(fun h => by first | (cases h; done) | (simp at h; omega)), fun h => absurd h.1.2.2.1 (by simp only; omega)⟩⟩
  have h3' : ¬ (5 : Int) < (l.length : Int) := by omega
  go_enter Tryd.func28, Tryd.ntmps28
  go_wp2_with fail
  have HC1 := zh (Zc8 h A _ _ (Tm.rep_lasts.1 _ _ _ _ _ HH.o HK.o))
  generalize w.alloc (.cells #[.int .i64 h.kind, .int .i64 h.n, .string h.s, .slice a h.args.length ac, .slice b l.length bc, .int .i64 v] 48) = w0 at HX HB HK HC1 ⊢
  refine (HC1.o).mono ?_
  rintro e w1 ⟨r, rfl, hb1, g, rfl, hg⟩
  have HX1 := zh (Zan HX.o hb1)
  have HB1 := zh (HB.o.trans (hb1.mono HB.o.size))
  have HK1 := zh (HK.o.trans (Keeps.ob hb1))
  clear hb1 HC1
  obtain ⟨x0, x1, x2, x3, x4, x5, xf⟩ := ZgS HX1.o
  cases g with
  | false =>
    have HNG := zh (show ¬ h.IsGoal from fun k => by have := hg.2 k; cases this)
    clear hg
    go_wp2_with fail
    go_ret
    exact ⟨_, rfl, HB1.o, _, rfl, ⟨(fun h => by cases h), fun k => absurd k.2.1 HNG.o⟩⟩
  | true =>
    have HGD := zh (hg.1 rfl)
    clear hg
    go_wp2_with fail
    refine (ZeU h v HN1.o HI.o A _ _ (Tm.rep_lasts.1 _ _ _ _ _ HH.o HK1.o)).mono ?_
    rintro e w2 ⟨r, rfl, hb2, g, rfl, hg⟩
    clear x0 x1 x2 x3 x4 x5 xf
    have HX2 := zh (Zan HX1.o hb2)
    have HB2 := zh (HB1.o.trans (hb2.mono HB1.o.size))
    have HK2 := zh (HK1.o.trans (Keeps.ob hb2))
    clear hb2
    obtain ⟨x0, x1, x2, x3, x4, x5, xf⟩ := ZgS HX2.o
    cases g with
    | false =>
      have HNG := zh (show ¬ h.Fits v from fun k => by have := hg.2 k; cases this)
      clear hg
      go_wp2_with fail
      go_ret
      exact ⟨_, rfl, HB2.o, _, rfl, ⟨(fun h => by cases h), fun k => absurd k.2.2.1 HNG.o⟩⟩
    | true =>
      have HFT := zh (hg.1 rfl)
      clear hg
      go_wp2_with fail
      refine (ZfI h A _ _ (Tm.rep_lasts.1 _ _ _ _ _ HH.o HK2.o)).mono ?_
      rintro e w3 ⟨r, rfl, hb3, g, rfl, hg⟩
      clear x0 x1 x2 x3 x4 x5 xf
      have HX3 := zh (Zan HX2.o hb3)
      have HB3 := zh (HB2.o.trans (hb3.mono HB2.o.size))
      have HK3 := zh (HK2.o.trans (Keeps.ob hb3))
      clear hb3
      obtain ⟨x0, x1, x2, x3, x4, x5, xf⟩ := ZgS HX3.o
      cases g with
      | true =>
        have HKN := zh (hg.1 rfl)
        clear hg
        go_wp2_with fail
        go_ret
        exact ⟨_, rfl, HB3.o, _, rfl, ⟨(fun h => by cases h), fun k => absurd HKN.o k.2.2.2⟩⟩
      | false =>
        have HNK := zh (show ¬ h.Known from fun k => by have := hg.2 k; cases this)
        clear hg
        go_wp2_with fail
        refine (ZfJ l v HN2.o HI.o A _ _ (SlR.keeps Tm.rep_lasts HBD.o HK3.o)).mono ?_
        rintro e w4 ⟨r, rfl, hb4, g, rfl, hg⟩
        have HB4 := zh (HB3.o.trans (hb4.mono HB3.o.size))
        have HG := zh hg
        clear hb4 hg x0 x1 x2 x3 x4 x5 xf
        go_wp2_with fail
        go_ret
        exact ⟨_, rfl, HB4.o, _, rfl, by rw [HG.o]; exact ⟨fun k => ⟨⟨by simp only; omega, by simp only; omega, by simp only; omega, k⟩, HGD.o, HFT.o, HNK.o⟩, fun k => k.1.2.2.2⟩⟩
/-! programs -/
abbrev ZgK(A:Nat->Prop)(w:World)(l:List Cl)(v:Value):Prop:=SlR 6 Cl.rep A w l v
theorem ZgT{w:World}{b off:Nat}{v0 v1 v2 v3 v4 v5:Value}(h:RowAt w b off [v0,v1,v2,v3,v4,v5]):w.cell? ⟨b,off,none⟩=some v0/\w.cell? ⟨b,off+1,none⟩=some v1/\w.cell? ⟨b,off+2,none⟩=some v2/\w.cell? ⟨b,off+3,none⟩=some v3/\w.cell? ⟨b,off+4,none⟩=some v4/\w.cell? ⟨b,off+5,none⟩=some v5:=⟨h 0 _ rfl,h 1 _ rfl,h 2 _ rfl,h 3 _ rfl,h 4 _ rfl,h 5 _ rfl⟩
theorem Zcg{A:Nat->Prop}{w wr:World}{l:List Cl}{b off:Nat}(he:Elems A w 6 Cl.rep l b off)(hA:A b)(hk:Keeps A w wr){j:Nat}(hlt:j<l.length):∃a ac bd bc,wr.cell? ⟨b,off+j*6,none⟩=some (.int .i64 l[j].head.kind)/\wr.cell? ⟨b,off+j*6+1,none⟩=some (.int .i64 l[j].head.n)/\wr.cell? ⟨b,off+j*6+2,none⟩=some (.string l[j].head.s)/\wr.cell? ⟨b,off+j*6+3,none⟩=some (.slice a l[j].head.args.length ac)/\wr.cell? ⟨b,off+j*6+4,none⟩=some (.slice bd l[j].body.length bc)/\wr.cell? ⟨b,off+j*6+5,none⟩=some (.int .i64 l[j].vars)/\Cl.rep A wr l[j] [.int .i64 l[j].head.kind,.int .i64 l[j].head.n,.string l[j].head.s,.slice a l[j].head.args.length ac,.slice bd l[j].body.length bc,.int .i64 l[j].vars]:=by obtain⟨vs,hvl,hr,hrow⟩:=he j _ (List.getElem?_eq_getElem hlt);have hr':=Cl.rep_lasts.1 _ _ _ _ _ hr hk;obtain⟨a,ac,bd,bc,rfl, -⟩:=hr;obtain⟨d0,d1,d2,d3,d4,d5⟩:=ZgT (RowAt.keeps hA hrow hk);exact⟨a,ac,bd,bc,d0,d1,d2,d3,d4,d5,hr'⟩
def Zhb(l:List Cl):Prop:=l.length<=24/\∀c∈l,c.Good
end Go.Proofs.YtlpmfkpefoegeacDoor
