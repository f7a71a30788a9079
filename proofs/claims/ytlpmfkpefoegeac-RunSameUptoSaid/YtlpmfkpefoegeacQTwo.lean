import Derived.Test.YtlpmfkpefoegeacQMaker
import Derived.StillTailTactics
import Derived.Test.YtlpmfkpefoegeacQUbind
namespace Go.Proofs.Ytlpmfkpefoegeac
set_option maxRecDepth 100000
set_option maxHeartbeats 16000000
set_option linter.all false
open Go.RowKit
def ZaC(c:List Ce)(t:Tm):List Ce:=if t.kind=3 then Zc2 c t else Zce (c++[⟨0,0,ByteArray.empty⟩]) c.length t
theorem Zdl{c:List Ce}{k:Nat}{t:Tm}(h:t.kind≠3):(Zce c k t).length=c.length:=by
 obtain⟨kd,n,s,l⟩:=t;simp only[Tm.kind]at h;simp only[Zce,if_neg h];repeat' split
 all_goals simp
theorem Zff(t:Tm)(g base:Nat)(l:List Ce)(cv:Value)(A:Nat->Prop)(w:World)(vs:List Value)(hm:MkI g base l cv w)(hlen:l.length+1+2*t.nodes<=4194304)(hv:Tm.rep A w t vs)(hA:∀b,A b->b<w.heap.size/\¬MkM g cv b):Calls Try.prog 33 #[.pointer (some ⟨g,0,none⟩),.agg vs.toArray] w (fun e w'=>e= .returned (.int .i64 (l.length:Int))/\MStep g base cv w (ZaC l t) w'):=by
 have HV:=zh hv;have HM:=zh hm;have HA:=zh hA;obtain⟨sa,sc,rfl, -⟩:=Tm.rep4 hv;obtain⟨ca,cc,rfl,hcc,hccm⟩:=OwnF.val hm.own;obtain⟨b0,bf⟩:=ZjQ hm.box;have hgs:=Zag hm.box;have hbw:=hm.base_le;have hgb:=hm.lt;have hcs:=Zak;have HOWB:=zh (fun b(hb:Zai (.slice ca l.length cc)=some b)=>hm.own.lt b hb);have HLEN:=zh hlen;have hll:l.length+1<=4194304:=by omega
 clear hv hA hlen;by_cases h3:t.kind=3;·have HP:=zh (show ZaC l t=Zc2 l t by rw[ZaC,if_pos h3]);have HF:=zh (Zl4 t);clear hm;rw[h3]at HV ⊢;go_enter Try.func33,Try.ntmps33;go_wp2_with fail;refine(HF.o g base l (.slice ca l.length cc) A _ [_,_,_,_] (HM.o.below ((zB _ _).alloc (zL _) _)) (by have :=HLEN.o;omega) (Tm.rep_lasts.1 _ _ _ _ _ HV.o (Keeps.alloc _ _ _)) (fun b hb=>⟨by have :=(HA.o b hb).1;simp;omega,(HA.o b hb).2⟩)).mono ?_;rintro e w1⟨rfl,hst⟩;have HST:=zh (MStep.trans ((Ch.refl _ _).alloc _) (fun b hb=> .inl hb) hst);clear hst b0 bf;go_wp2_with fail;go_ret;exact⟨rfl,by rw[HP.o];exact HST.o⟩
 ·have HP:=zh (show ZaC l t=Zce (l++[⟨0,0,ByteArray.empty⟩]) l.length t by rw[ZaC,if_neg h3]);have h3':(t.kind==3)=false:=by simpa using h3
  have HFL:=zh (Zdl (c:=l++[⟨0,0,ByteArray.empty⟩]) (k:=l.length) h3);have HBX:=zh (Zaf (Zaf hm.box (.cells #[.int .i64 t.kind,.int .i64 t.n,.string t.s,.slice sa t.args.length sc] 43)) (.cells #[.int .i64 0,.int .i64 0,.string ByteArray.empty] 95));have HTX:=zh (Zao w (.cells #[.int .i64 t.kind,.int .i64 t.n,.string t.s,.slice sa t.args.length sc] 43));have HOR:=zh (OwnF.ownR Ce.vals_len (OwnF.below hm.own ((zB _ _).alloc (zL _) (.cells #[.int .i64 t.kind,.int .i64 t.n,.string t.s,.slice sa t.args.length sc] 43))) (fun _=>True));clear h3 hm;go_enter Try.func33,Try.ntmps33;go_wp2_with(at_builtin;go_must(refine Zau rfl (.tmp 15) (.tmp 17) 51 rfl base 95 3 32 Zdh Ce.rep_lasts (A:=fun _=>True) (.slice ca l.length cc) l rfl HOR.o (⟨0,0,ByteArray.empty⟩:Ce) [.int .i64 0,.int .i64 0,.string ByteArray.empty] (by simp only[World.size_alloc];rfl) rfl ⟨⟨by unfold I64;simp only;omega,by unfold I64;simp only;omega,by decide⟩,rfl⟩ ⟨by omega,by simp;omega⟩ ?_);go_must(intro v2 w2 hown hgrew;have HO2:=zh (OwnF.of_ownR hown);obtain⟨va2,vc2,hv2,hvl2,hvm2⟩:=OwnF.val HO2.o;rw[List.length_append,List.length_singleton]at hv2;subst hv2;have HB2:=zh (show w2.heap[g]?=_ from(hgrew.grown.block g (by simp;omega) (fun e=>by have :=(HOWB.o _ e.symm).1;omega)).trans HBX.o);obtain⟨y0,yf⟩:=ZjQ HB2.o;have hgs2:=Zag HB2.o;have HG2:=zh hgrew;have hz2:=hgrew.size;clear hown hgrew b0 bf));have hst:=Zfe HM.o hll (Ch.refl (MkM g (.slice ca l.length cc)) (w.alloc (.cells #[.int .i64 t.kind,.int .i64 t.n,.string t.s,.slice sa t.args.length sc] 43))) (by simp) HO2.o HB2.o HG2.o;clear y0 yf hgs2 hz2 HO2 HB2 HG2 HBX HOR;generalize w2.setCell ⟨g,0,none⟩ (.slice va2 (l.length+1) vc2)=W1 at hst ⊢;obtain⟨cv1,hm1,hc1,ho1⟩:=hst;obtain⟨c1a,c1c,rfl,hl1,hm1c⟩:=OwnF.val hm1.own;have hl1l:(l++[(⟨0,0,ByteArray.empty⟩:Ce)]).length=l.length+1:=by simp
  rw[hl1l]at hl1 hm1 ho1;obtain⟨y0,yf⟩:=ZjQ hm1.box;have hgs1:=Zag hm1.box;obtain⟨x0,x1,x2,x3,xf⟩:=Za0 ((hc1.block w.heap.size (by simp) (fun e=>by
   rcases e with e|e;·omega
   ·have :=(HOWB.o _ e).2;omega)).trans HTX.o);have hxs:w.heap.size<W1.heap.size:=by have :=hc1.size;simp at this;omega
  have HM1:=zh hm1;have HC1:=zh hc1;have HO1:=zh ho1;have HK1:=zh (show Keeps A w W1 from(Keeps.alloc A w _).trans (hc1.keeps (A:=A) (fun b _ hb=>(HA.o b hb).2)));clear hm1 hc1 ho1;go_still_tail 8,(by kernel_rfl);change wpList _ _ _ _ _ W1.drew;have HPT:=zh (Zmz t g base l.length (l++[(⟨0,0,ByteArray.empty⟩:Ce)]) (.slice c1a (l.length+1) c1c) A W1.drew [_,_,_,_] (HM1.o.below (zB _ _).drew) (by simp) (by have :=HLEN.o;simp;omega) (Tm.rep_lasts.1 _ _ _ _ _ (Tm.rep_lasts.1 _ _ _ _ _ HV.o HK1.o) (Keeps.drew _ _)) (fun b hb=>⟨by have :=(HA.o b hb).1;simp;omega,fun e=>by
   rcases e with e|e;·exact(HA.o b hb).2 (.inl e)
   ·rcases HO1.o b e with e|e;·exact(HA.o b hb).2 (.inr e)
    ·have :=(HA.o b hb).1;simp at e;omega⟩));have HC2:=zh (show Ch (MkM g (.slice ca l.length cc)) _ W1.drew from HC1.o.drew);generalize W1.drew=w4 at HPT HC2 ⊢;clear y0 yf x0 x1 x2 x3 xf;go_wp2_with fail;refine(HPT.o).mono ?_;rintro e w3⟨⟨v3,rfl⟩,hst3⟩;obtain⟨cv2,hm2,hc2,ho2⟩:=MStep.trans HC2.o HO1.o hst3;obtain⟨c2a,c2c,rfl,hl2,hm2c⟩:=OwnF.val hm2.own;have hf:=HFL.o;rw[hl1l]at hf;rw[hf]at hl2 hm2 ho2;have HS2:=zh (MStep.trans ((Ch.refl _ _).alloc _) (fun b hb=> .inl hb) ⟨_,hm2,hc2,ho2⟩);obtain⟨y0,yf⟩:=ZjQ hm2.box;have hgs2:=Zag hm2.box;clear hst3 hm2 hc2 ho2 hf;go_wp2_with fail;go_ret;exact⟨by simp,by rw[HP.o];exact HS2.o⟩
def ZaM(n:Nat):List Ce:=(List.range n).map fun(i:Nat)=>(⟨0,(i:Int),ByteArray.empty⟩:Ce)
theorem ZaL(n:Nat):(ZaM n).length=n:=by simp[ZaM]
theorem ZkN(n:Nat):ZaM (n+1)=ZaM n++[⟨0,(n:Int),ByteArray.empty⟩]:=by simp[ZaM,List.range_succ]
theorem Zi4 (n : Nat) (hn : n ≤ 65536) (w : World) :
    Calls Try.prog 32 #[.int .i64 (n : Int)] w (fun e w' => ∃ cv, e = .returned (.pointer (some ⟨w.heap.size, 0, none⟩)) ∧ Below w.heap.size w w' ∧ MkI w.heap.size (w.heap.size + 1) (ZaM n) cv w') := by
  have hcs := Zak
  go_enter Try.func32, Try.ntmps32
  go_wp2_with fail
  have HX := zh (Zao w (.cells #[.slice none 0 0] 91))
  have HB := zh ((Below.refl _ w).alloc (zL _) (.cells #[.slice none 0 0] 91))
  obtain ⟨g, hg⟩ : ∃ g, g = w.heap.size := ⟨_, rfl⟩
  have HG := zh hg
  have hz0 : g < (w.alloc (.cells #[.slice none 0 0] 91)).heap.size := by rw [hg]; simp
  rw [← hg] at HX
  rw [← hg]
  clear hg
  go_loopw [8] (fun i W => ∃ (j : Nat) (cv : Value), j ≤ n ∧ i = .int .i64 (j : Int) ∧ Below w.heap.size w W ∧ MkI g (g + 1) (ZaM j) cv W) (fun i _ => n - (intOf i).toNat)
  case atStart => exact ⟨0, _, Nat.zero_le _, rfl, HB.o, HX.o, OwnF.nil, by omega, by simp [ZaM], by omega⟩
  case round =>
    obtain ⟨j, cv, hj, rfl, hb, hm⟩ := hrel
    have HBL := zh hb
    have HM := zh hm
    obtain ⟨ca, cc, rfl, hl1, hmc⟩ := OwnF.val hm.own
    rw [ZaL] at hl1 hm HM
    obtain ⟨y0, yf⟩ := ZjQ hm.box
    have hgs := Zag hm.box
    have hbw := hm.base_le
    have HOWB := zh (fun b (hb : Zai (.slice ca j cc) = some b) => hm.own.lt b hb)
    have HOR := zh (OwnF.ownR Ce.vals_len hm.own (fun _ => True))
    have HBX := zh (Zaf hm.box (.cells #[.int .i64 0, .int .i64 (j : Int), .string ByteArray.empty] 95))
    clear hb hm
    by_cases hlt : j < n
    · have hlt' : (j : Int) < (n : Int) := by omega
      have hl2 : (ZaM j).length < 4194304 := by rw [ZaL]; omega
      go_wp2_with (at_builtin; go_must (refine Zau rfl (.tmp 15) (.tmp 18) 51 rfl (g + 1) 95 3 32 Zdh Ce.rep_lasts (A := fun _ => True) (.slice ca j cc) (ZaM j) rfl HOR.o (⟨0, (j : Int), ByteArray.empty⟩ : Ce) [.int .i64 0, .int .i64 (j : Int), .string ByteArray.empty] rfl rfl ⟨⟨by unfold I64; simp only; omega, by unfold I64; simp only; omega, (show ByteArray.empty.size ≤ 1048576 by decide)⟩, rfl⟩ ⟨hl2, hbw⟩ ?_); go_must (intro v2 w2 hown hgrew; have HO2 := zh (OwnF.of_ownR hown); obtain ⟨va2, vc2, hv2, hvl2, hvm2⟩ := OwnF.val HO2.o; rw [List.length_append, List.length_singleton, ZaL] at hv2; subst hv2; have HB2 := zh (show w2.heap[g]? = _ from (hgrew.grown.block g (by simp; omega) (fun e => by have := (HOWB.o _ e.symm).1; omega)).trans HBX.o); obtain ⟨z0, zf⟩ := ZjQ HB2.o; have hgs2 := Zag HB2.o; have HG2 := zh hgrew; have hz2 := hgrew.size; clear hown hgrew y0 yf))
      go_roundw
      case rel =>
        obtain ⟨cv', h1, h2, h3⟩ := Zfe HM.o (by rw [ZaL]; omega) (Ch.refl _ _) (zL _) HO2.o HB2.o HG2.o
        refine ⟨j + 1, cv', by omega, by go_num, ?_, by rw [ZkN]; exact h1⟩
        refine ((Ch.of_below (M := fun _ => False) HBL.o).trans h2 (fun b hb => .inr ?_)).below (fun _ _ h => h)
        have hgw := HG.o
        rcases hb with rfl | hb
        · omega
        · have := (HOWB.o b hb).1; omega
      case measure => first | (simp [intOf]; done) | (simp [intOf]; omega)
    · have hje : j = n := by omega
      subst hje
      have hlt' : ¬ ((j : Int) < (j : Int)) := by omega
      clear hlt
      go_wp2_with fail
      go_ret
      have hm := HM.o
      rw [HG.o] at hm
      exact ⟨by rw [← HG.o]; rfl, HBL.o, _, hm⟩
def Out(B:Nat)(av bv:Value)(b:Nat):Prop:=B<=b/\Zai av≠some b/\Zai bv≠some b
structure Two (B : Nat) (w : World) (la lb : List Tm) (av bv : Value) : Prop where
  a : OwnR w B 43 4 Tm.rep (fun b => B ≤ b ∧ Zai bv ≠ some b) la av
  b : OwnR w B 43 4 Tm.rep (fun b => B ≤ b ∧ Zai av ≠ some b) lb bv
  sep : ∀ k, Zai av = some k → Zai bv ≠ some k
theorem Grew.new{w w':World}{v v':Value}(h:Grew w w' v v'){b:Nat}(hb:b<w.heap.size)(hn:Zai v≠some b):Zai v'≠some b:=fun e=>by
 rcases h.block with h1|h1;·exact hn (h1▸e)
 ·have :=h1 b e;omega
section
variable {P : Program} {ops : Array Oper} {Q : Exit → Act → World → Prop}
theorem ZcG{w:World}{o:Oper}{a:Act}{K:Act->World->Prop}(s x:Operand)(t:TypeId)(ho:o.op= .call {callee:= .builtin .append,args:=#[s,x],argTypes:=#[t,t]})(base:Nat)(e:TypeId)(size bytes:Nat)(hty:ElemTy P t e size bytes){α:Type}{R:(Nat->Prop)->World->α->List Value->Prop}(hR:Lasts R){A:Nat->Prop}(v:Value)(xs:List α)(hs:a.eval s=v)(hown:OwnR w base e size R A xs v)(xv:Value)(hxv:a.eval x=xv)(ys:List α)(hx:SlR size R (fun b=>A b/\Zai v≠some b) w ys xv)(hlen:xs.length+ys.length<=4194304)(hbase:base<=w.heap.size)(h:∀v' w',OwnR w' base e size R A (xs++ys) v'->Grew w w' v v'->K (a.put o.dst v') w'):o.wp P a w K Q:=by obtain⟨v',w',hr,k1,k2⟩:=ZiN (P:=P) w base t o.type e size bytes hty hR v xs hown xv ys hx hlen hbase;unfold Oper.wp execOp;simp only[ho,resolve,invoke,builtin,Sem.run_bind,Sem.run_pure,Result.andThen_ok,List.map_toArray,List.map_cons,List.map_nil,hs,hxv,hr];exact h v' w' k1 k2
theorem Zcl{F:Nat->World->Prop}{i j:Nat}{fuel:Nat}{listed:Array Bool}{a:Act}{w:World}(hr:Region.ready .any ops listed=[i,j])(h1:wpOp P ops Q i (fun a' w'=>Zlj ops F i w w'/\ZbV P ops Q F fuel (listed.setIfInBounds i true) a' w') a w)(h2:wpOp P ops Q j (fun a' w'=>Zlj ops F j w w'/\ZbV P ops Q F fuel (listed.setIfInBounds j true) a' w') a w):ZbV P ops Q F (fuel+1) listed a w:=⟨fun h0=>(by rw[hr]at h0;cases h0),fun k hk=>(by
 rw[hr]at hk;simp only[List.mem_cons,List.not_mem_nil,or_false]at hk;rcases hk with rfl|rfl;·exact h1
 ·exact h2)⟩
end
end Go.Proofs.Ytlpmfkpefoegeac
