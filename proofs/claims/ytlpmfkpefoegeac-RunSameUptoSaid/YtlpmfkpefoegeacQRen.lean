import Derived.Test.YtlpmfkpefoegeacQCopy
import Derived.Deep.RegionHeld
namespace Go.Proofs.Ytlpmfkpefoegeac
set_option maxRecDepth 100000
set_option maxHeartbeats 16000000
set_option linter.all false
open Go.RowKit
section
variable {P : Program} {ops : Array Oper} {Q : Exit → Act → World → Prop} {F : Nat → World → Prop}
def waits(ops:Array Oper)(i k:Nat):Bool:=((ops[i]?).map fun o=>o.after.any fun e=>Region.binds .any e&&e.on==k).getD false
def YieldsF(P:Program)(ops:Array Oper)(F:Nat->World->Prop)(i:Nat)(o:Oper)(v:Value)(a:Act):Prop:=(Region.wanted o (yielded ops a.tmps)=true/\∀w,F i w->(execOp a.eval o).run P w= .ok (.value v) w)\/(Region.wanted o (yielded ops a.tmps)=false/\v=undef)
theorem YieldsF.wpOp{i:Nat}{o:Oper}{v:Value}{a:Act}(hi:ops[i]?=some o)(hy:YieldsF P ops F i o v a){K:Act->World->Prop}{w:World}(hS:F i w)(h:K (a.put o.dst v) w):wpOp P ops Q i K a w:=by
 unfold Go.wpOp;simp only[hi];rcases hy with⟨hw,hv⟩|⟨hw,rfl⟩;·simp only[hw,if_true,Oper.wp,hv w hS,Oper.upon];exact .inl h
 ·simp only[hw,Bool.false_eq_true,if_false];exact h
theorem YieldsF.of_same{i:Nat}{o:Oper}{v:Value}{a a':Act}(hy:YieldsF P ops F i o v a)(he:execOp a'.eval o=execOp a.eval o)(hw:Region.wanted o (yielded ops a'.tmps)=Region.wanted o (yielded ops a.tmps)):YieldsF P ops F i o v a':=by unfold YieldsF at*;rw[he,hw];exact hy
theorem Zj8{i j:Nat}{oi oj:Oper}{v:Value}(hj:ops[j]?=some oj)(hap:oi.apart ops oj=true)(hsi:∀cs b,oi.op≠ .select cs b)(hsj:∀cs b,oj.op≠ .select cs b)(hQ:∀c a w,Q (.panic c) (a.put oi.dst v) w->Q (.panic c) a w){K:Act->World->Prop}{a:Act}{w:World}(hy:YieldsF P ops F i oi v a)(h:wpOp P ops Q j K (a.put oi.dst v) w):wpOp P ops Q j (fun a' w'=>YieldsF P ops F i oi v a'/\K (a'.put oi.dst v) w') a w:=by
 obtain⟨h1,h2,h3⟩:=Oper.apart_spec hap;have keep:∀(a:Act),YieldsF P ops F i oi v a->∀u,YieldsF P ops F i oi v (a.put oj.dst u):=fun a hy u=>hy.of_same (execOp_put oi hsi a oj.dst u h3) (wanted_put oi a oj.dst u h3);have keepD:∀d,YieldsF P ops F i oi v {a with defers:=d::a.defers}:=fun d=>hy.of_same rfl rfl;unfold wpOp at*;simp only[hj]at*;rw[wanted_put oj a oi.dst v h1]at h;split
 ·rename_i hw;simp only[hw,if_true]at h;rcases h with h|⟨hasks,hlets⟩;case inr=>exact .inr ⟨by unfold Oper.asks at*;rw[execOp_put oj hsj a oi.dst v h1]at hasks;exact hasks,hlets⟩
  refine .inl ?_;unfold Oper.wp at*;rw[execOp_put oj hsj a oi.dst v h1]at h;generalize(execOp a.eval oj).run P w=r at*;cases r with
   |ok n w'=>
    cases n<;>simp only[Oper.upon]at h ⊢;case value u=>exact⟨keep a hy u,by rw[<-Act.put_comm a v u h2];exact h⟩
    case skip=>exact⟨keep a hy _,by rw[<-Act.put_comm a v undef h2];exact h⟩
    case defer d=>refine⟨keep _ (keepD d) _,?_⟩;rw[<-Act.put_comm _ v undef h2,<-Act.put_defers];exact h
    case enter f args=>refine Calls.mono h fun e w'' he=>?_;cases e with|returned u=>exact⟨keep a hy u,by rw[<-Act.put_comm a v u h2];exact he⟩|panicked c=>exact hQ _ _ _ he|outgrown=>exact he
    case row row args=>exact Rows.mono h fun u w'' he=>⟨keep a hy u,by rw[<-Act.put_comm a v u h2];exact he⟩
   |halt x w'=>cases x<;>simp only[Oper.upon]at h ⊢;case panic u=>exact hQ _ _ _ h
 ·rename_i hw;simp only[hw]at h;exact⟨keep a hy _,by rw[<-Act.put_comm a v undef h2];exact h⟩
def Zlj(ops:Array Oper)(F:Nat->World->Prop)(i:Nat)(w w':World):Prop:=∀k,waits ops i k=false->F k w->F k w'
def ZbV(P:Program)(ops:Array Oper)(Q:Exit->Act->World->Prop)(F:Nat->World->Prop):Nat->Array Bool->Act->World->Prop|0,listed,a,w=>Region.ready .any ops listed=[]/\Q .normal a w|fuel+1,listed,a,w=>(Region.ready .any ops listed=[]->Q .normal a w)/\∀i∈Region.ready .any ops listed,wpOp P ops Q i (fun a' w'=>Zlj ops F i w w'/\ZbV P ops Q F fuel (listed.setIfInBounds i true) a' w') a w
theorem Zey:∀(fuel:Nat)(listed:Array Bool)(a:Act)(w:World),ZbV P ops Q F fuel listed a w->wpAny P .any ops Q fuel listed a w|0,_,_,_,h=>h|fuel+1,_,_,_,h=>⟨h.1,fun i hi=>wpOp_mono (fun a' w' h'=>Zey fuel _ a' w' h'.2) (h.2 i hi)⟩
theorem ZgZ{i:Nat}{oi:Oper}{v:Value}(hi:ops[i]?=some oi)(hsel:∀(j:Nat)(o:Oper)cs b,ops[j]?=some o->o.op≠ .select cs b)(hQ:∀c a w,Q (.panic c) (a.put oi.dst v) w->Q (.panic c) a w):∀(fuel:Nat)(listed:Array Bool)(a:Act)(w:World),(∀j oj,ops[j]?=some oj->j≠i->listed.getD j true=false->(∀e∈oj.after,Region.binds .any e=true->e.on≠i)->oi.apart ops oj=true)->i∈Region.ready .any ops listed->YieldsF P ops F i oi v a->F i w->ZbV P ops Q F fuel (listed.setIfInBounds i true) (a.put oi.dst v) w->ZbV P ops Q F (fuel+1) listed a w:=by
 intro fuel;induction fuel with
  |zero=>
   intro listed a w _ hr hy hS H;refine⟨fun h=>(by rw[h]at hr;cases hr),fun j hj=>?_⟩;by_cases hji:j=i;·subst hji;exact hy.wpOp hi hS ⟨fun _ _ h=>h,H⟩
   ·have :=ready_mono hj hji;rw[H.1]at this;cases this
  |succ fuel ih=>
   intro listed a w hfree hr hy hS H;refine⟨fun h=>(by rw[h]at hr;cases hr),fun j hj=>?_⟩;by_cases hji:j=i;·subst hji;exact hy.wpOp hi hS ⟨fun _ _ h=>h,H⟩
   ·have h1:=H.2 j (ready_mono hj hji);obtain⟨hjun,oj,hoj,hall⟩:=mem_ready.1 hj;have hnot:∀e∈oj.after,Region.binds .any e=true->e.on≠i:=fun e he hb heq=>by
     have h1:=hall e he hb;have h0:=(mem_ready.1 hr).1;rw[heq]at h1;rcases Nat.lt_or_ge i listed.size with h'|h';·simp[h']at h0 h1;rw[h0]at h1;cases h1
     ·simp[Array.getElem?_eq_none h']at h1
    have hwt:waits ops j i=false:=by simp only[waits,hoj,Option.map_some,Option.getD_some];rw[Bool.eq_false_iff];intro hw;obtain⟨e,he,hb⟩:=Array.any_eq_true'.1 hw;simp only[Bool.and_eq_true,beq_iff_eq]at hb;exact hnot e he hb.1 hb.2
    have h2:=Zj8 hoj (hfree j oj hoj hji hjun hnot) (fun cs b=>hsel i oi cs b hi) (fun cs b=>hsel j oj cs b hoj) hQ hy h1;have hfree':∀k ok,ops[k]?=some ok->k≠i->(listed.setIfInBounds j true).getD k true=false->(∀e∈ok.after,Region.binds .any e=true->e.on≠i)->oi.apart ops ok=true:=fun k ok hk hki hun hno=>by
     refine hfree k ok hk hki ?_ hno;by_cases hjk:j=k;·subst hjk;exact hjun
     ·rw[getD_set_ne true hjk]at hun;exact hun
    refine wpOp_mono (fun a' w' h3=>⟨h3.2.1,?_⟩) h2;refine ih (listed.setIfInBounds j true) a' w' hfree' (ready_mono hr (Ne.symm hji)) h3.1 (h3.2.1 i hwt hS) ?_;rw[Array.setIfInBounds_comm _ _ hji];exact h3.2.2
theorem ZdS{i:Nat}{oi:Oper}{v:Value}{fuel:Nat}{listed:Array Bool}{a:Act}{w:World}(hi':ops.toList[i]?=some oi)(hs:Region.noSelect ops=true)(hf:Region.free .any ops listed i=true)(hr:(Region.ready .any ops listed).contains i=true)(hQ:∀c a w,Q (.panic c) (a.put oi.dst v) w->Q (.panic c) a w)(hy:YieldsF P ops F i oi v a)(hS:F i w)(h:ZbV P ops Q F fuel (listed.setIfInBounds i true) (a.put oi.dst v) w):ZbV P ops Q F (fuel+1) listed a w:=have hi:ops[i]?=some oi:=by rw[<-Array.getElem?_toList];exact hi'
 ZgZ hi (Region.noSelect_spec hs) hQ fuel listed a w (Region.free_spec hi hf) (by simpa using hr) hy hS h
theorem Zab{i:Nat}{fuel:Nat}{listed:Array Bool}{a:Act}{w:World}(hr:Region.ready .any ops listed=[i])(h:wpOp P ops Q i (fun a' w'=>Zlj ops F i w w'/\ZbV P ops Q F fuel (listed.setIfInBounds i true) a' w') a w):ZbV P ops Q F (fuel+1) listed a w:=⟨fun h0=>(by rw[hr]at h0;cases h0),fun j hj=>(by rw[hr]at hj;simp only[List.mem_singleton]at hj;subst hj;exact h)⟩
theorem Zan{listed:Array Bool}{a:Act}{w:World}(hr:Region.ready .any ops listed=[])(h:Q .normal a w):∀fuel,ZbV P ops Q F fuel listed a w|0=>⟨hr,h⟩|_+1=>⟨fun _=>h,by rw[hr];simp⟩
theorem Zad{i:Nat}{o:Oper}{K:Act->World->Prop}{a:Act}{w:World}(hi':ops.toList[i]?=some o)(hg:Region.wanted o (yielded ops a.tmps)=true)(h:o.wp P a w K Q):wpOp P ops Q i K a w:=by
 have hi:ops[i]?=some o:=by rw[<-Array.getElem?_toList];exact hi'
 unfold Go.wpOp;simp only[hi,hg,if_true];exact .inl h
theorem Zav{id:Nat}{a:Act}{w:World}(hm:P.follows .mixedOrders=true)(h:ZbV P ops Q F ops.size (Array.replicate ops.size false) a w.drew):(Code.region id ops true).wp P Q a w:=wp_region_any hm (Zey _ _ _ _ h)
end
theorem ZaE{P:Program}{ops:Array Oper}{Q:Exit->Act->World->Prop}{F:Nat->World->Prop}{i:Nat}{oi:Oper}{v:Value}{fuel:Nat}{listed:Array Bool}{a:Act}{w:World}(hi':ops.toList[i]?=some oi)(hy:YieldsF P ops F i oi v a)(hS:F i w)(h:ZbV P ops Q F fuel (listed.setIfInBounds i true) (a.put oi.dst v) w)(hs:Region.noSelect ops=true:=by kernel_rfl)(hf:Region.free .any ops listed i=true:=by kernel_rfl)(hr:(Region.ready .any ops listed).contains i=true:=by kernel_rfl)(hQ:∀c a w,Q (.panic c) (a.put oi.dst v) w->Q (.panic c) a w:=by exact fun _ _ _ h=>h):ZbV P ops Q F (fuel+1) listed a w:=ZdS hi' hs hf hr hQ hy hS h
theorem zP:(∀(a:Act)(i:Nat)(v:Value),a.put (some i) v={a with tmps:=a.tmps.setIfInBounds i v})/\(∀(l:List Value)(i:Nat)(v:Value),l.toArray.setIfInBounds i v=(l.set i v).toArray)/\(∀(x v:Value)(l:List Value),(x::l).set 0 v=v::l)/\(∀(x v:Value)(l:List Value)(n:Nat),(x::l).set (n+1) v=x::l.set n v):=⟨fun _ _ _=>rfl,fun l i v=>List.setIfInBounds_toArray l i v,fun _ _ _=>rfl,fun _ _ _ _=>rfl⟩
theorem zT{P:Program}{ops:Array Oper}{Q:Exit->Act->World->Prop}{F:Nat->World->Prop}(i:Nat){oi:Oper}{v:Value}{fuel:Nat}{listed:Array Bool}{a:Act}{w:World}(hS:F i w)(h:ZbV P ops Q F fuel (listed.setIfInBounds i true) (a.put oi.dst v) w)(hi':ops.toList[i]?=some oi:=by rfl)(hs:Region.noSelect ops=true:=by kernel_rfl)(hf:Region.free .any ops listed i=true:=by kernel_rfl)(hr:(Region.ready .any ops listed).contains i=true:=by kernel_rfl)(hQ:∀c a w,Q (.panic c) (a.put oi.dst v) w->Q (.panic c) a w:=by exact fun _ _ _ h=>h)(hg:Region.wanted oi (yielded ops a.tmps)=true:=by rfl)(hrun:∀w,F i w->(execOp a.eval oi).run P w= .ok (.value v) w:=by(intro w' hw;clear hw;go_simp<;>with_reducible rfl)):ZbV P ops Q F (fuel+1) listed a w:=ZdS hi' hs hf hr hQ (Or.inl ⟨hg,hrun⟩) hS h
namespace Tm
mutual
/-- each variable's number as a function says -/
def ren (f : Int → Int) : Tm → Tm
  | mk k n s l => mk k (if k = 0 then f n else n) s (renL f l)
def renL (f : Int → Int) : List Tm → List Tm
  | [] => []
  | t :: r => ren f t :: renL f r
end
theorem renL_map(f:Int->Int)(l:List Tm):renL f l=l.map (ren f):=by induction l with|nil=>rfl|cons t r ih=>simp[renL,ih]
end Tm
def low(n:Int):Int:=n%1099511627776
theorem Zmw(n:Int):0<=low n/\low n<1099511627776:=by unfold low;omega
theorem Zj9(n:Int)(h:I64 n):bits .and .i64 n 1099511627775=low n:=by
 have hx:((BitVec.ofInt 64 n)&&& (BitVec.ofInt 64 1099511627775)).toNat=(BitVec.ofInt 64 n).toNat%1099511627776:=by rw[BitVec.toNat_and];exact Nat.and_two_pow_sub_one_eq_mod _ 40
 show IntKind.i64.wrap (((BitVec.ofInt 64 n)&&& (BitVec.ofInt 64 1099511627775)).toNat:Int)=low n;rw[hx,BitVec.toNat_ofInt,IntKind.wrap_i64];unfold low I64 at*;omega
def ZhR(t:Tm):Prop:=∀(d:Int)(A:Nat->Prop)(w:World)(vs:List Value),I64 d->Tm.rep A w t vs->Calls Try.prog 54 #[.agg vs.toArray,.int .i64 d] w (Pure w fun v w'=>∃us,v= .agg us.toArray/\Tm.rep (New w) w' (t.ren fun n=>low n+low d) us)
def Zng(k n d:Int):Int:=if k=0 then low n+low d else n
theorem Zlk(k n:Int)(s:ByteArray)(l:List Tm)(ih:∀t∈l,ZhR t):ZhR (.mk k n s l):=by
 intro d A w vs hd hv;rw[Tm.rep_iff]at hv;obtain⟨hk,hn,hs,v,rfl,hl⟩:=hv;obtain⟨a,cap,b,off,rfl,hlc,hcm,hlb,ha,he⟩:=hl.at;have HE:=zh he;have HA:=zh ha;have IH:=zh ih;have e1:=Zj9 n hn;have e2:=Zj9 d hd;have b1:=Zmw n;have b2:=Zmw d;clear he ha hl ih;obtain⟨m,hm⟩:∃m,m=Zng k n d:=⟨_,rfl⟩;by_cases e:k=0;all_goals
  try have e':(k==0)=false:=by simpa using e
  try have e':(k==0)=true:=by simpa using e
  have HM:Hd (m=Zng k n d):=hm;have HE':=zh e;clear hm e;go_enter Try.func54,Try.ntmps54;go_wp2_with fail;go_loopw[23](fun i wr=>∃(j:Nat)(v:Value),j<=l.length/\i= .int .i64 j/\w.heap.size+3<=wr.heap.size/\Below w.heap.size w wr/\wr.heap[w.heap.size+1]?=some (.cells #[.int .i64 0,.int .i64 0,.string ByteArray.empty,.slice none 0 0] 43 (0,0))/\wr.heap[w.heap.size+1+1]?=some (.cells #[.int .i64 k,.int .i64 m,.string s,v] 43 (0,0))/\OwnR wr (w.heap.size+3) 43 4 Tm.rep (fun b=>w.heap.size+3<=b) ((l.take j).map (Tm.ren fun n=>low n+low d)) v)(fun i _=>l.length - (intOf i).toNat);case atStart=>refine⟨0,.slice none 0 0,Nat.zero_le _,rfl,by simp,Zas (Zas (Zas (zB _ _))),(Zj7 _ _ _ _).2.1,?_,by simpa using OwnR.nil ..⟩;rw[(Zj7 _ _ _ _).2.2,HM.o,Zng];simp[HE'.o]
  case round=>
   obtain⟨j,v,hj,rfl,hz,hb,hB1,hB2,hown⟩:=hrel;have HB:=zh hb;have HB1:=zh hB1;have HB2:=zh hB2;obtain⟨va,vc,rfl,hvc⟩:=hown.val;have hvl:((l.take j).map (Tm.ren fun n=>low n+low d)).length=j:=by simp;omega
   rw[hvl]at hown HB2;have HO:=zh hown;obtain⟨g0,g1,g2,g3,gf⟩:=Za0 HB2.o;clear hb hB1 hB2 hown hvl;by_cases hlt:j<l.length
   ·obtain⟨rfl,hAb⟩:=HA.o (by omega);obtain⟨sa,sc,c0,c1,c2,c3,hr⟩:=ZaG HE.o hAb (Keeps.ob HB.o) hlt;have HR:=zh hr;have lb:b<wr.heap.size:=World.block_lt_of_cell? wr _ c0;clear hr;go_wp2_with fail;generalize hW:wr.alloc (.cells #[.int .i64 l[j].kind,.int .i64 l[j].n,.string l[j].s,.slice sa l[j].args.length sc] 43)=W0;have hW1:W0.drew.cell? ⟨w.heap.size+1+1,3,none⟩=some (.slice va j vc):=by subst hW;exact(Keeps.alloc (fun _=>True) _ _).cell trivial g3
    obtain⟨hx0,hx1,hx2,hx3, -⟩:=Za0 (show W0.drew.heap[wr.heap.size]?=_ by subst hW;exact Zao _ _);refine Zav (F:=fun k w'=>(k=1\/k=2)->w'.cell? ⟨w.heap.size+1+1,3,none⟩=some (.slice va j vc)/\w'.cell? ⟨wr.heap.size,0,none⟩=some (.int .i64 l[j].kind)/\w'.cell? ⟨wr.heap.size,1,none⟩=some (.int .i64 l[j].n)/\w'.cell? ⟨wr.heap.size,2,none⟩=some (.string l[j].s)/\w'.cell? ⟨wr.heap.size,3,none⟩=some (.slice sa l[j].args.length sc)) (by kernel_rfl) ?_;refine ZaE (i:=0) (v:=?_) rfl (Or.inl ⟨by rfl,?_⟩) (fun _=>⟨hW1,hx0,hx1,hx2,hx3⟩) ?_;rotate_left;·(intro w' hw;clear hw;go_simp<;>with_reducible rfl)
    simp only[zP];refine ZaE (i:=1) (v:=?_) rfl (Or.inl ⟨by rfl,?_⟩) (fun _=>⟨hW1,hx0,hx1,hx2,hx3⟩) ?_;rotate_left;·(intro w' hw;obtain⟨q0,q1,q2,q3,q4⟩:=hw (by omega);go_simp<;>with_reducible rfl)
    simp only[zP];refine ZaE (i:=2) (v:=?_) rfl (Or.inl ⟨by rfl,?_⟩) (fun _=>⟨hW1,hx0,hx1,hx2,hx3⟩) ?_;rotate_left;·(intro w' hw;obtain⟨q0,q1,q2,q3,q4⟩:=hw (by omega);go_simp<;>with_reducible rfl)
    simp only[zP];refine ZaE (i:=3) (v:=?_) rfl (Or.inl ⟨by rfl,?_⟩) (fun _=>⟨hW1,hx0,hx1,hx2,hx3⟩) ?_;rotate_left;·(intro w' hw;clear hw;go_simp<;>with_reducible rfl)
    simp only[zP];refine Zab (i:=4) (by kernel_rfl) (Zad rfl (by rfl) ?_);go_simp;have hrd:Tm.rep A W0.drew l[j] _:=Tm.rep_lasts.1 _ _ _ _ _ HR.o (by subst hW;exact(Keeps.alloc _ _ _).trans (Keeps.drew _ _));refine(IH.out _ (List.getElem_mem hlt) d A _ _ hd hrd).mono ?_;rintro e w1⟨v',rfl,hb1,us,rfl,hr⟩;obtain⟨sa',sc',rfl, -⟩:=Tm.rep4 hr;have hsz:=hb1.size;have hsW:W0.heap.size=wr.heap.size+1:=by subst hW;simp
    simp only[World.size_drew]at hsz;have hHO:OwnR W0.drew _ _ _ _ _ _ _:=(by subst hW;exact(HO.o.alloc Tm.rep_lasts _).keeps Tm.rep_lasts (Keeps.drew (fun _=>True) _) (fun _ _=>trivial) (fun _ _=>trivial));have HO1:=zh (hHO.below Tm.rep_lasts hb1);have HN:=zh (Zdx Tm.rep_lasts hHO (zL _) (A:=fun b=>w.heap.size+3<=b) (fun b hb=>by simp only[World.size_drew]at hb;omega) hr);have HL:=zh (show((l.take j).map (Tm.ren fun n=>low n+low d)).length<4194304/\w.heap.size+3<=w1.heap.size by simp;omega);have HBB:Hd (Below w.heap.size w w1):=zh ((show Below w.heap.size w W0.drew by subst hW;exact(HB.o.alloc (by omega) _).drew).trans (hb1.mono (by simp only[World.size_drew];omega)));have HQ:=zh (show w1.cell? ⟨w.heap.size+1+1,3,none⟩=some (.slice va j vc)/\w1.cell? ⟨wr.heap.size,0,none⟩=some (.int .i64 l[j].kind)/\w1.cell? ⟨wr.heap.size,1,none⟩=some (.int .i64 l[j].n)/\w1.cell? ⟨wr.heap.size,2,none⟩=some (.string l[j].s)/\w1.cell? ⟨wr.heap.size,3,none⟩=some (.slice sa l[j].args.length sc)from⟨bc hb1 hW1,bc hb1 hx0,bc hb1 hx1,bc hb1 hx2,bc hb1 hx3⟩);have HB2':=zh (show w1.heap[w.heap.size+1+1]?=_ from Zac (w:=W0.drew) (by subst hW;exact Zaf HB2.o _) hb1);have HB1':=zh (show w1.heap[w.heap.size+1]?=_ from Zac (w:=W0.drew) (by subst hW;exact Zaf HB1.o _) hb1);clear hrd hr hb1 hHO;refine⟨fun _ _ _ _=>HQ.o,?_⟩;refine Zab (i:=5) (by kernel_rfl) (Zad rfl (by rfl) ?_);go_simp;refine⟨fun _ _ _ _=>?_,?_⟩;·obtain⟨q0,q1,q2,q3,q4⟩:=HQ.o;have ka:=Keeps.alloc (fun _=>True) w1 (.cells #[.int .i64 (Tm.ren (fun n=>low n+low d) l[j]).kind,.int .i64 (Tm.ren (fun n=>low n+low d) l[j]).n,.string (Tm.ren (fun n=>low n+low d) l[j]).s,.slice sa' (Tm.ren (fun n=>low n+low d) l[j]).args.length sc'] 43);exact⟨ka.cell trivial q0,ka.cell trivial q1,ka.cell trivial q2,ka.cell trivial q3,ka.cell trivial q4⟩
    refine Zab (i:=6) (by kernel_rfl) (Zad rfl (by rfl) ?_);refine ZbI (.tmp 28) (.tmp 32) 23 rfl (w.heap.size+3) 43 4 56 ZdN Tm.rep_lasts _ _ rfl HO1.o (Tm.ren (fun n=>low n+low d) l[j]) [_,_,_,_] rfl rfl HN.o HL.o ?_;intro v2 w2 hown2 hgrew;have hlt2:=HO.o.lt;have hk2:=hgrew.keeps (A:=fun b=>Zai (.slice va j vc)≠some b) (fun _ h=>h);have hka:=(Keeps.alloc (fun b=>Zai (.slice va j vc)≠some b) w1 (.cells #[.int .i64 (Tm.ren (fun n=>low n+low d) l[j]).kind,.int .i64 (Tm.ren (fun n=>low n+low d) l[j]).n,.string (Tm.ren (fun n=>low n+low d) l[j]).s,.slice sa' (Tm.ren (fun n=>low n+low d) l[j]).args.length sc'] 43)).trans hk2;have n1:Zai (.slice va j vc)≠some (w.heap.size+1+1):=fun e=>by have :=(hlt2 _ e).1;omega
    have n2:Zai (.slice va j vc)≠some wr.heap.size:=fun e=>by have :=(hlt2 _ e).2;omega
    have n3:Zai (.slice va j vc)≠some (w.heap.size+1):=fun e=>by have :=(hlt2 _ e).1;omega
    have HB22:=zh (Zaj HB2'.o hka n1);have HB12:=zh (Zaj HB1'.o hka n3);have HBB2:=zh (hgrew.below (HBB.o.alloc (by omega) _) (by simp;omega) (fun b hb=>by have :=(hlt2 b hb).1;omega));obtain⟨va2,vc2,hv2,hvc2⟩:=hown2.val;rw[show(List.map (Tm.ren fun n=>low n+low d) (List.take j l)++[Tm.ren (fun n=>low n+low d) l[j]]).length=j+1 by simp;omega]at hv2;subst hv2;have hz2:=hgrew.size;have HO2:=zh hown2;simp only[World.size_alloc]at hz2;obtain⟨y0,y1,y2,y3,yf⟩:=Za0 HB22.o;refine⟨fun _ _ _ _=>?_,?_⟩;·obtain⟨q0,q1,q2,q3,q4⟩:=HQ.o;exact⟨hka.cell n1 q0,hka.cell n2 q1,hka.cell n2 q2,hka.cell n2 q3,hka.cell n2 q4⟩
    clear hown2 hka hk2;simp only[zP];refine ZaE (i:=7) (v:=?_) rfl (Or.inl ⟨by rfl,?_⟩) (fun h=>by omega) ?_;rotate_left;·(intro w' hw;clear hw;go_simp<;>with_reducible rfl)
    simp only[zP];refine Zab (i:=8) (by kernel_rfl) (Zad rfl (by rfl) ?_);go_simp;refine⟨fun k0 hk0 _ h12=>?_,Zan (by kernel_rfl) ?_ _⟩
    ·rcases h12 with rfl|rfl;·exact absurd (show waits _ 8 1=true by kernel_rfl) (by rw[hk0];decide)
     ·exact absurd (show waits _ 8 2=true by kernel_rfl) (by rw[hk0];decide)
    have HB3:=zh (Zal HB22.o 3 (.slice va2 (j+1) vc2));have hz3:(w2.setCell ⟨w.heap.size+1+1,3,none⟩ (.slice va2 (j+1) vc2)).heap.size=w2.heap.size:=by simp
    have HK3:=zh (Keeps.setCell (fun b=>b≠w.heap.size+1+1) w2 ⟨w.heap.size+1+1,3,none⟩ (.slice va2 (j+1) vc2) (by simp));clear hgrew;go_wp2_with fail;go_roundw;case rel=>refine⟨j+1,_,by omega,by go_num,by omega,HBB2.o.setCell (by simp;omega) _,Zaj HB12.o HK3.o (by omega),HB3.o,?_⟩;rw[List.take_succ_eq_append_getElem hlt,List.map_append];exact HO2.o.keeps Tm.rep_lasts HK3.o (fun b hb=>by omega) (fun b hb=>by have :=(HO2.o.lt b hb).1;omega)
    case measure=>simp[intOf];omega
   ·have :j=l.length:=by omega
    subst this;obtain⟨z0,z1,z2,z3,zf⟩:=Za0 HB1.o;have hcs:=Zak;go_wp2_with fail;refine bodyPost_ret (v:= .agg #[.int .i64 k,.int .i64 m,.string s,.slice va l.length vc]) (by simp[results,Try.results54,go_sem,hcs,z0,z1,z2,z3]) rfl ⟨_,rfl,?_,[_,_,_,_],rfl,?_⟩;·refine Below.setCell (Below.setCell (Below.setCell (Below.setCell HB.o ?_ _) ?_ _) ?_ _) ?_ _<;>simp
    ·have hO:=HO.o;rw[List.take_length]at hO;have hsl:=hO.sl Tm.rep_lasts (by simp;omega) (fun b hb=>hb);rw[Tm.ren,Tm.rep_iff];refine⟨hk,?_,hs,_,by rw[HM.o,Zng],?_⟩;·show I64 (Zng k n d);unfold Zng I64 at*;split<;>omega
     ·rw[Tm.renL_map];refine SlR.mono Tm.rep_lasts (by omega) (SlR.keeps Tm.rep_lasts hsl ?_) (fun b _ hb=>by simp only[New]at*;omega);refine Keeps.trans (Keeps.trans (Keeps.trans (Keeps.setCell _ _ _ _ ?_) (Keeps.setCell _ _ _ _ ?_)) (Keeps.setCell _ _ _ _ ?_)) (Keeps.setCell _ _ _ _ ?_)<;>simp
theorem Ze7:∀t,ZhR t:=by intro t;induction t using Tm.induct with|h k n s l ih=>exact Zlk k n s l ih
namespace Tm
mutual
/-- how many terms there are in one -/
def nodes : Tm → Nat
  | mk _ _ _ l => nodesL l + 1
def nodesL : List Tm → Nat
  | [] => 0
  | t :: r => nodes t + nodesL r
end
theorem nodesL_append(l r:List Tm):nodesL (l++r)=nodesL l+nodesL r:=by induction l with|nil=>simp[nodesL]|cons t l ih=>simp only[List.cons_append,nodesL,ih];omega
theorem nodesL_take(l:List Tm)(j:Nat)(h:j<l.length):nodesL (l.take j)+nodes l[j]<=nodesL l:=by have h1:=nodesL_append (l.take (j+1)) (l.drop (j+1));rw[List.take_append_drop,List.take_succ_eq_append_getElem h,nodesL_append]at h1;simp only[nodesL]at h1;omega
variable {σ : Type}
def num(f:σ->Int->Int×σ)(st:σ)(k n:Int):Int×σ:=if k=0 then f st n else(n,st)
mutual
/-- each variable's number as a function says that has a state, each term before its arguments -/
def renS (f : σ → Int → Int × σ) : σ → Tm → Tm × σ
  | st, mk k n s l => (mk k (num f st k n).1 s (renSL f (num f st k n).2 l).1, (renSL f (num f st k n).2 l).2)
def renSL (f : σ → Int → Int × σ) : σ → List Tm → List Tm × σ
  | st, [] => ([], st)
  | st, t :: r => ((renS f st t).1 :: (renSL f (renS f st t).2 r).1, (renSL f (renS f st t).2 r).2)
end
theorem renSL_snoc(f:σ->Int->Int×σ)(l:List Tm):∀(st:σ)(t:Tm),renSL f st (l++[t])=((renSL f st l).1++[(renS f (renSL f st l).2 t).1],(renS f (renSL f st l).2 t).2):=by induction l with|nil=>intro st t;simp[renSL]|cons x r ih=>intro st t;simp[renSL,ih]
theorem renSL_length(f:σ->Int->Int×σ)(l:List Tm):∀st:σ,(renSL f st l).1.length=l.length:=by induction l with|nil=>intro st;simp[renSL]|cons x r ih=>intro st;simp[renSL,ih]
theorem Zll{sz:σ->Nat}{f:σ->Int->Int×σ}(hf:∀st n,sz (f st n).2<=sz st+1):∀(t:Tm)(st:σ),sz (renS f st t).2<=sz st+t.nodes:=by
 intro t;induction t using induct with
  |h k n s l ih=>
   intro st;have hL:∀(r:List Tm),(∀t∈r,t∈l)->∀st:σ,sz (renSL f st r).2<=sz st+nodesL r:=by intro r;induction r with|nil=>intro _ st;simp[renSL,nodesL]|cons x r ihr=>intro hm st;simp only[renSL,nodesL];have h1:=ih x (hm x (List.mem_cons_self ..)) st;have h2:=ihr (fun t ht=>hm t (List.mem_cons_of_mem _ ht)) (renS f st x).2;omega
   simp only[renS,nodes];have h1:=hL l (fun _ h=>h) (num f st k n).2;have h2:sz (num f st k n).2<=sz st+1:=by
    unfold num;split;·exact hf st n
    ·simp
   omega
theorem renSL_szL{sz:σ->Nat}{f:σ->Int->Int×σ}(hf:∀st n,sz (f st n).2<=sz st+1)(l:List Tm):∀(st:σ),sz (renSL f st l).2<=sz st+nodesL l:=by induction l with|nil=>intro st;simp[renSL,nodesL]|cons x r ih=>intro st;simp only[renSL,nodesL];have h1:=Zll hf x st;have h2:=ih (renS f st x).2;omega
end Tm
structure StLaw {σ : Type} (I : σ → (Nat → Prop) → World → Prop) : Prop where
  lt : ∀ st M w, I st M w → ∀ b, M b → b < w.heap.size
  keeps : ∀ st M w w', I st M w → Keeps M w w' → I st M w'
def ZmH{σ:Type}(I:σ->(Nat->Prop)->World->Prop)(M:Nat->Prop)(w:World)(r:Tm×σ)(e:Ending)(w':World):Prop:=∃us M',e= .returned (.agg us.toArray)/\Ch M w w'/\(∀b,M' b->M b\/w.heap.size<=b)/\I r.2 M' w'/\Tm.rep (fun b=>w.heap.size<=b/\¬M' b) w' r.1 us
def Zka{σ:Type}(I:σ->(Nat->Prop)->World->Prop)(M:Nat->Prop)(w:World)(r:Int×σ)(e:Ending)(w':World):Prop:=e= .returned (.int .i64 r.1)/\I64 r.1/\∃M',Ch M w w'/\(∀b,M' b->M b\/w.heap.size<=b)/\I r.2 M' w'
end Go.Proofs.Ytlpmfkpefoegeac
