import Derived.Test.YtlpmfkpefoegeacGreatDoorQCopy
import Derived.Deep.RegionHeld
namespace Go.Proofs.YtlpmfkpefoegeacGreatDoor
set_option maxRecDepth 99999
set_option maxHeartbeats 0
set_option linter.all false
open Go.RowKit
section
variable {P : Program} {ops : Array Oper} {Q : Exit → Act → World → Prop} {F : Nat → World → Prop}
def waits(ops:Array Oper)(i k:Nat):Bool:=((ops[i]?).map fun o=>o.after.any fun e=>Region.binds .any e&&e.on==k).getD false
def uD(P:Program)(ops:Array Oper)(F:Nat->World->Prop)(i:Nat)(o:Oper)(v:Value)(a:Act):Prop:=(Region.wanted o (yielded ops a.tmps)=true/\∀w,F i w->(execOp a.eval o).run P w= .ok (.value v) w)\/(Region.wanted o (yielded ops a.tmps)=false/\v=undef)
theorem uD.wpOp{i:Nat}{o:Oper}{v:Value}{a:Act}(hi:ops[i]?=some o)(hy:uD P ops F i o v a){K:Act->World->Prop}{w:World}(hS:F i w)(h:K (a.put o.dst v) w):wpOp P ops Q i K a w:=by
 unfold Go.wpOp;simp only[hi];rcases hy with⟨hw,hv⟩|⟨hw,rfl⟩;·simp only[hw,if_true,Oper.wp,hv w hS,Oper.upon];exact .inl h
 ·simp only[hw,xe,if_false];exact h
theorem uD.of_same{i:Nat}{o:Oper}{v:Value}{a a':Act}(hy:uD P ops F i o v a)(he:execOp a'.eval o=execOp a.eval o)(hw:Region.wanted o (yielded ops a'.tmps)=Region.wanted o (yielded ops a.tmps)):uD P ops F i o v a':=by unfold uD at*;rw[he,hw];exact hy
theorem anw{i j:Nat}{oi oj:Oper}{v:Value}(hj:ops[j]?=some oj)(hap:oi.apart ops oj=true)(hsi:∀cs b,oi.op≠ .select cs b)(hsj:∀cs b,oj.op≠ .select cs b)(hQ:∀c a w,Q (.panic c) (a.put oi.dst v) w->Q (.panic c) a w){K:Act->World->Prop}{a:Act}{w:World}(hy:uD P ops F i oi v a)(h:wpOp P ops Q j K (a.put oi.dst v) w):wpOp P ops Q j (fun a' w'=>uD P ops F i oi v a'/\K (a'.put oi.dst v) w') a w:=by
 obtain⟨h1,h2,h3⟩:=Oper.apart_spec hap;have keep:∀(a:Act),uD P ops F i oi v a->∀u,uD P ops F i oi v (a.put oj.dst u):=fun a hy u=>hy.of_same (execOp_put oi hsi a oj.dst u h3) (wanted_put oi a oj.dst u h3);have keepD:∀d,uD P ops F i oi v {a with defers:=d::a.defers}:=fun d=>hy.of_same rfl rfl;unfold wpOp at*;simp only[hj]at*;rw[wanted_put oj a oi.dst v h1]at h;split
 ·rename_i hw;simp only[hw,if_true]at h;rcases h with h|⟨hasks,hlets⟩;case inr=>exact .inr ⟨by unfold Oper.asks at*;rw[execOp_put oj hsj a oi.dst v h1]at hasks;exact hasks,hlets⟩
  refine .inl ?_;unfold Oper.wp at*;rw[execOp_put oj hsj a oi.dst v h1]at h;generalize(execOp a.eval oj).run P w=r at*;cases r with
   |ok n w'=>
    cases n<;>simp only[Oper.upon]at h ⊢;case value u=>exact⟨keep a hy u,by rw[<-QX a v u h2];exact h⟩
    case skip=>exact⟨keep a hy _,by rw[<-QX a v undef h2];exact h⟩
    case defer d=>refine⟨keep _ (keepD d) _,?_⟩;rw[<-QX _ v undef h2,<-Act.put_defers];exact h
    case enter f args=>refine Calls.mono h fun e w'' he=>?_;cases e with|returned u=>exact⟨keep a hy u,by rw[<-QX a v u h2];exact he⟩|panicked c=>exact hQ _ _ _ he|outgrown=>exact he
    case row row args=>exact Rows.mono h fun u w'' he=>⟨keep a hy u,by rw[<-QX a v u h2];exact he⟩
   |halt x w'=>cases x<;>simp only[Oper.upon]at h ⊢;case panic u=>exact hQ _ _ _ h
 ·rename_i hw;simp only[hw]at h;exact⟨keep a hy _,by rw[<-QX a v undef h2];exact h⟩
def Mt(ops:Array Oper)(F:Nat->World->Prop)(i:Nat)(w w':World):Prop:=∀k,waits ops i k=false->F k w->F k w'
def mo(P:Program)(ops:Array Oper)(Q:Exit->Act->World->Prop)(F:Nat->World->Prop):Nat->Array Bool->Act->World->Prop|0,listed,a,w=>Region.ready .any ops listed=[]/\Q .normal a w|fuel+1,listed,a,w=>(Region.ready .any ops listed=[]->Q .normal a w)/\∀i∈Region.ready .any ops listed,wpOp P ops Q i (fun a' w'=>Mt ops F i w w'/\mo P ops Q F fuel (listed.setIfInBounds i true) a' w') a w
theorem WN:∀(fuel:Nat)(listed:Array Bool)(a:Act)(w:World),mo P ops Q F fuel listed a w->wpAny P .any ops Q fuel listed a w|0,_,_,_,h=>h|fuel+1,_,_,_,h=>⟨h.1,fun i hi=>QZ (fun a' w' h'=>WN fuel _ a' w' h'.2) (h.2 i hi)⟩
theorem anx{i:Nat}{oi:Oper}{v:Value}(hi:ops[i]?=some oi)(hsel:∀(j:Nat)(o:Oper)cs b,ops[j]?=some o->o.op≠ .select cs b)(hQ:∀c a w,Q (.panic c) (a.put oi.dst v) w->Q (.panic c) a w):∀(fuel:Nat)(listed:Array Bool)(a:Act)(w:World),(∀j oj,ops[j]?=some oj->j≠i->listed.getD j true=false->(∀e∈oj.after,Region.binds .any e=true->e.on≠i)->oi.apart ops oj=true)->i∈Region.ready .any ops listed->uD P ops F i oi v a->F i w->mo P ops Q F fuel (listed.setIfInBounds i true) (a.put oi.dst v) w->mo P ops Q F (fuel+1) listed a w:=by
 intro fuel;induction fuel with
  |zero=>
   intro listed a w _ hr hy hS H;refine⟨fun h=>(by rw[h]at hr;cases hr),fun j hj=>?_⟩;by_cases hji:j=i;·subst hji;exact hy.wpOp hi hS ⟨fun _ _ h=>h,H⟩
   ·have :=ready_mono hj hji;rw[H.1]at this;cases this
  |succ fuel ih=>
   intro listed a w hfree hr hy hS H;refine⟨fun h=>(by rw[h]at hr;cases hr),fun j hj=>?_⟩;by_cases hji:j=i;·subst hji;exact hy.wpOp hi hS ⟨fun _ _ h=>h,H⟩
   ·have h1:=H.2 j (ready_mono hj hji);obtain⟨hjun,oj,hoj,hall⟩:=mem_ready.1 hj;have hnot:∀e∈oj.after,Region.binds .any e=true->e.on≠i:=fun e he hb heq=>by
     have h1:=hall e he hb;have h0:=(mem_ready.1 hr).1;rw[heq]at h1;rcases Nat.lt_or_ge i listed.size with h'|h';·simp[h']at h0 h1;rw[h0]at h1;cases h1
     ·simp[Ai h']at h1
    have hwt:waits ops j i=false:=by simp only[waits,hoj,pW,rC];rw[Bool.eq_false_iff];intro hw;obtain⟨e,he,hb⟩:=Mf.1 hw;simp only[ko,rE]at hb;exact hnot e he hb.1 hb.2
    have h2:=anw hoj (hfree j oj hoj hji hjun hnot) (fun cs b=>hsel i oi cs b hi) (fun cs b=>hsel j oj cs b hoj) hQ hy h1;have hfree':∀k ok,ops[k]?=some ok->k≠i->(listed.setIfInBounds j true).getD k true=false->(∀e∈ok.after,Region.binds .any e=true->e.on≠i)->oi.apart ops ok=true:=fun k ok hk hki hun hno=>by
     refine hfree k ok hk hki ?_ hno;by_cases hjk:j=k;·subst hjk;exact hjun
     ·rw[sI true hjk]at hun;exact hun
    refine QZ (fun a' w' h3=>⟨h3.2.1,?_⟩) h2;refine ih (listed.setIfInBounds j true) a' w' hfree' (ready_mono hr (sJ hji)) h3.1 (h3.2.1 i hwt hS) ?_;rw[Array.setIfInBounds_comm _ _ hji];exact h3.2.2
theorem Q6{i:Nat}{oi:Oper}{v:Value}{fuel:Nat}{listed:Array Bool}{a:Act}{w:World}(hi':ops.toList[i]?=some oi)(hs:Region.noSelect ops=true)(hf:Region.free .any ops listed i=true)(hr:(Region.ready .any ops listed).contains i=true)(hQ:∀c a w,Q (.panic c) (a.put oi.dst v) w->Q (.panic c) a w)(hy:uD P ops F i oi v a)(hS:F i w)(h:mo P ops Q F fuel (listed.setIfInBounds i true) (a.put oi.dst v) w):mo P ops Q F (fuel+1) listed a w:=have hi:ops[i]?=some oi:=by rw[<-nP];exact hi'
 anx hi (am4 hs) hQ fuel listed a w (Region.free_spec hi hf) (by simpa using hr) hy hS h
theorem anz{i:Nat}{fuel:Nat}{listed:Array Bool}{a:Act}{w:World}(hr:Region.ready .any ops listed=[i])(h:wpOp P ops Q i (fun a' w'=>Mt ops F i w w'/\mo P ops Q F fuel (listed.setIfInBounds i true) a' w') a w):mo P ops Q F (fuel+1) listed a w:=⟨fun h0=>(by rw[hr]at h0;cases h0),fun j hj=>(by rw[hr]at hj;simp only[iX]at hj;subst hj;exact h)⟩
theorem anA{listed:Array Bool}{a:Act}{w:World}(hr:Region.ready .any ops listed=[])(h:Q .normal a w):∀fuel,mo P ops Q F fuel listed a w|0=>⟨hr,h⟩|_+1=>⟨fun _=>h,by rw[hr];simp⟩
theorem lK{i:Nat}{o:Oper}{K:Act->World->Prop}{a:Act}{w:World}(hi':ops.toList[i]?=some o)(hg:Region.wanted o (yielded ops a.tmps)=true)(h:o.wp P a w K Q):wpOp P ops Q i K a w:=by
 have hi:ops[i]?=some o:=by rw[<-nP];exact hi'
 unfold Go.wpOp;simp only[hi,hg,if_true];exact .inl h
theorem jd{id:Nat}{a:Act}{w:World}(hm:P.follows .mixedOrders=true)(h:mo P ops Q F ops.size (Array.replicate ops.size false) a w.drew):(Code.region id ops true).wp P Q a w:=WA hm (WN _ _ _ _ h)
end
theorem aAt{P:Program}{ops:Array Oper}{Q:Exit->Act->World->Prop}{F:Nat->World->Prop}{i:Nat}{oi:Oper}{v:Value}{fuel:Nat}{listed:Array Bool}{a:Act}{w:World}(hi':ops.toList[i]?=some oi)(hy:uD P ops F i oi v a)(hS:F i w)(h:mo P ops Q F fuel (listed.setIfInBounds i true) (a.put oi.dst v) w)(hs:Region.noSelect ops=true:=by kernel_rfl)(hf:Region.free .any ops listed i=true:=by kernel_rfl)(hr:(Region.ready .any ops listed).contains i=true:=by kernel_rfl)(hQ:∀c a w,Q (.panic c) (a.put oi.dst v) w->Q (.panic c) a w:=by exact fun _ _ _ h=>h):mo P ops Q F (fuel+1) listed a w:=Q6 hi' hs hf hr hQ hy hS h
theorem U:(∀(a:Act)(i:Nat)(v:Value),a.put (some i) v={a with tmps:=a.tmps.setIfInBounds i v})/\(∀(l:List Value)(i:Nat)(v:Value),l.toArray.setIfInBounds i v=(l.set i v).toArray)/\(∀(x v:Value)(l:List Value),(x::l).set 0 v=v::l)/\(∀(x v:Value)(l:List Value)(n:Nat),(x::l).set (n+1) v=x::l.set n v):=⟨fun _ _ _=>rfl,fun l i v=>BU l i v,fun _ _ _=>rfl,fun _ _ _ _=>rfl⟩
theorem zT{P:Program}{ops:Array Oper}{Q:Exit->Act->World->Prop}{F:Nat->World->Prop}(i:Nat){oi:Oper}{v:Value}{fuel:Nat}{listed:Array Bool}{a:Act}{w:World}(hS:F i w)(h:mo P ops Q F fuel (listed.setIfInBounds i true) (a.put oi.dst v) w)(hi':ops.toList[i]?=some oi:=by rfl)(hs:Region.noSelect ops=true:=by kernel_rfl)(hf:Region.free .any ops listed i=true:=by kernel_rfl)(hr:(Region.ready .any ops listed).contains i=true:=by kernel_rfl)(hQ:∀c a w,Q (.panic c) (a.put oi.dst v) w->Q (.panic c) a w:=by exact fun _ _ _ h=>h)(hg:Region.wanted oi (yielded ops a.tmps)=true:=by rfl)(hrun:∀w,F i w->(execOp a.eval oi).run P w= .ok (.value v) w:=by(intro w' hw;clear hw;go_simp<;>with_reducible rfl)):mo P ops Q F (fuel+1) listed a w:=Q6 hi' hs hf hr hQ (Or.inl ⟨hg,hrun⟩) hS h
theorem zY{P:Program}{ops:Array Oper}{Q:Exit->Act->World->Prop}{F:Nat->World->Prop}(i:Nat){oi:Oper}{v:Value}{fuel:Nat}{listed:Array Bool}{a:Act}{w:World}(hS:F i w)(h:mo P ops Q F fuel (listed.setIfInBounds i true) (a.put oi.dst v) w)(hi':ops.toList[i]?=some oi:=by rfl)(hs:Region.noSelect ops=true:=by kernel_rfl)(hf:Region.free .any ops listed i=true:=by kernel_rfl)(hr:(Region.ready .any ops listed).contains i=true:=by kernel_rfl)(hQ:∀c a w,Q (.panic c) (a.put oi.dst v) w->Q (.panic c) a w:=by exact fun _ _ _ h=>h)(hg:Region.wanted oi (yielded ops a.tmps)=true:=by rfl)(z:∀w,F i w->(execOp a.eval oi).run P w= .ok (.value v) w):mo P ops Q F (fuel+1) listed a w:=Q6 hi' hs hf hr hQ (Or.inl ⟨hg,z⟩) hS h
theorem zO{P:Program}{ops:Array Oper}{Q:Exit->Act->World->Prop}{F:Nat->World->Prop}(i:Nat){o:Oper}{fuel:Nat}{listed:Array Bool}{a:Act}{w:World}(h:o.wp P a w (fun a' w'=>Mt ops F i w w'/\mo P ops Q F fuel (listed.setIfInBounds i true) a' w') Q)(hr:Region.ready .any ops listed=[i]:=by kernel_rfl)(hi':ops.toList[i]?=some o:=by rfl)(hg:Region.wanted o (yielded ops a.tmps)=true:=by rfl):mo P ops Q F (fuel+1) listed a w:=anz hr (lK hi' hg h)
theorem zQ{P:Program}{ops:Array Oper}{Q:Exit->Act->World->Prop}{F:Nat->World->Prop}{fuel:Nat}{listed:Array Bool}{a:Act}{w:World}(h:Q .normal a w)(hr:Region.ready .any ops listed=[]:=by kernel_rfl):mo P ops Q F fuel listed a w:=anA hr h fuel
namespace Tm
mutual
def ren (f : Int → Int) : Tm → Tm
  | mk k n s l => mk k (if k = 0 then f n else n) s (uE f l)
def uE (f : Int → Int) : List Tm → List Tm
  | [] => []
  | t :: r => ren f t :: uE f r
end
theorem Jl(f:Int->Int)(l:List Tm):uE f l=l.map (ren f):=by induction l with|nil=>rfl|cons t r ih=>simp[uE,ih]
end Tm
def low(n:Int):Int:=n%1099511627776
theorem ad2(n:Int):0<=low n/\low n<1099511627776:=by unfold low;omega
theorem ad3(n:Int)(h:ah n):bits .and .i64 n 1099511627775=low n:=by
 have hx:((BitVec.ofInt 64 n)&&& (BitVec.ofInt 64 1099511627775)).toNat=(BitVec.ofInt 64 n).toNat%1099511627776:=by rw[BitVec.toNat_and];exact Nat.and_two_pow_sub_one_eq_mod _ 40
 show IntKind.i64.wrap (((BitVec.ofInt 64 n)&&& (BitVec.ofInt 64 1099511627775)).toNat:Int)=low n;rw[hx,BitVec.toNat_ofInt,Wx];unfold low ah at*;omega
def WO(t:Tm):Prop:=∀(d:Int)(A:Nat->Prop)(w:World)(vs:List Value),ah d->Tm.rep A w t vs->Calls Tryz.prog 130 #[.agg vs.toArray,.int .i64 d] w (Pure w fun v w'=>∃us,v= .agg us.toArray/\Tm.rep (New w) w' (t.ren fun n=>low n+low d) us)
def Jm(k n d:Int):Int:=if k=0 then low n+low d else n
theorem anB(k n:Int)(s:ByteArray)(l:List Tm)(ih:∀t∈l,WO t):WO (.mk k n s l):=by
 intro d A w vs hd hv;rw[Tm.jv]at hv;obtain⟨hk,hn,hs,v,rfl,hl⟩:=hv;obtain⟨a,cap,b,off,rfl,hlc,hcm,hlb,ha,he⟩:=hl.at;have HE:=Y he;have HA:=Y ha;have IH:=Y ih;have e1:=ad3 n hn;have e2:=ad3 d hd;have b1:=ad2 n;have b2:=ad2 d;clear he ha hl ih;obtain⟨m,hm⟩:∃m,m=Jm k n d:=⟨_,rfl⟩;by_cases e:k=0;all_goals
  try have e':(k==0)=false:=by simpa using e
  try have e':(k==0)=true:=by simpa using e
  have HM:Hd (m=Jm k n d):=hm;have xm:=Y e;clear hm e;go_enter Tryz.func130,Tryz.ntmps130;go_wp2_with fail;go_loopw[23](fun i wr=>∃(j:Nat)(v:Value),j<=l.length/\i= .int .i64 j/\w.heap.size+3<=wr.heap.size/\Below w.heap.size w wr/\wr.heap[w.heap.size+1]?=some (.cells #[.int .i64 0,.int .i64 0,.string .empty,.slice none 0 0] 34 (0,0))/\wr.heap[w.heap.size+1+1]?=some (.cells #[.int .i64 k,.int .i64 m,.string s,v] 34 (0,0))/\az wr (w.heap.size+3) 34 4 Tm.rep (fun b=>w.heap.size+3<=b) ((l.take j).map (Tm.ren fun n=>low n+low d)) v)(fun i _=>l.length - (intOf i).toNat);case atStart=>refine⟨0,.slice none 0 0,dA _,rfl,by simp,iO (iO (iO (Z _ _))),(Ml _ _ _ _).2.1,?_,by simpa using az.nil ..⟩;rw[(Ml _ _ _ _).2.2,HM.o,Jm];simp[xm.o]
  case round=>
   obtain⟨j,v,hj,rfl,hz,hb,hB1,hB2,hown⟩:=hrel;have HB:=Y hb;have HB1:=Y hB1;have HB2:=Y hB2;obtain⟨va,vc,rfl,yE⟩:=hown.val;have hvl:((l.take j).map (Tm.ren fun n=>low n+low d)).length=j:=by simp;omega
   rw[hvl]at hown HB2;have HO:=Y hown;obtain⟨g0,g1,g2,g3,gf⟩:=aF HB2.o;clear hb hB1 hB2 hown hvl;by_cases hlt:j<l.length
   ·obtain⟨rfl,bQ⟩:=HA.o (by omega);obtain⟨sa,sc,c0,c1,c2,c3,hr⟩:=lJ HE.o bQ (J.ob HB.o) hlt;have HR:=Y hr;have lb:b<wr.heap.size:=iW wr _ c0;clear hr;go_wp2_with fail;generalize hW:wr.alloc (.cells #[.int .i64 l[j].kind,.int .i64 l[j].n,.string l[j].s,.slice sa l[j].args.length sc] 34)=W0;have hW1:W0.drew.cell? ⟨w.heap.size+1+1,3,none⟩=some (.slice va j vc):=by subst hW;exact(J.alloc (fun _=>True) _ _).cell trivial g3
    obtain⟨hx0,hx1,hx2,hx3, -⟩:=aF (show W0.drew.heap[wr.heap.size]?=_ by subst hW;exact bq _ _);refine jd (F:=fun k w'=>(k=1\/k=2)->w'.cell? ⟨w.heap.size+1+1,3,none⟩=some (.slice va j vc)/\w'.cell? ⟨wr.heap.size,0,none⟩=some (.int .i64 l[j].kind)/\w'.cell? ⟨wr.heap.size,1,none⟩=some (.int .i64 l[j].n)/\w'.cell? ⟨wr.heap.size,2,none⟩=some (.string l[j].s)/\w'.cell? ⟨wr.heap.size,3,none⟩=some (.slice sa l[j].args.length sc)) (by kernel_rfl) ?_;refine zT 0 (fun _=>⟨hW1,hx0,hx1,hx2,hx3⟩) ?_;simp only[U];refine zY 1 (fun _=>⟨hW1,hx0,hx1,hx2,hx3⟩) ?_ (z:=by intro w' hw;obtain⟨q0,q1,q2,q3,q4⟩:=hw (by omega);go_simp<;>with_reducible rfl);simp only[U];refine zY 2 (fun _=>⟨hW1,hx0,hx1,hx2,hx3⟩) ?_ (z:=by intro w' hw;obtain⟨q0,q1,q2,q3,q4⟩:=hw (by omega);go_simp<;>with_reducible rfl);simp only[U];refine zT 3 (fun _=>⟨hW1,hx0,hx1,hx2,hx3⟩) ?_;simp only[U];refine zO 4 ?_;go_simp;have hrd:Tm.rep A W0.drew l[j] _:=Tm.ae.1 _ _ _ _ _ HR.o (by subst hW;exact(J.alloc _ _ _).trans (J.drew _ _));refine(IH.out _ (bN hlt) d A _ _ hd hrd).mono ?_;rintro e w1⟨v',rfl,hb1,us,rfl,hr⟩;obtain⟨sa',sK,rfl, -⟩:=Tm.dV hr;have hsz:=hb1.size;have hsW:W0.heap.size=wr.heap.size+1:=by subst hW;simp
    simp only[dG]at hsz;have Cg:az W0.drew _ _ _ _ _ _ _:=(by subst hW;exact(HO.o.alloc Tm.ae _).keeps Tm.ae (J.drew (fun _=>True) _) (fun _ _=>trivial) (fun _ _=>trivial));have fH:=Y (Cg.below Tm.ae hb1);have HN:=Y (Q4 Tm.ae Cg (zL _) (A:=fun b=>w.heap.size+3<=b) (fun b hb=>by simp only[dG]at hb;omega) hr);have HL:=Y (show((l.take j).map (Tm.ren fun n=>low n+low d)).length<4194304/\w.heap.size+3<=w1.heap.size by simp;omega);have Ed:Hd (Below w.heap.size w w1):=Y ((show Below w.heap.size w W0.drew by subst hW;exact(HB.o.alloc (by omega) _).drew).trans (hb1.mono (by simp only[dG];omega)));have HQ:=Y (show w1.cell? ⟨w.heap.size+1+1,3,none⟩=some (.slice va j vc)/\w1.cell? ⟨wr.heap.size,0,none⟩=some (.int .i64 l[j].kind)/\w1.cell? ⟨wr.heap.size,1,none⟩=some (.int .i64 l[j].n)/\w1.cell? ⟨wr.heap.size,2,none⟩=some (.string l[j].s)/\w1.cell? ⟨wr.heap.size,3,none⟩=some (.slice sa l[j].args.length sc)from⟨bc hb1 hW1,bc hb1 hx0,bc hb1 hx1,bc hb1 hx2,bc hb1 hx3⟩);have yF:=Y (show w1.heap[w.heap.size+1+1]?=_ from aA (w:=W0.drew) (by subst hW;exact aI HB2.o _) hb1);have WQ:=Y (show w1.heap[w.heap.size+1]?=_ from aA (w:=W0.drew) (by subst hW;exact aI HB1.o _) hb1);clear hrd hr hb1 Cg;refine⟨fun _ _ _ _=>HQ.o,?_⟩;refine zO 5 ?_;go_simp;refine⟨fun _ _ _ _=>?_,?_⟩;·obtain⟨q0,q1,q2,q3,q4⟩:=HQ.o;have ka:=J.alloc (fun _=>True) w1 (.cells #[.int .i64 (Tm.ren (fun n=>low n+low d) l[j]).kind,.int .i64 (Tm.ren (fun n=>low n+low d) l[j]).n,.string (Tm.ren (fun n=>low n+low d) l[j]).s,.slice sa' (Tm.ren (fun n=>low n+low d) l[j]).args.length sK] 34);exact⟨ka.cell trivial q0,ka.cell trivial q1,ka.cell trivial q2,ka.cell trivial q3,ka.cell trivial q4⟩
    refine zO 6 ?_;refine uC (.tmp 28) (.tmp 32) 23 rfl (w.heap.size+3) 34 4 56 Au Tm.ae _ _ rfl fH.o (Tm.ren (fun n=>low n+low d) l[j]) [_,_,_,_] rfl rfl HN.o HL.o ?_;intro v2 w2 hown2 aj;have hlt2:=HO.o.lt;have hk2:=aj.keeps (A:=fun b=>ownB (.slice va j vc)≠some b) (fun _ h=>h);have hka:=(J.alloc (fun b=>ownB (.slice va j vc)≠some b) w1 (.cells #[.int .i64 (Tm.ren (fun n=>low n+low d) l[j]).kind,.int .i64 (Tm.ren (fun n=>low n+low d) l[j]).n,.string (Tm.ren (fun n=>low n+low d) l[j]).s,.slice sa' (Tm.ren (fun n=>low n+low d) l[j]).args.length sK] 34)).trans hk2;have n1:ownB (.slice va j vc)≠some (w.heap.size+1+1):=fun e=>by have :=(hlt2 _ e).1;omega
    have n2:ownB (.slice va j vc)≠some wr.heap.size:=fun e=>by have :=(hlt2 _ e).2;omega
    have n3:ownB (.slice va j vc)≠some (w.heap.size+1):=fun e=>by have :=(hlt2 _ e).1;omega
    have Q7:=Y (bJ yF.o hka n1);have Gh:=Y (bJ WQ.o hka n3);have WR:=Y (aj.below (Ed.o.alloc (by omega) _) (by simp;omega) (fun b hb=>by have :=(hlt2 b hb).1;omega));obtain⟨aS,aT,hv2,Gi⟩:=hown2.val;rw[show(List.map (Tm.ren fun n=>low n+low d) (List.take j l)++[Tm.ren (fun n=>low n+low d) l[j]]).length=j+1 by simp;omega]at hv2;subst hv2;have hz2:=aj.size;have bA:=Y hown2;simp only[bO]at hz2;obtain⟨y0,y1,y2,y3,yf⟩:=aF Q7.o;refine⟨fun _ _ _ _=>?_,?_⟩;·obtain⟨q0,q1,q2,q3,q4⟩:=HQ.o;exact⟨hka.cell n1 q0,hka.cell n2 q1,hka.cell n2 q2,hka.cell n2 q3,hka.cell n2 q4⟩
    clear hown2 hka hk2;simp only[U];refine zT 7 (fun h=>by omega) ?_;simp only[U];refine zO 8 ?_;go_simp;refine⟨fun k0 hk0 _ h12=>?_,zQ ?_⟩
    ·rcases h12 with rfl|rfl;·exact absurd (show waits _ 8 1=true by kernel_rfl) (by rw[hk0];decide)
     ·exact absurd (show waits _ 8 2=true by kernel_rfl) (by rw[hk0];decide)
    have HB3:=Y (aX Q7.o 3 (.slice aS (j+1) aT));have hz3:(w2.setCell ⟨w.heap.size+1+1,3,none⟩ (.slice aS (j+1) aT)).heap.size=w2.heap.size:=by simp
    have uF:=Y (J.setCell (fun b=>b≠w.heap.size+1+1) w2 ⟨w.heap.size+1+1,3,none⟩ (.slice aS (j+1) aT) (by simp));clear aj;go_wp2_with fail;go_roundw;case rel=>refine⟨j+1,_,by omega,by go_num,by omega,WR.o.setCell (by simp;omega) _,bJ Gh.o uF.o (by omega),HB3.o,?_⟩;rw[iq hlt,qF];exact bA.o.keeps Tm.ae uF.o (fun b hb=>by omega) (fun b hb=>by have :=(bA.o.lt b hb).1;omega)
    case measure=>simp[intOf];omega
   ·have :j=l.length:=by omega
    subst this;obtain⟨z0,z1,z2,z3,zf⟩:=aF HB1.o;have hcs:=bF;go_wp2_with fail;refine bX (v:= .agg #[.int .i64 k,.int .i64 m,.string s,.slice va l.length vc]) (by simp[results,Tryz.results130,go_sem,hcs,z0,z1,z2,z3]) rfl ⟨_,rfl,?_,[_,_,_,_],rfl,?_⟩;·refine bE (bE (bE (bE HB.o ?_ _) ?_ _) ?_ _) ?_ _<;>simp
    ·have hO:=HO.o;rw[nQ]at hO;have hsl:=hO.sl Tm.ae (by simp;omega) (fun b hb=>hb);rw[Tm.ren,Tm.jv];refine⟨hk,?_,hs,_,by rw[HM.o,Jm],?_⟩;·show ah (Jm k n d);unfold Jm ah at*;split<;>omega
     ·rw[Tm.Jl];refine ag.mono Tm.ae (by omega) (ag.keeps Tm.ae hsl ?_) (fun b _ hb=>by simp only[New]at*;omega);refine J.trans (J.trans (J.trans (J.setCell _ _ _ _ ?_) (J.setCell _ _ _ _ ?_)) (J.setCell _ _ _ _ ?_)) (J.setCell _ _ _ _ ?_)<;>simp
theorem ad4:∀t,WO t:=by intro t;induction t using Tm.induct with|h k n s l ih=>exact anB k n s l ih
namespace Tm
mutual
def nodes : Tm → Nat
  | mk _ _ _ l => aC l + 1
def aC : List Tm → Nat
  | [] => 0
  | t :: r => nodes t + aC r
end
theorem Jn(l r:List Tm):aC (l++r)=aC l+aC r:=by induction l with|nil=>simp[aC]|cons t l ih=>simp only[oO,aC,ih];omega
theorem anD(l:List Tm)(j:Nat)(h:j<l.length):aC (l.take j)+nodes l[j]<=aC l:=by have h1:=Jn (l.take (j+1)) (l.drop (j+1));rw[Aj,iq h,Jn]at h1;simp only[aC]at h1;omega
variable {σ : Type}
def num(f:σ->Int->Int×σ)(st:σ)(k n:Int):Int×σ:=if k=0 then f st n else(n,st)
mutual
def cZ (f : σ → Int → Int × σ) : σ → Tm → Tm × σ
  | st, mk k n s l => (mk k (num f st k n).1 s (aZ f (num f st k n).2 l).1, (aZ f (num f st k n).2 l).2)
def aZ (f : σ → Int → Int × σ) : σ → List Tm → List Tm × σ
  | st, [] => ([], st)
  | st, t :: r => ((cZ f st t).1 :: (aZ f (cZ f st t).2 r).1, (aZ f (cZ f st t).2 r).2)
end
theorem Q8(f:σ->Int->Int×σ)(l:List Tm):∀(st:σ)(t:Tm),aZ f st (l++[t])=((aZ f st l).1++[(cZ f (aZ f st l).2 t).1],(cZ f (aZ f st l).2 t).2):=by induction l with|nil=>intro st t;simp[aZ]|cons x r ih=>intro st t;simp[aZ,ih]
theorem Gj(f:σ->Int->Int×σ)(l:List Tm):∀st:σ,(aZ f st l).1.length=l.length:=by induction l with|nil=>intro st;simp[aZ]|cons x r ih=>intro st;simp[aZ,ih]
theorem anE{sz:σ->Nat}{f:σ->Int->Int×σ}(hf:∀st n,sz (f st n).2<=sz st+1):∀(t:Tm)(st:σ),sz (cZ f st t).2<=sz st+t.nodes:=by
 intro t;induction t using induct with
  |h k n s l ih=>
   intro st;have hL:∀(r:List Tm),(∀t∈r,t∈l)->∀st:σ,sz (aZ f st r).2<=sz st+aC r:=by intro r;induction r with|nil=>intro _ st;simp[aZ,aC]|cons x r ihr=>intro hm st;simp only[aZ,aC];have h1:=ih x (hm x (rA ..)) st;have h2:=ihr (fun t ht=>hm t (sD _ ht)) (cZ f st x).2;omega
   simp only[cZ,nodes];have h1:=hL l (fun _ h=>h) (num f st k n).2;have h2:sz (num f st k n).2<=sz st+1:=by
    unfold num;split;·exact hf st n
    ·simp
   omega
theorem anF{sz:σ->Nat}{f:σ->Int->Int×σ}(hf:∀st n,sz (f st n).2<=sz st+1)(l:List Tm):∀(st:σ),sz (aZ f st l).2<=sz st+aC l:=by induction l with|nil=>intro st;simp[aZ,aC]|cons x r ih=>intro st;simp only[aZ,aC];have h1:=anE hf x st;have h2:=ih (cZ f st x).2;omega
end Tm
structure ad5 {σ : Type} (aEW : σ → (Nat → Prop) → World → Prop) : Prop where
  lt : ∀ st M w, aEW st M w → ∀ b, M b → b < w.heap.size
  keeps : ∀ st M w w', aEW st M w → J M w w' → aEW st M w'
def anG{σ:Type}(aEW:σ->(Nat->Prop)->World->Prop)(M:Nat->Prop)(w:World)(r:Tm×σ)(e:Ending)(w':World):Prop:=∃us M',e= .returned (.agg us.toArray)/\Ch M w w'/\(∀b,M' b->M b\/w.heap.size<=b)/\aEW r.2 M' w'/\Tm.rep (fun b=>w.heap.size<=b/\¬M' b) w' r.1 us
def ad6{σ:Type}(aEW:σ->(Nat->Prop)->World->Prop)(M:Nat->Prop)(w:World)(r:Int×σ)(e:Ending)(w':World):Prop:=e= .returned (.int .i64 r.1)/\ah r.1/\∃M',Ch M w w'/\(∀b,M' b->M b\/w.heap.size<=b)/\aEW r.2 M' w'
namespace Tm
inductive Good (vars : Int) : Tm → Prop where
  | var (n : Int) (h0 : 0 ≤ n) (h1 : n < vars) : Good vars (mk 0 n .empty [])
  | atom (s : ByteArray) (h : Ec s) : Good vars (mk 1 0 s [])
  | int (n : Int) (h0 : -1099511627776 ≤ n) (h1 : n ≤ 1099511627776) : Good vars (mk 2 n .empty [])
  | comp (s : ByteArray) (l : List Tm) (h : Ec s) (h1 : ¬ s.toList = [33]) (h2 : 1 ≤ l.length) (h3 : l.length ≤ 4) (h4 : ∀ t ∈ l, Good vars t) : Good vars (mk 3 0 s l)
end Tm
theorem toList_nil{s:ByteArray}:s.toList.isEmpty=true↔s=.empty:=by
 constructor;·intro h;refine Q5 ?_;rw[Jd]at h;rw[h];decide+kernel
 ·rintro rfl;decide+kernel
theorem WT{α:Type}{l:List α}:((l.length:Int)==0)=true↔l=[]:=by cases l<;>simp<;>omega
namespace Tm
theorem Mw{vars n:Int}{s:ByteArray}{l:List Tm}:Good vars (mk 0 n s l)↔decide (0<=n)=true/\decide (n<vars)=true/\s.toList.isEmpty=true/\((l.length:Int)==0)=true:=by
 rw[toList_nil,WT,Wm,Wm];constructor;·intro h;cases h with|var _ h0 h1=>exact⟨h0,h1,rfl,rfl⟩
 ·rintro⟨h0,h1,rfl,rfl⟩;exact .var n h0 h1
theorem Q9{vars n:Int}{s:ByteArray}{l:List Tm}:Good vars (mk 1 n s l)↔(n==0)=true/\Ec s/\((l.length:Int)==0)=true:=by
 rw[WT,rE];constructor;·intro h;cases h with|atom _ h=>exact⟨rfl,h,rfl⟩
 ·rintro⟨rfl,h,rfl⟩;exact .atom s h
theorem Mx{vars n:Int}{s:ByteArray}{l:List Tm}:Good vars (mk 2 n s l)↔decide (-1099511627776<=n)=true/\decide (n<=1099511627776)=true/\s.toList.isEmpty=true/\((l.length:Int)==0)=true:=by
 rw[toList_nil,WT,Wm,Wm];constructor;·intro h;cases h with|int _ h0 h1=>exact⟨h0,h1,rfl,rfl⟩
 ·rintro⟨h0,h1,rfl,rfl⟩;exact .int n h0 h1
theorem Gn{vars n:Int}{s:ByteArray}{l:List Tm}:Good vars (mk 3 n s l)↔(n != 0)=false/\Ec s/\(s.toList==[33])=false/\decide ((l.length:Int)<1)=false/\decide (4<(l.length:Int))=false/\∀t∈l,Good vars t:=by
 rw[bne_eq_false_iff_eq,amR,amR,Ak];constructor;·intro h;cases h with|comp _ _ h h1 h2 h3 h4=>exact⟨rfl,h,h1,by omega,by omega,h4⟩
 ·rintro⟨rfl,h,h1,h2,h3,h4⟩;exact .comp s l h h1 (by omega) (by omega) h4
theorem anH{vars:Int}{t:Tm}(h:Good vars t):t.kind=0\/t.kind=1\/t.kind=2\/t.kind=3:=by cases h<;>simp[kind]
end Tm
def WU(t:Tm):Prop:=∀(vars:Int)(A:Nat->Prop)(w:World)(vs:List Value),ah vars->Tm.rep A w t vs->Calls Tryz.prog 126 #[.agg vs.toArray,.int .i64 vars] w (Pure w fun v _=>∃r,v= .bool r/\(r=true↔t.Good vars))
theorem anI(k n:Int)(s:ByteArray)(l:List Tm)(ih:∀t∈l,WU t):WU (.mk k n s l):=by
 intro vars A w vs hvars hv;rw[Tm.jv]at hv;obtain⟨hk,hn,hs,v,rfl,hl⟩:=hv;obtain⟨a,cap,b,off,rfl,hlc,hcm,hlb,ha,he⟩:=hl.at;have HE:=Y he;have HA:=Y ha;have IH:=Y ih;have Ra:=Y hvars;have HB0:=Y (show Below w.heap.size w (w.alloc (.cells #[.int .i64 k,.int .i64 n,.string s,.slice a l.length cap] 34))from iO (Z _ _));clear he ha hl ih;by_cases k0:k=0
 ·have k0':(k==0)=true:=by simpa using k0
  subst k0;clear k0';by_cases a0:decide (0<=n)=true
  ·by_cases a1:decide (n<vars)=true
   ·by_cases a2:s.toList.isEmpty=true
    ·by_cases a3:((l.length:Int)==0)=true;·go_enter Tryz.func126,Tryz.ntmps126;go_wp2_with fail;go_ret;refine⟨_,rfl,HB0.o,true,rfl,?_⟩;rw[Tm.Mw];simp[a0,a1,a2,a3]
     ·have a3':((l.length:Int)==0)=false:=by simpa using a3
      clear a3;go_enter Tryz.func126,Tryz.ntmps126;go_wp2_with fail;go_ret;refine⟨_,rfl,HB0.o,false,rfl,?_⟩;rw[Tm.Mw];simp[a0,a1,a2,a3']
    ·have Gp:s.toList.isEmpty=false:=by simpa using a2
     clear a2;go_enter Tryz.func126,Tryz.ntmps126;go_wp2_with fail;go_ret;refine⟨_,rfl,HB0.o,false,rfl,?_⟩;rw[Tm.Mw];simp[a0,a1,Gp]
   ·have a1':decide (n<vars)=false:=by simpa using a1
    clear a1;go_enter Tryz.func126,Tryz.ntmps126;go_wp2_with fail;go_ret;refine⟨_,rfl,HB0.o,false,rfl,?_⟩;rw[Tm.Mw];simp[a0,a1']
  ·have a0':decide (0<=n)=false:=by simpa using a0
   clear a0;go_enter Tryz.func126,Tryz.ntmps126;go_wp2_with fail;go_ret;refine⟨_,rfl,HB0.o,false,rfl,?_⟩;rw[Tm.Mw];simp[a0']
 ·have k0':(k==0)=false:=by simpa using k0
  by_cases k1:k=1
  ·have k1':(k==1)=true:=by simpa using k1
   subst k1;clear k1';by_cases a0:(n==0)=true
   ·go_enter Tryz.func126,Tryz.ntmps126;go_wp2_with fail;refine(ad1 s _ hs).mono ?_;rintro e w1⟨r,rfl,hr,rfl⟩;have HR:=Y hr;clear hr;cases r with
     |false=>go_wp2_with fail;have hr:=HR.o;simp only[xe,false_iff]at hr;go_ret;refine⟨_,rfl,HB0.o,false,rfl,?_⟩;rw[Tm.Q9];simp[a0,hr]
     |true=>
      have hr:=HR.o;simp only[true_iff]at hr;have vK:=Y hr;clear hr HR;by_cases a2:((l.length:Int)==0)=true;·go_wp2_with fail;go_ret;refine⟨_,rfl,HB0.o,true,rfl,?_⟩;rw[Tm.Q9];simp[a0,vK.o,a2]
      ·have Gp:((l.length:Int)==0)=false:=by simpa using a2
       clear a2;go_wp2_with fail;go_ret;refine⟨_,rfl,HB0.o,false,rfl,?_⟩;rw[Tm.Q9];simp[a0,vK.o,Gp]
   ·have a0':(n==0)=false:=by simpa using a0
    clear a0;go_enter Tryz.func126,Tryz.ntmps126;go_wp2_with fail;go_ret;refine⟨_,rfl,HB0.o,false,rfl,?_⟩;rw[Tm.Q9];simp[a0']
  ·have k1':(k==1)=false:=by simpa using k1
   by_cases k2:k=2
   ·have k2':(k==2)=true:=by simpa using k2
    subst k2;clear k2';by_cases a0:decide (-1099511627776<=n)=true
    ·by_cases a1:decide (n<=1099511627776)=true
     ·by_cases a2:s.toList.isEmpty=true
      ·by_cases a3:((l.length:Int)==0)=true;·go_enter Tryz.func126,Tryz.ntmps126;go_wp2_with fail;go_ret;refine⟨_,rfl,HB0.o,true,rfl,?_⟩;rw[Tm.Mx];simp[a0,a1,a2,a3]
       ·have a3':((l.length:Int)==0)=false:=by simpa using a3
        clear a3;go_enter Tryz.func126,Tryz.ntmps126;go_wp2_with fail;go_ret;refine⟨_,rfl,HB0.o,false,rfl,?_⟩;rw[Tm.Mx];simp[a0,a1,a2,a3']
      ·have Gp:s.toList.isEmpty=false:=by simpa using a2
       clear a2;go_enter Tryz.func126,Tryz.ntmps126;go_wp2_with fail;go_ret;refine⟨_,rfl,HB0.o,false,rfl,?_⟩;rw[Tm.Mx];simp[a0,a1,Gp]
     ·have a1':decide (n<=1099511627776)=false:=by simpa using a1
      clear a1;go_enter Tryz.func126,Tryz.ntmps126;go_wp2_with fail;go_ret;refine⟨_,rfl,HB0.o,false,rfl,?_⟩;rw[Tm.Mx];simp[a0,a1']
    ·have a0':decide (-1099511627776<=n)=false:=by simpa using a0
     clear a0;go_enter Tryz.func126,Tryz.ntmps126;go_wp2_with fail;go_ret;refine⟨_,rfl,HB0.o,false,rfl,?_⟩;rw[Tm.Mx];simp[a0']
   ·have k2':(k==2)=false:=by simpa using k2
    by_cases k3:k=3
    ·have k3':(k==3)=true:=by simpa using k3
     subst k3;clear k3';by_cases a0:(n != 0)=false
     ·go_enter Tryz.func126,Tryz.ntmps126;go_wp2_with fail;refine(ad1 s _ hs).mono ?_;rintro e w1⟨r,rfl,hr,rfl⟩;have HR:=Y hr;clear hr;cases r with
       |false=>go_wp2_with fail;have hr:=HR.o;simp only[xe,false_iff]at hr;go_ret;refine⟨_,rfl,HB0.o,false,rfl,?_⟩;rw[Tm.Gn];simp[a0,hr]
       |true=>
        have hr:=HR.o;simp only[true_iff]at hr;have vK:=Y hr;clear hr HR;by_cases a2:(s.toList==[33])=false
        ·by_cases a3:decide ((l.length:Int)<1)=false
         ·by_cases a4:decide (4<(l.length:Int))=false
          ·go_wp2_with fail;go_loopw[99](fun q wr=>∃j:Nat,j<=l.length/\q= .int .i64 j/\Below w.heap.size w wr/\∀x(hx:x<j)(hl:j<=l.length),(l[x]'(by omega)).Good vars)(fun q _=>l.length - (intOf q).toNat);case atStart=>exact⟨0,dA _,rfl,HB0.o,fun x hx=>by omega⟩
           case round=>
            obtain⟨j,hj,rfl,hb,hp⟩:=hrel;have HB:=Y hb;have HP:=Y hp;have hz:=hb.size;clear hb hp;by_cases hlt:j<l.length
            ·obtain⟨rfl,bQ⟩:=HA.o (by omega);obtain⟨sa,sc,c0,c1,c2,c3,hr⟩:=lJ HE.o bQ (J.ob HB.o) hlt;have HC:=Y (IH.out _ (bN hlt) vars _ (wr.alloc _) _ Ra.o (Tm.ae.1 _ _ _ _ _ hr (J.alloc _ _ (.cells (#[.int .i64 l[j].kind,.int .i64 l[j].n,.string l[j].s,.slice sa l[j].args.length sc]:Array Value) 34))));clear hr;go_wp2_with fail;refine(HC.o).mono ?_;rintro e w1⟨v,rfl,hb1,r,rfl,hr⟩;have HR:=Y hr;have HB1:=Y ((HB.o.alloc hz _).trans (hb1.mono (by simp;omega)));clear hr hb1 HC c0 c1 c2 c3;cases r with
              |false=>go_wp2_with fail;go_ret;refine⟨_,rfl,HB1.o,false,rfl,?_⟩;rw[Tm.Gn];have hr:=HR.o;simp only[xe,false_iff]at hr ⊢;exact fun⟨_,_,_,_,_,h⟩=>hr (h _ (bN hlt))
              |true=>
               go_wp2_with fail;go_roundw;case rel=>
                refine⟨j+1,by omega,by go_num,HB1.o,fun x hx _=>?_⟩;by_cases hxj:x=j;·subst hxj;simpa using HR.o
                ·exact HP.o x (by omega) hj
               case measure=>simp[intOf];omega
            ·have :j=l.length:=by omega
             subst this;go_wp2_with fail;go_ret;refine⟨_,rfl,HB.o,true,rfl,?_⟩;rw[Tm.Gn];simp only[true_iff];refine⟨a0,vK.o,a2,a3,a4,fun t ht=>?_⟩;obtain⟨x,hx,rfl⟩:=vH.1 ht;exact HP.o x hx (zL _)
          ·have a4':decide (4<(l.length:Int))=true:=by simpa using a4
           clear a4;go_wp2_with fail;go_ret;refine⟨_,rfl,HB0.o,false,rfl,?_⟩;rw[Tm.Gn];simp[a0,vK.o,a2,a3,a4']
         ·have a3':decide ((l.length:Int)<1)=true:=by simpa using a3
          clear a3;go_wp2_with fail;go_ret;refine⟨_,rfl,HB0.o,false,rfl,?_⟩;rw[Tm.Gn];simp[a0,vK.o,a2,a3']
        ·have Gp:(s.toList==[33])=true:=by simpa using a2
         clear a2;go_wp2_with fail;go_ret;refine⟨_,rfl,HB0.o,false,rfl,?_⟩;rw[Tm.Gn];simp[a0,vK.o,Gp]
     ·have a0':(n != 0)=true:=by simpa using a0
      clear a0;go_enter Tryz.func126,Tryz.ntmps126;go_wp2_with fail;go_ret;refine⟨_,rfl,HB0.o,false,rfl,?_⟩;rw[Tm.Gn];simp[a0']
    ·have k3':(k==3)=false:=by simpa using k3
     have K:=Y (show ¬(k=0\/k=1\/k=2\/k=3)by simp[k0,k1,k2,k3]);clear k0 k1 k2 k3;go_enter Tryz.func126,Tryz.ntmps126;go_wp2_with fail;go_ret;refine⟨_,rfl,HB0.o,false,rfl,?_⟩;simp only[xe,false_iff];exact fun h=>K.out (by simpa[Tm.kind]using Tm.anH h)
theorem anJ:∀t,WU t:=by intro t;induction t using Tm.induct with|h k n s l ih=>exact anI k n s l ih
def WV(t:Tm):Prop:=∀(A:Nat->Prop)(w:World)(vs:List Value),t.nodes<=1099511627776->Tm.rep A w t vs->Calls Tryz.prog 127 #[.agg vs.toArray] w (Pure w fun v _=>v= .int .i64 t.nodes)
theorem anK(k n:Int)(s:ByteArray)(l:List Tm)(ih:∀t∈l,WV t):WV (.mk k n s l):=by
 intro A w vs hnd hv;rw[Tm.jv]at hv;obtain⟨hk,hn,hs,v,rfl,hl⟩:=hv;obtain⟨a,cap,b,off,rfl,hlc,hcm,hlb,ha,he⟩:=hl.at;have HE:=Y he;have HA:=Y ha;have IH:=Y ih;simp only[Tm.nodes]at hnd;have nG:=Y hnd;have HB0:=Y (show Below w.heap.size w (w.alloc (.cells #[.int .i64 k,.int .i64 n,.string s,.slice a l.length cap] 34))from iO (Z _ _));clear he ha hl ih hnd;go_enter Tryz.func127,Tryz.ntmps127;go_wp2_with fail;go_loopw[3,9](fun m q wr=>∃j:Nat,j<=l.length/\q= .int .i64 j/\m= .int .i64 ((1+Tm.aC (l.take j):Nat):Int)/\Below w.heap.size w wr)(fun _ q _=>l.length - (intOf q).toNat);case atStart=>exact⟨0,dA _,rfl,by simp[Tm.aC],HB0.o⟩
 case round=>
  obtain⟨j,hj,rfl,rfl,hb⟩:=hrel;have HB:=Y hb;have hz:=hb.size;clear hb;by_cases hlt:j<l.length
  ·obtain⟨rfl,bQ⟩:=HA.o (by omega);obtain⟨sa,sc,c0,c1,c2,c3,hr⟩:=lJ HE.o bQ (J.ob HB.o) hlt;have hn1:=Tm.anD l j hlt;have hn2:=nG.o;have hb1:Tm.aC (l.take j)+l[j].nodes<=1099511627776:=by omega
   have HS:Hd (Tm.aC (l.take (j+1))=Tm.aC (l.take j)+l[j].nodes):=by rw[iq hlt,Tm.Jn];simp[Hd,Tm.aC]
   have HC:=Y (IH.out _ (bN hlt) _ (wr.alloc _) _ (by omega) (Tm.ae.1 _ _ _ _ _ hr (J.alloc _ _ (.cells (#[.int .i64 l[j].kind,.int .i64 l[j].n,.string l[j].s,.slice sa l[j].args.length sc]:Array Value) 34))));clear hr hn1 hn2;go_wp2_with fail;refine(HC.o).mono ?_;rintro e w1⟨v,rfl,hb1,rfl⟩;have HB1:=Y ((HB.o.alloc hz _).trans (hb1.mono (by simp;omega)));clear hb1 HC c0 c1 c2 c3;go_wp2_with fail;go_roundw;case rel=>exact⟨j+1,by omega,by go_num,by rw[HS.o];congr 1;omega,HB1.o⟩
   case measure=>simp[intOf];omega
  ·have :j=l.length:=by omega
   subst this;go_wp2_with fail;go_ret;refine⟨_,rfl,HB.o,?_⟩;rw[nQ];simp only[Tm.nodes];show Value.int .i64 _=_;congr 1;omega
theorem anL:∀t,WV t:=by intro t;induction t using Tm.induct with|h k n s l ih=>exact anK k n s l ih
structure Ce where
  kind : Int
  n : Int
  s : ByteArray
  deriving DecidableEq, Inhabited
def Av{α:Type}(f:α->List Value)(ok:α->Prop)(_:Nat->Prop)(_:World)(x:α)(vs:List Value):Prop:=ok x/\vs=f x
theorem Ee{α:Type}{f:α->List Value}{ok:α->Prop}(h1:∀x,∀u∈f x,u.oneCell'=true):iy (Av f ok):=⟨fun A w w' x vs h _=>h,fun A A' w x vs h _=>h,fun A w x vs h=>by obtain⟨_,rfl⟩:=h;exact h1 x⟩
def Ce.vals(c:Ce):List Value:=[.int .i64 c.kind,.int .i64 c.n,.string c.s]
def Ce.Ok(c:Ce):Prop:=ah c.kind/\ah c.n/\c.s.size<=1048576
def Ce.rep:(Nat->Prop)->World->Ce->List Value->Prop:=Av Ce.vals Ce.Ok
theorem Ce.ae:iy Ce.rep:=Ee fun x=>by simp[Ce.vals,Value.oneCell']
def Ci(n:Int):List Value:=[.int .i64 n]
def sM:(Nat->Prop)->World->Int->List Value->Prop:=Av Ci ah
theorem aN:iy sM:=Ee fun x=>by simp[Ci,Value.oneCell']
def ad9(b:Bool):List Value:=[.bool b]
abbrev sN:=ag 3 Ce.rep
abbrev gX:=ag 1 sM
structure Hp where
  cells : List Ce
  trail : List Int
  deriving DecidableEq, Inhabited
def Hp.rep(A:Nat->Prop)(w:World)(h:Hp)(vs:List Value):Prop:=∃c t,vs=[c,t]/\sN A w h.cells c/\gX A w h.trail t
theorem Hp.ae:iy Hp.rep:=by
 refine⟨fun A w w' x vs h hk=>?_,fun A A' w x vs h hA=>?_,fun A w x vs h=>?_⟩;·obtain⟨c,t,rfl,hc,ht⟩:=h;exact⟨c,t,rfl,hc.keeps Ce.ae hk,ht.keeps aN hk⟩
 ·obtain⟨c,t,rfl,hc,ht⟩:=h;exact⟨c,t,rfl,hc.mono Ce.ae (by omega) hA,ht.mono aN (by omega) hA⟩
 ·obtain⟨c,t,rfl,hc,ht⟩:=h;obtain⟨_,_,_,_,rfl,_⟩:=hc.at;obtain⟨_,_,_,_,rfl,_⟩:=ht.at;simp[Value.oneCell']
theorem Hp.rep.keeps{A:Nat->Prop}{w w':World}{h:Hp}{vs:List Value}(hh:Hp.rep A w h vs)(hk:J A w w'):Hp.rep A w' h vs:=Hp.ae.1 _ _ _ _ _ hh hk
theorem Hp.rep.below{A:Nat->Prop}{w w':World}{h:Hp}{vs:List Value}(hh:Hp.rep A w h vs)(hk:Below w.heap.size w w'):Hp.rep A w' h vs:=hh.keeps (J.ob hk)
theorem Hp.rep.mono{A A':Nat->Prop}{w:World}{h:Hp}{vs:List Value}(hh:Hp.rep A w h vs)(hA:∀b,b<w.heap.size->A b->A' b):Hp.rep A' w h vs:=Hp.ae.2.1 _ _ _ _ _ hh hA
theorem Hp.nS{A:Nat->Prop}{w:World}{h:Hp}{vs:List Value}(hh:Hp.rep A w h vs):∃a cap b aH,vs=[.slice a h.cells.length cap,.slice b h.trail.length aH]/\h.cells.length<=cap/\cap<=maxLen/\h.cells.length<=1048576/\h.trail.length<=aH/\aH<=maxLen/\h.trail.length<=1048576/\sN A w h.cells (.slice a h.cells.length cap)/\gX A w h.trail (.slice b h.trail.length aH):=by obtain⟨c,t,rfl,hc,ht⟩:=hh;obtain⟨a,cap,_,_,rfl,h1,h2,h3, -⟩:=hc.at;obtain⟨b,aH,_,_,rfl,h4,h5,h6, -⟩:=ht.at;exact⟨a,cap,b,aH,rfl,h1,h2,h3,h4,h5,h6,hc,ht⟩
theorem anM{w:World}{b off:Nat}{v0 v1 v2:Value}(h:qJ w b off [v0,v1,v2]):w.cell? ⟨b,off,none⟩=some v0/\w.cell? ⟨b,off+1,none⟩=some v1/\w.cell? ⟨b,off+2,none⟩=some v2:=⟨h 0 _ rfl,h 1 _ rfl,h 2 _ rfl⟩
theorem yG{A:Nat->Prop}{w wr:World}{l:List Ce}{b off:Nat}(he:nE A w 3 Ce.rep l b off)(hA:A b)(hk:J A w wr){k:Nat}(hlt:k<l.length):wr.cell? ⟨b,off+k*3,none⟩=some (.int .i64 l[k].kind)/\wr.cell? ⟨b,off+k*3+1,none⟩=some (.int .i64 l[k].n)/\wr.cell? ⟨b,off+k*3+2,none⟩=some (.string l[k].s)/\ah l[k].kind/\ah l[k].n/\l[k].s.size<=1048576:=by obtain⟨vs,hvl,⟨⟨h1,h2,h3⟩,rfl⟩,hrow⟩:=he k _ (aJ hlt);obtain⟨c0,c1,c2⟩:=anM (qJ.keeps hA hrow hk);exact⟨c0,c1,c2,h1,h2,h3⟩
theorem Ef{A:Nat->Prop}{w wr:World}{l:List Int}{b off:Nat}(he:nE A w 1 sM l b off)(hA:A b)(hk:J A w wr){k:Nat}(hlt:k<l.length):wr.cell? ⟨b,off+k,none⟩=some (.int .i64 l[k])/\ah l[k]:=by obtain⟨vs,hvl,⟨h1,rfl⟩,hrow⟩:=he k _ (aJ hlt);have :=(qJ.keeps hA hrow hk) 0 _ rfl;exact⟨by simpa using this,h1⟩
theorem Ce.ext'{a b:Ce}(h1:a.kind=b.kind)(h2:a.n=b.n)(h3:a.s.toList=b.s.toList):a=b:=by obtain⟨k,n,s⟩:=a;obtain⟨k',n',s'⟩:=b;simp only at h1 h2 h3;subst h1;subst h2;congr 1;exact Q5 h3
def Ce.fU(n i:Nat)(c:Ce):Prop:=(c.kind=0/\0<=c.n/\c.n<n/\c.s.toList=[])\/(c.kind=1/\c.n=0/\c.s.toList≠[])\/(c.kind=2/\c.s.toList=[])\/(c.kind=3/\1<=c.n/\c.n<=4/\(i:Int)+c.n<n/\c.s.toList≠[])
def iH(l:List Ce):Prop:=∀(i:Nat)(h:i<l.length),(l[i]).fU l.length i
def anN(l:List Ce)(t:List Int):Prop:=∀(j:Nat)(h:j<t.length),∃v:Nat,t[j]=(v:Int)/\∃hv:v<l.length,(l[v]).kind=0
def Hp.Good(h:Hp):Prop:=iH h.cells/\anN h.cells h.trail/\h.cells.length<=65536/\h.trail.length<=65536
def cellAt(l:List Ce)(a:Int):Ce:=(l[a.toNat]?).getD default
theorem jR{l:List Ce}{k:Nat}(h:k<l.length):cellAt l (k:Int)=l[k]:=by unfold cellAt;rw[dF,aJ h];rfl
def Stop(l:List Ce)(a:Int):Prop:=(cellAt l a).kind≠0\/(cellAt l a).n=a
instance(l:List Ce)(a:Int):Decidable (Stop l a):=by unfold Stop;infer_instance
def Inb(l:List Ce)(a:Int):Prop:=0<=a/\a<l.length
instance(l:List Ce)(a:Int):Decidable (Inb l a):=by unfold Inb;infer_instance
def qK(l:List Ce):Nat->Int->Int|0,_=> -1|k+1,a=>if ¬Inb l a then -1 else if Stop l a then a else qK l k (cellAt l a).n
def look(l:List Ce)(a:Int):Int:=qK l (l.length+1) a
inductive Looks (l : List Ce) : Int → Int → Prop where
  | stop {a : Int} : Inb l a → Stop l a → Looks l a a
  | next {a x : Int} : Inb l a → ¬ Stop l a → Looks l (cellAt l a).n x → Looks l a x
theorem Looks.end_{l:List Ce}{a x:Int}(h:Looks l a x):Inb l x/\Stop l x:=by induction h with|stop h1 h2=>exact⟨h1,h2⟩|next _ _ _ ih=>exact ih
theorem Looks.oV{l:List Ce}{a x:Int}(h:Looks l a x):0<=x:=h.end_.1.1
theorem Looks.start{l:List Ce}{a x:Int}(h:Looks l a x):Inb l a:=by cases h<;>assumption
theorem Looks.MC{l:List Ce}{a x y:Int}(h:Looks l a x)(h':Looks l a y):x=y:=by induction h with
 |stop h1 h2=>cases h' with|stop=>rfl|next _ h=>exact absurd h2 h
 |next h1 h2 _ ih=>cases h' with|stop _ h=>exact absurd h h2|next _ _ h=>exact ih h
theorem aea{l:List Ce}:∀(k:Nat)(a:Int),0<=qK l k a->Looks l a (qK l k a)
 |0,a,h=>by simp[qK]at h
 |k+1,a,h=>by
  unfold qK at h ⊢;by_cases h1:Inb l a
  ·by_cases h2:Stop l a;·simp only[h1,h2,not_true,if_false,if_true];exact .stop h1 h2
   ·simp only[h1,h2,not_true,if_false]at h ⊢;exact .next h1 h2 (aea k _ h)
  ·simp[h1]at h
theorem WW:∀(n:Nat)(s:List Int),s.Nodup->(∀x∈s,0<=x/\x<n)->s.length<=n
 |0,s,_,h=>by cases s with|nil=>simp|cons x r=>have :=h x (by simp);omega
 |n+1,s,hn,h=>by have h1:=WW n (s.erase (n:Int)) (hn.erase _) (fun x hx=>by have h2:=(List.Nodup.mem_erase_iff hn).1 hx;have h3:=h x h2.2;omega);have h4:=@ana Int _ _ (n:Int) s;split at h4<;>omega
def Way(l:List Ce)(a:Int)(s:List Int)(b:Int):Prop:=s.Nodup/\(∀x∈s,Inb l x/\¬Stop l x/\((cellAt l x).n∈s\/(cellAt l x).n=b))/\(∀x,Looks l b x↔Looks l a x)/\(a∈s\/a=b)
theorem Way.start(l:List Ce)(a:Int):Way l a [] a:=⟨List.nodup_nil,fun x h=>by simp at h,fun x=>Mk,.inr rfl⟩
theorem Way.len{l:List Ce}{a b:Int}{s:List Int}(h:Way l a s b):s.length<=l.length:=WW _ s h.1 fun x hx=>(h.2.1 x hx).1
theorem Way.step{l:List Ce}{a b:Int}{s:List Int}(h:Way l a s b)(hb:b∉s)(h1:Inb l b)(h2:¬Stop l b):Way l a (s++[b]) (cellAt l b).n:=by
 refine⟨?_,?_,?_,?_⟩;·rw[am9];refine⟨h.1,by simp,?_⟩;intro x hx y hy e;simp at hy;subst hy;subst e;exact hb hx
 ·intro x hx;rw[iw]at hx;rcases hx with hx|hx
  ·obtain⟨k1,k2,k3⟩:=h.2.1 x hx;refine⟨k1,k2,?_⟩;rcases k3 with k3|k3;·exact .inl (by simp[k3])
   ·exact .inl (by simp[k3])
  ·simp at hx;subst hx;exact⟨h1,h2,.inr rfl⟩
 ·intro x;rw[<-h.2.2.1 x];refine⟨fun k=> .next h1 h2 k,fun k=>?_⟩;cases k with|stop _ k=>exact absurd k h2|next _ _ k=>exact k
 ·rcases h.2.2.2 with k|k;·exact .inl (by simp[k])
  ·exact .inl (by simp[k])
theorem anO{l:List Ce}{s:List Int}(h:∀x∈s,Inb l x/\¬Stop l x/\(cellAt l x).n∈s){a x:Int}(hl:Looks l a x):a∉s:=by induction hl with|stop h1 h2=>exact fun hm=>(h _ hm).2.1 h2|next h1 h2 _ ih=>exact fun hm=>ih (h _ hm).2.2
theorem Way.again{l:List Ce}{a b:Int}{s:List Int}(h:Way l a s b)(hb:b∈s)(x:Int):¬Looks l a x:=by
 rw[<-h.2.2.1 x];intro hl;exact anO (s:=s) (fun y hy=>by
  obtain⟨k1,k2,k3⟩:=h.2.1 y hy;refine⟨k1,k2,?_⟩;rcases k3 with k3|k3;·exact k3
  ·rw[k3];exact hb) hl hb
theorem aeb{l:List Ce}:∀(k:Nat)(a b:Int)(s:List Int),Way l a s b->b∉s->s.length+k=l.length+1->∀x,Looks l a x->qK l k b=x
 |0,a,b,s,hw,hb,hk,x,hl=>by have :=hw.len;omega
 |k+1,a,b,s,hw,hb,hk,x,hl=>by
  have hl':=(hw.2.2.1 x).2 hl;unfold qK;have h1:=hl'.start;simp only[h1,not_true,if_false];by_cases h2:Stop l b;·simp only[h2,if_true];exact(Looks.stop h1 h2).MC hl'
  ·simp only[h2,if_false];have hw2:=hw.step hb h1 h2;have hnot:(cellAt l b).n∉s++[b]:=fun hm=>hw2.again hm x hl;exact aeb k a _ _ hw2 hnot (by simp;omega) x hl
theorem jw{l:List Ce}{a x:Int}(h:Looks l a x):look l a=x:=aeb _ a a [] (Way.start l a) (by simp) (by simp) x h
theorem anP{l:List Ce}{a x:Int}(h0:0<=x):look l a=x↔Looks l a x:=by refine⟨fun h=>?_,jw⟩;have :=aea (l:=l) (l.length+1) a (by unfold look at h;omega);unfold look at h;rw[h]at this;exact this
theorem aec{l:List Ce}:∀(k:Nat)(a:Int), -1<=qK l k a
 |0,a=>by simp[qK]
 |k+1,a=>by
  unfold qK;split;·omega
  ·split;·rename_i h _;have :=h;unfold Inb at this;omega
   ·exact aec k _
theorem Rb(l:List Ce)(a:Int): -1<=look l a:=aec _ _
theorem WX{l:List Ce}{a:Int}(h:0<=look l a):Looks l a (look l a):=(anP h).1 rfl
theorem ME{l:List Ce}{a:Int}(h:0<=look l a):Inb l (look l a)/\Stop l (look l a):=(WX h).end_
def argsAt(a:Int)(n:Int):List Int:=(List.range n.toNat).map fun i=>a+1+(i:Nat)
def bG(l:List Ce)(v:Int):Nat->List Int->Bool×Int|w,[]=>(false,w)|0,_::_=>(false, -1)|w+1,z::r=>if look l z<0 then(false, -1)else if(cellAt l (look l z)).kind=0 then(if look l z=v then(true,w)else bG l v w r)else if(cellAt l (look l z)).kind=3 then bG l v w (argsAt (look l z) (cellAt l (look l z)).n++r)else bG l v w r
theorem Jo(l:List Ce)(v:Int)(w:Nat):bG l v w []=(false,(w:Int)):=by cases w<;>rfl
theorem Jp(l:List Ce)(v:Int):∀(w:Nat)(s:List Int),(bG l v w s).2<=w/\ -1<=(bG l v w s).2
 |w,[]=>by rw[Jo];exact⟨qI _,by simp only;omega⟩
 |0,z::r=>by simp[bG]
 |w+1,z::r=>by
  unfold bG;have h1:=Jp l v w r;have h2:=Jp l v w (argsAt (look l z) (cellAt l (look l z)).n++r);split;·simp;omega
  ·split
   ·split;·simp;omega
    ·omega
   ·split<;>omega
theorem MF(l:List Ce)(v:Int):∀(w:Nat)(s r:List Int),bG l v w (s++r)=if(bG l v w s).1=true\/(bG l v w s).2<0 then bG l v w s else bG l v (bG l v w s).2.toNat r
 |w,[],r=>by simp[Jo];omega
 |0,z::s,r=>by simp[bG]
 |w+1,z::s,r=>by
  rw[oO];rw[bG.eq_def l v (w+1) (z::(s++r)),bG.eq_def l v (w+1) (z::s)];simp only;have h1:=MF l v w s r;have h2:=MF l v w (argsAt (look l z) (cellAt l (look l z)).n++s) r;rw[Ao]at h2;split;·simp
  ·split
   ·split;·simp
    ·exact h1
   ·split;·exact h2
    ·exact h1
theorem MH(l:List Ce)(v:Int):∀(w:Nat)(s:List Int),(bG l v w s).1=true->0<=(bG l v w s).2
 |w,[],h=>by rw[Jo]at h ⊢;simp at h
 |0,z::r,h=>by simp[bG]at h
 |w+1,z::r,h=>by
  unfold bG at h ⊢;have h1:=MH l v w r;have h2:=MH l v w (argsAt (look l z) (cellAt l (look l z)).n++r);split at h;·simp at h
  ·rename_i k1;simp only[k1,if_false];split at h
   ·rename_i k2;simp only[k2,if_true];split at h;·rename_i k3;simp only[k3,if_true];omega
    ·rename_i k3;simp only[k3,if_false];exact h1 h
   ·rename_i k2;simp only[k2,if_false];split at h;·rename_i k3;simp only[k3,if_true];exact h2 h
    ·rename_i k3;simp only[k3,if_false];exact h1 h
structure Un where
  ok : Bool
  cells : List Ce
  trail : List Int
  work : Int
  deriving DecidableEq, Inhabited
def fB(l:List Ce)(v a:Int):List Ce:=l.modify v.toNat fun c=>{c with n:=a}
def aU(w:Nat)(s:List (Int×Int))(l:List Ce)(t:List Int):Un:=match w,s with|w,[]=>⟨true,l,t,w⟩|0,_::_=>⟨false,l,t, -1⟩|w+1,(a,b)::r=>let x:=look l a;let y:=look l b;if x<0\/y<0 then⟨false,l,t, -1⟩else if(cellAt l x).kind=0/\(cellAt l y).kind=0 then(if x=y then aU w r l t else aU w r (fB l (max x y) (min x y)) (t++[max x y]))else if(cellAt l x).kind=0\/(cellAt l y).kind=0 then let v:=if(cellAt l y).kind=0 then y else x;let z:=if(cellAt l y).kind=0 then x else y;let p:=bG l v w [z];if p.1=true\/p.2<0 then⟨false,l,t,p.2⟩else aU (min w p.2.toNat) r (fB l v z) (t++[v])else if cellAt l x≠cellAt l y then⟨false,l,t,w⟩else if(cellAt l x).kind=3 then aU w ((argsAt x (cellAt l x).n).zip (argsAt y (cellAt l x).n)++r) l t else aU w r l t termination_by w decreasing_by all_goals omega
theorem Jq(w:Nat)(l:List Ce)(t:List Int):aU w [] l t=⟨true,l,t,w⟩:=by cases w<;>simp[aU]
theorem MI(p:Int×Int)(r:List (Int×Int))(l:List Ce)(t:List Int):aU 0 (p::r) l t=⟨false,l,t, -1⟩:=by simp[aU]
theorem aed : ∀ (w : Nat) (s : List (Int × Int)) (l : List Ce) (t : List Int),(aU w s l t).work ≤ w ∧ -1 ≤ (aU w s l t).work ∧ ((aU w s l t).ok = true → 0 ≤ (aU w s l t).work) :=by
 intro w;induction w using Nat.strongRecOn with
  | _ w ih=>
   intro s l t;match w,s,ih with
    | w,[],_=>rw [Jq];exact ⟨qI _,by simp only;omega,fun _=>by simp only;omega⟩
    | 0,_ :: _,_=>simp [MI]
    | w + 1,(a,b) :: r,ih=>
     have ih' : ∀ w' ≤ w,∀ (s : List (Int × Int)) (l : List Ce) (t : List Int),(aU w' s l t).work ≤ (w + 1 : Nat) ∧ -1 ≤ (aU w' s l t).work ∧ ((aU w' s l t).ok = true → 0 ≤ (aU w' s l t).work) :=fun w' h s l t=>by obtain ⟨h1,h2,h3⟩ :=ih w' (by omega) s l t;exact ⟨by omega,h2,h3⟩
     rw [aU];simp only;split;·simp;omega
     ·split
      ·split;·exact ih' w (by omega) _ _ _
       ·exact ih' w (by omega) _ _ _
      ·split
       ·generalize hp : bG l (if (cellAt l (look l b)).kind = 0 then look l b else look l a) w [if (cellAt l (look l b)).kind = 0 then look l a else look l b] = p;have h1:=Jp l (if (cellAt l (look l b)).kind = 0 then look l b else look l a) w [if (cellAt l (look l b)).kind = 0 then look l a else look l b];rw [hp] at h1;split;·refine ⟨?_,?_,fun h=>by simp at h⟩ <;> simp only <;> omega
        ·exact ih' _ (by omega) _ _ _
       ·split;·refine ⟨?_,?_,fun h=>by simp at h⟩ <;> simp only <;> omega
        ·split;·exact ih' w (by omega) _ _ _
         ·exact ih' w (by omega) _ _ _
theorem aee:∀(w:Nat)(s r:List (Int×Int))(l:List Ce)(t:List Int),aU w (s++r) l t=if(aU w s l t).ok=true then aU (aU w s l t).work.toNat r (aU w s l t).cells (aU w s l t).trail else aU w s l t:=by
 intro w;induction w using Nat.strongRecOn with
  |_ w ih=>
   intro s r l t;match w,s,ih with
    |w,[],_=>simp[Jq]
    |0,_::_,_=>simp[MI]
    |w+1,(a,b)::s,ih=>
     rw[oO];rw[aU.eq_def (w+1) ((a,b)::(s++r)),aU.eq_def (w+1) ((a,b)::s)];simp only;split;·simp
     ·split
      ·split;·exact ih w (by omega) s r l t
       ·exact ih w (by omega) s r _ _
      ·split
       ·generalize bG l (if(cellAt l (look l b)).kind=0 then look l b else look l a) w [if(cellAt l (look l b)).kind=0 then look l a else look l b]=p;by_cases hp:p.1=true\/p.2<0;·rw[G hp,G hp];rfl
        ·rw[O hp,O hp];exact ih (min w p.2.toNat) (by omega) s r _ _
       ·split;·simp
        ·split;·rw[<-Ao];exact ih w (by omega) _ r l t
         ·exact ih w (by omega) s r l t
theorem MJ(l:List Ce)(v a:Int):(fB l v a).length=l.length:=by simp[fB]
theorem pX{l:List Ce}{a:Int}(h:Inb l a):∃k:Nat,a=(k:Int)/\∃hk:k<l.length,cellAt l a=l[k]:=by obtain⟨h1,h2⟩:=h;obtain⟨k,rfl⟩:=dH h1;exact⟨k,rfl,by omega,jR (by omega)⟩
theorem xn{l:List Ce}{v a y:Int}(hv:Inb l v)(hy:Inb l y):cellAt (fB l v a) y=if y=v then{cellAt l v with n:=a}else cellAt l y:=by
 obtain⟨k,rfl,hk,e1⟩:=pX hv;obtain⟨j,rfl,hj,e2⟩:=pX hy;rw[e1,e2,jR (by rw[MJ];exact hj)];simp only[fB,dF,Wl];by_cases h:k=j;·subst h;simp
 ·rw[O h,O (by omega)]
theorem Gq{l:List Ce}{v a y:Int}:Inb (fB l v a) y↔Inb l y:=by unfold Inb;rw[MJ]
def iI(l:List Ce)(v:Int):Prop:=Inb l v/\(cellAt l v).kind=0/\(cellAt l v).n=v
theorem iI.stop{l:List Ce}{v:Int}(h:iI l v):Stop l v:= .inr h.2.2
theorem Looks.free{l:List Ce}{a x:Int}(h:Looks l a x)(hk:(cellAt l x).kind=0):iI l x:=by
 obtain⟨h1,h2⟩:=h.end_;refine⟨h1,hk,?_⟩;rcases h2 with h2|h2;·exact absurd hk h2
 ·exact h2
theorem WY{l:List Ce}{v a x:Int}(hv:Inb l v)(hx:Inb l x)(hs:Stop l x)(hne:x≠v):Stop (fB l v a) x:=by unfold Stop at hs ⊢;rw[xn hv hx,O hne];exact hs
theorem Jr{l:List Ce}{v t:Int}(hv:iI l v)(ht:Inb l t)(hs:Stop l t)(hne:t≠v){a x:Int}(h:Looks l a x):Looks (fB l v t) a (if x=v then t else x):=by
 have Rc:Looks (fB l v t) t t:= .stop (Gq.2 ht) (WY hv.1 ht hs hne);induction h with
  |@stop a h1 h2=>
   by_cases e:a=v
   ·subst e;rw[G rfl];refine .next (Gq.2 h1) ?_ ?_;·unfold Stop;rw[xn hv.1 h1,G rfl];have :=hv.2.1;simp only;omega
    ·rw[xn hv.1 h1,G rfl];exact Rc
   ·rw[O e];exact .stop (Gq.2 h1) (WY hv.1 h1 h2 e)
  |@next a x h1 h2 _ ih=>
   have e:a≠v:=fun e=>h2 (e▸hv.stop);refine .next (Gq.2 h1) ?_ ?_;·unfold Stop at h2 ⊢;rw[xn hv.1 h1,O e];exact h2
   ·rw[xn hv.1 h1,O e];exact ih
theorem anQ{w:Nat}{a b:Int}{r:List (Int×Int)}{l:List Ce}{t:List Int}(h:(aU (w+1) ((a,b)::r) l t).ok=true):∃x y,Looks l a x/\Looks l b y/\((x=y/\(cellAt l x).kind=0/\aU (w+1) ((a,b)::r) l t=aU w r l t)\/(∃v z w',w'<=w/\((v=x/\z=y)\/(v=y/\z=x))/\iI l v/\Inb l z/\Stop l z/\z≠v/\aU (w+1) ((a,b)::r) l t=aU w' r (fB l v z) (t++[v]))\/((cellAt l x).kind≠0/\cellAt l x=cellAt l y/\(cellAt l x).kind=3/\aU (w+1) ((a,b)::r) l t=aU w ((argsAt x (cellAt l x).n).zip (argsAt y (cellAt l x).n)++r) l t)\/((cellAt l x).kind≠0/\cellAt l x=cellAt l y/\(cellAt l x).kind≠3/\aU (w+1) ((a,b)::r) l t=aU w r l t)):=by
 rw[aU]at h ⊢;simp only at h ⊢;by_cases h1:look l a<0\/look l b<0;·rw[G h1]at h;simp at h
 ·rw[O h1]at h ⊢;have hx:=WX (l:=l) (a:=a) (by omega);have hy:=WX (l:=l) (a:=b) (by omega);refine⟨look l a,look l b,hx,hy,?_⟩;generalize look l a=x at h h1 hx ⊢;generalize look l b=y at h h1 hy ⊢;by_cases h2:(cellAt l x).kind=0/\(cellAt l y).kind=0
  ·rw[G h2]at h ⊢;by_cases h3:x=y;·rw[G h3]at h ⊢;exact .inl ⟨h3,h2.1,rfl⟩
   ·rw[O h3]at h ⊢;refine .inr (.inl ⟨max x y,min x y,w,zL _,by omega,?_,?_,?_,by omega,rfl⟩)
    ·have :=hx.free h2.1;have :=hy.free h2.2;rcases Int.le_total x y with k|k;·rw[adL k];assumption
     ·rw[adP k];assumption
    ·rcases Int.le_total x y with k|k;·rw[adO k];exact hx.end_.1
     ·rw[adK k];exact hy.end_.1
    ·rcases Int.le_total x y with k|k;·rw[adO k];exact hx.end_.2
     ·rw[adK k];exact hy.end_.2
  ·rw[O h2]at h ⊢;by_cases h3:(cellAt l x).kind=0\/(cellAt l y).kind=0
   ·rw[G h3]at h ⊢;generalize bG l (if(cellAt l y).kind=0 then y else x) w [if(cellAt l y).kind=0 then x else y]=p at h ⊢;by_cases h4:p.1=true\/p.2<0;·rw[G h4]at h;simp at h
    ·rw[O h4]at h ⊢;refine .inr (.inl ⟨_,_,min w p.2.toNat,Nat.min_le_left _ _,?_,?_,?_,?_,?_,rfl⟩)
     ·by_cases h5:(cellAt l y).kind=0;·rw[G h5,G h5];exact .inr ⟨rfl,rfl⟩
      ·rw[O h5,O h5];exact .inl ⟨rfl,rfl⟩
     ·by_cases h5:(cellAt l y).kind=0;·simp only[h5,if_true];exact hy.free h5
      ·simp only[h5,if_false];exact hx.free (h3.resolve_right h5)
     ·split;·exact hx.end_.1
      ·exact hy.end_.1
     ·split;·exact hx.end_.2
      ·exact hy.end_.2
     ·by_cases h5:(cellAt l y).kind=0;·simp only[h5,if_true];rintro rfl;exact h2 ⟨h5,h5⟩
      ·simp only[h5,if_false];rintro rfl;exact h5 (h3.resolve_right h5)
   ·rw[O h3]at h ⊢;by_cases h4:cellAt l x≠cellAt l y;·rw[G h4]at h;simp at h
    ·rw[O h4]at h ⊢;have h4':cellAt l x=cellAt l y:=anc.1 h4;by_cases h5:(cellAt l x).kind=3;·rw[G h5];exact .inr (.inr (.inl ⟨fun e=>h3 (.inl e),h4',h5,rfl⟩))
     ·rw[O h5];exact .inr (.inr (.inr ⟨fun e=>h3 (.inl e),h4',h5,rfl⟩))
def iP(l:List Ce)(vs:List Int):List Ce:=l.mapIdx fun i c=>if(i:Int)∈vs then{c with n:=i}else c
theorem vL(l:List Ce)(vs:List Int):(iP l vs).length=l.length:=by simp[iP]
theorem aef(l:List Ce):iP l []=l:=by apply oN (by simp[iP]);intro i h1 h2;simp[iP]
theorem MK(l:List Ce)(vs:List Int)(i:Nat)(h:i<(iP l vs).length):(iP l vs)[i]=if(i:Int)∈vs then{(l[i]'(by rw[vL]at h;exact h))with n:=i}else l[i]'(by rw[vL]at h;exact h):=by simp[iP]
theorem anR(l:List Ce)(vs:List Int)(v:Int)(h0:0<=v)(us:List Int)(rF:∀x,x∈us↔x∈vs\/x=v):(iP l vs).modify v.toNat (fun c=>{c with n:=v})=iP l us:=by
 apply oN (by simp[iP]);intro i h1 h2;rw[Wl,MK,MK];by_cases e:v.toNat=i
 ·have :(i:Int)=v:=by omega
  rw[G e,G ((rF _).2 (.inr this))];subst this;split<;>rfl
 ·rw[O e];have h3:(i:Int)∈us↔(i:Int)∈vs:=by
   rw[rF];refine⟨fun h=>?_,.inl⟩;rcases h with h|h;·exact h
   ·omega
  by_cases h4:(i:Int)∈vs;·rw[G h4,G (h3.2 h4)]
  ·rw[O h4,O (fun h=>h4 (h3.1 h))]
def rG(l:List Ce)(vs:List Int)(l':List Ce):Prop:=l'.length=l.length/\∀(i:Nat)(h:i<l.length)(h':i<l'.length),((i:Int)∉vs/\l'[i]=l[i])\/((i:Int)∈vs/\(l[i]).kind=0/\(l[i]).n=i/\∃n:Int,0<=n/\n<l.length/\l'[i]={l[i]with n:=n})
theorem rG.refl(l:List Ce):rG l [] l:=⟨rfl,fun i _ _=> .inl ⟨by simp,rfl⟩⟩
theorem rG.step{l l':List Ce}{v z:Int}{vs:List Int}(hv:iI l v)(hz:Inb l z)(hzv:z≠v)(h:rG (fB l v z) vs l'):rG l (v::vs) l':=by
 obtain⟨h1,h2⟩:=h;rw[MJ]at h1;refine⟨h1,fun i hi hi'=>?_⟩;obtain⟨k,rfl,hk,e⟩:=pX hv.1;have h3:=hv.2;rw[e]at h3;have h4:=h2 i (by rw[MJ];exact hi) hi';simp only[fB,dF,Wl,List.length_modify]at h4;by_cases hik:k=i
 ·subst hik;simp only[if_true]at h4;have hm:(k:Int)∉vs->l'[k]={l[k]with n:=z}:=fun hn=>by
   rcases h4 with⟨_,h4⟩|⟨h4,_⟩;·exact h4
   ·exact absurd h4 hn
  by_cases hin:(k:Int)∈vs
  ·exfalso;rcases h4 with⟨h4,_⟩|⟨_,_,h4,_⟩;·exact h4 hin
   ·exact hzv h4
  ·exact .inr ⟨by simp,h3.1,h3.2,z,hz.1,hz.2,hm hin⟩
 ·simp only[hik,if_false]at h4;rcases h4 with⟨h4,h5⟩|⟨h4,h5⟩;·refine .inl ⟨?_,h5⟩;simp only[jr,h4,vI];omega
  ·exact .inr ⟨by simp[h4],h5⟩
theorem rG.good{l l':List Ce}{vs:List Int}(h:rG l vs l')(hg:iH l):iH l':=by
 intro i hi;have hi':i<l.length:=by rw[<-h.1];exact hi
 have h1:=hg i hi';rw[h.1];rcases h.2 i hi' hi with⟨_,k2⟩|⟨_,k2,k3,n,k4,k5,k6⟩;·rw[k2];exact h1
 ·rw[k6];unfold Ce.fU at h1 ⊢;simp only;rcases h1 with h1|h1|h1|h1;·exact .inl ⟨h1.1,k4,k5,h1.2.2.2⟩
  ·omega
  ·omega
  ·omega
theorem rG.kind{l l':List Ce}{vs:List Int}(h:rG l vs l')(i:Nat)(hi:i<l.length)(hi':i<l'.length):(l'[i]).kind=(l[i]).kind:=by
 rcases h.2 i hi hi' with⟨_,k2⟩|⟨_,k2,k3,n,k4,k5,k6⟩;·rw[k2]
 ·rw[k6]
theorem Re:∀(w:Nat)(s:List (Int×Int))(l:List Ce)(t:List Int),(aU w s l t).ok=true->∃vs,(aU w s l t).trail=t++vs/\rG l vs (aU w s l t).cells/\(∀v∈vs,Inb l v)/\vs.length<=w:=by
 intro w;induction w using Nat.strongRecOn with
  |_ w ih=>
   intro s l t h;match w,s,ih,h with
    |w,[],_,_=>rw[Jq];exact⟨[],by simp,rG.refl l,by simp,by simp⟩
    |0,_::_,_,h=>rw[MI]at h;simp at h
    |w+1,(a,b)::r,ih,h=>
     obtain⟨x,y,hx,hy,⟨hxy,_,e⟩|⟨v,z,w',hw,hvz,h1,h2,h3,h4,e⟩|⟨hk,hc,h3,e⟩|⟨hk,hc,h3,e⟩⟩:=anQ h;·rw[e]at h ⊢;obtain⟨vs,k1,k2,k3,k4⟩:=ih w (by omega) _ _ _ h;exact⟨vs,k1,k2,k3,by omega⟩
     ·rw[e]at h ⊢;obtain⟨vs,k1,k2,k3,k4⟩:=ih w' (by omega) _ _ _ h;refine⟨v::vs,by rw[k1,Ao];rfl,k2.step h1 h2 h4,fun u hu=>?_,by simp;omega⟩;rcases jr.1 hu with rfl|hu;·exact h1.1
      ·exact Gq.1 (k3 u hu)
     ·rw[e]at h ⊢;obtain⟨vs,k1,k2,k3,k4⟩:=ih w (by omega) _ _ _ h;exact⟨vs,k1,k2,k3,by omega⟩
     ·rw[e]at h ⊢;obtain⟨vs,k1,k2,k3,k4⟩:=ih w (by omega) _ _ _ h;exact⟨vs,k1,k2,k3,by omega⟩
def eO(l:List Ce)(w:Nat)(s:List Int):Option (List Tm×Nat):=match w,s with|w,[]=>some ([],w)|0,_::_=>none|w+1,a::r=>let x:=look l a;let c:=cellAt l x;if x<0 then none else if c.kind=3 then match eO l w (argsAt x c.n)with|none=>none|some (ts,w1)=>match eO l (min w w1) r with|none=>none|some (rs,w2)=>some (.mk 3 0 c.s ts::rs,w2)else match eO l w r with|none=>none|some (rs,w2)=>some ((if c.kind=0 then .mk 0 x .empty []else .mk c.kind c.n c.s [])::rs,w2)termination_by w decreasing_by all_goals omega
theorem Cj(l:List Ce)(w:Nat):eO l w []=some ([],w):=by cases w<;>simp[eO]
theorem ML(l:List Ce)(a:Int)(r:List Int):eO l 0 (a::r)=none:=by simp[eO]
theorem Js(l:List Ce):∀(w:Nat)(s:List Int)(ts:List Tm)(w':Nat),eO l w s=some (ts,w')->w'<=w/\ts.length=s.length:=by
 intro w;induction w using Nat.strongRecOn with
  |_ w ih=>
   intro s ts w' h;match w,s,ih,h with
    |w,[],_,h=>rw[Cj]at h;simp at h;obtain⟨rfl,rfl⟩:=h;simp
    |0,_::_,_,h=>rw[ML]at h;cases h
    |w+1,a::r,ih,h=>
     rw[eO]at h;try simp only at h
     split at h;·simp at h
     ·split at h
      ·split at h;·simp at h
       ·rename_i _ _ Gr w1 h1;have k1:=ih w (by omega) _ _ _ h1;rw[F9 k1.1]at h;split at h;·simp at h
        ·rename_i _ rs w2 h2;have k2:=ih w1 (by omega) _ _ _ h2;simp only[bW,gI]at h;obtain⟨rfl,rfl⟩:=h;simp only[bn];omega
      ·split at h;·simp at h
       ·rename_i _ rs w2 h2;have k2:=ih w (by omega) _ _ _ h2;simp only[bW,gI]at h;obtain⟨rfl,rfl⟩:=h;simp only[bn];omega
theorem anS(a n:Int):(argsAt a n).length=n.toNat:=by simp[argsAt]
def Ck(l:List Ce)(i j:Nat):Prop:=((cellAt l i).kind=0/\(cellAt l i).n=j)\/((cellAt l i).kind=3/\i<j/\(j:Int)<=i+(cellAt l i).n)
inductive Reach (l : List Ce) (roots : List Int) : Nat → Prop where
  | root {i : Nat} : (i : Int) ∈ roots → i < l.length → Reach l roots i
  | step {i j : Nat} : Reach l roots i → Ck l i j → Reach l roots j
open Classical in noncomputable def marks(l:List Ce)(roots:List Int):List Bool:=(List.range l.length).map fun i=>decide (Reach l roots i)
theorem WZ(l:List Ce)(roots:List Int):(marks l roots).length=l.length:=by simp[marks]
theorem vM{l:List Ce}{roots:List Int}{i:Nat}(h:i<l.length):(marks l roots)[i]?=some true↔Reach l roots i:=by simp[marks,h]
theorem iH.leads{l:List Ce}(hg:iH l){i j:Nat}(hi:i<l.length)(h:Ck l i j):j<l.length:=by have h1:=hg i hi;unfold Ck at h;rw[jR hi]at h;unfold Ce.fU at h1;omega
theorem Reach.lt{l:List Ce}{roots:List Int}(hg:iH l){i:Nat}(h:Reach l roots i):i<l.length:=by induction h with|root _ h=>exact h|step _ h ih=>exact hg.leads ih h
theorem anT{l:List Ce}{roots:List Int}{M:Nat->Prop}(hr:∀i:Nat,(i:Int)∈roots->i<l.length->M i)(hc:∀i j,M i->Ck l i j->M j){i:Nat}(h:Reach l roots i):M i:=by induction h with|root h1 h2=>exact hr _ h1 h2|step _ h ih=>exact hc _ _ ih h
theorem anU{l:List Ce}{roots:List Int}(hg:iH l){m:List Bool}(hl:m.length=l.length)(hr:∀i:Nat,(i:Int)∈roots->i<l.length->m[i]?=some true)(hc:∀i j,m[i]?=some true->Ck l i j->m[j]?=some true)(hs:∀i,m[i]?=some true->Reach l roots i):m=marks l roots:=by
 apply oN (by rw[hl,WZ]);intro i h1 h2;have h3:i<l.length:=by rw[<-hl];exact h1
 have h4:=vM (roots:=roots) h3;rw[aJ h2]at h4;by_cases h:Reach l roots i;·have h5:=anT (M:=fun i=>m[i]?=some true) hr hc h;rw[aJ h1]at h5;have h6:=h4.2 h;simp only[bW]at h5 h6;rw[h5,h6]
 ·have h5:¬m[i]?=some true:=fun e=>h (hs i e);have h6:¬some (marks l roots)[i]=some true:=fun e=>h (h4.1 e);rw[aJ h1]at h5;simp only[bW,Bool.not_eq_true]at h5 h6;rw[h5,h6]
def cnt(m:List Bool):Nat->Nat|0=>0|k+1=>if m[k]?=some true then cnt m k+1 else cnt m k
theorem sO(m:List Bool):∀k,cnt m k<=k|0=>zL _|k+1=>by have :=sO m k;unfold cnt;split<;>omega
theorem cnt_mono(m:List Bool)(i:Nat):∀d,cnt m i<=cnt m (i+d)|0=>zL _|d+1=>by have :=cnt_mono m i d;rw[<-adQ,cnt];split<;>omega
theorem Jt{m:List Bool}{i j:Nat}(h:i<=j):cnt m i<=cnt m j:=by have :=cnt_mono m i (j - i);rw[show i+(j - i)=j by omega]at this;exact this
theorem cnt_lt{m:List Bool}{i j:Nat}(h:i<j)(hi:m[i]?=some true):cnt m i<cnt m j:=by have h1:=Jt (m:=m) (show i+1<=j from h);rw[cnt,G hi]at h1;omega
theorem anV{m:List Bool}(j:Nat):cnt m (m.length+j)=cnt m m.length:=by induction j with|zero=>rfl|succ j ih=>rw[<-adQ,cnt,O (by simp),ih]
theorem anW(m:List Bool)(k:Nat):cnt m (min k m.length)=cnt m k:=by
 by_cases h:k<=m.length;·rw[Je h]
 ·rw[F9 (by omega)];have :=anV (m:=m) (k - m.length);rw[show m.length+(k - m.length)=k by omega]at this;exact this.symm
theorem MP{m:List Bool}:∀(n j:Nat),j<cnt m n->∃i,i<n/\m[i]?=some true/\cnt m i=j
 |0,j,h=>by simp[cnt]at h
 |n+1,j,h=>by
  unfold cnt at h;split at h
  ·rename_i hm;by_cases hj:j<cnt m n;·obtain⟨i,h1,h2,h3⟩:=MP n j hj;exact⟨i,by omega,h2,h3⟩
   ·exact⟨n,by omega,hm,by omega⟩
  ·obtain⟨i,h1,h2,h3⟩:=MP n j h;exact⟨i,by omega,h2,h3⟩
def ahead(m:List Bool)(n:Int):Int:=cnt m n.toNat
def pY(m:List Bool)(c:Ce):Ce:=if c.kind=0 then{c with n:=ahead m c.n}else c
def ku(l:List Ce)(m:List Bool):Nat->List Ce|0=>[]|k+1=>if m[k]?=some true then ku l m k++[pY m (cellAt l k)]else ku l m k
def aP(m:List Bool)(t:List Int):List Bool:=t.map fun v=>(m[v.toNat]?).getD false
def kS(m:List Bool)(t:List Int):Nat->List Int|0=>[]|k+1=>if(aP m t)[k]?=some true then kS m t k++[ahead m ((t[k]?).getD 0)]else kS m t k
theorem rH(l:List Ce)(m:List Bool):∀k,(ku l m k).length=cnt m k|0=>rfl|k+1=>by have :=rH l m k;unfold ku cnt;split<;>simp[this]
theorem vN(m:List Bool)(t:List Int):∀k,(kS m t k).length=cnt (aP m t) k|0=>rfl|k+1=>by have :=vN m t k;unfold kS cnt;split<;>simp[this]
theorem aeg(l:List Ce)(m:List Bool):∀(k i:Nat),i<k->m[i]?=some true->(ku l m k)[cnt m i]?=some (pY m (cellAt l i))
 |k+1,i,h,hi=>by
  by_cases e:i=k;·subst e;rw[ku,G hi,yw (by rw[rH];exact zL _),rH];simp
  ·have ih:=aeg l m k i (by omega) hi;have hlt:cnt m i<(ku l m k).length:=by rw[rH];exact cnt_lt (by omega) hi
   rw[ku];split;·rw[vG hlt,ih]
   ·exact ih
theorem aeh(m:List Bool)(t:List Int):∀(k i:Nat),i<k->(aP m t)[i]?=some true->(kS m t k)[cnt (aP m t) i]?=some (ahead m ((t[i]?).getD 0))
 |k+1,i,h,hi=>by
  by_cases e:i=k;·subst e;rw[kS,G hi,yw (by rw[vN];exact zL _),vN];simp
  ·have ih:=aeh m t k i (by omega) hi;have hlt:cnt (aP m t) i<(kS m t k).length:=by rw[vN];exact cnt_lt (by omega) hi
   rw[kS];split;·rw[vG hlt,ih]
   ·exact ih
noncomputable def jy(h:Hp)(roots:List Int):Hp:=⟨ku h.cells (marks h.cells roots) h.cells.length,kS (marks h.cells roots) h.trail h.trail.length⟩
section
variable {h : Hp} {roots : List Int}
theorem Xa(i:Nat)(hi:i<h.cells.length)(hr:Reach h.cells roots i):cellAt (jy h roots).cells (cnt (marks h.cells roots) i)=pY (marks h.cells roots) (cellAt h.cells i):=by have h1:=aeg h.cells (marks h.cells roots) h.cells.length i hi ((vM hi).2 hr);unfold cellAt;rw[dF];show((ku h.cells (marks h.cells roots) h.cells.length)[_]?).getD default=_;rw[h1];rfl
theorem aei{j:Nat}(hj:j<(jy h roots).cells.length):∃i,i<h.cells.length/\Reach h.cells roots i/\cnt (marks h.cells roots) i=j:=by obtain⟨i,h1,h2,h3⟩:=MP h.cells.length j (by rw[<-rH h.cells];exact hj);exact⟨i,h1,(vM h1).1 h2,h3⟩
theorem MQ{i:Nat}(hi:i<h.cells.length)(hr:Reach h.cells roots i):cnt (marks h.cells roots) i<(jy h roots).cells.length:=by show _<(ku h.cells (marks h.cells roots) h.cells.length).length;rw[rH];exact cnt_lt hi ((vM hi).2 hr)
theorem MR(hg:iH h.cells){i:Nat}(hi:i<h.cells.length)(hr:Reach h.cells roots i)(hk:(cellAt h.cells i).kind=3):∀d:Nat,(d:Int)<=(cellAt h.cells i).n->cnt (marks h.cells roots) (i+1+d)=cnt (marks h.cells roots) i+1+d/\(0<d->Reach h.cells roots (i+d))
 |0,_=>by rw[rD,rD,cnt,G ((vM hi).2 hr)];exact⟨rfl,fun h=>absurd h (Nat.lt_irrefl _)⟩
 |d+1,hd=>by
  obtain⟨ih,_⟩:=MR hg hi hr hk d (by omega);have h1:Reach h.cells roots (i+(d+1)):= .step hr (.inr ⟨hk,by omega,by omega⟩);refine⟨?_,fun _=>h1⟩;rw[show i+1+(d+1)=(i+1+d)+1 by omega,cnt,G,ih];·omega
  ·rw[show i+1+d=i+(d+1)by omega];exact(vM (h1.lt hg)).2 h1
theorem aej(hg:h.Good):(jy h roots).Good:=by
 obtain⟨g1,g2,g3,g4⟩:=hg;refine⟨fun j hj=>?_,fun j hj=>?_,?_,?_⟩
 ·obtain⟨i,hi,hr,rfl⟩:=aei hj;have h1:=Xa (h:=h) i hi hr;rw[jR hj,jR hi]at h1;rw[h1];have h2:=g1 i hi;unfold Ce.fU at h2;unfold pY;rcases h2 with h2|h2|h2|h2
  ·rw[G h2.1];obtain⟨k,hk⟩:=dH h2.2.1;have hlead:Ck h.cells i k:= .inl (by rw[jR hi];exact⟨h2.1,hk⟩);have hr2:Reach h.cells roots k:= .step hr hlead;have :=MQ (h:=h) (hr2.lt g1) hr2;refine .inl ⟨h2.1,?_,?_,h2.2.2.2⟩;·simp only[ahead];omega
   ·simp only[ahead,hk,dF];omega
  ·rw[O (by omega)];exact .inr (.inl h2)
  ·rw[O (by omega)];exact .inr (.inr (.inl h2))
  ·rw[O (by omega)];refine .inr (.inr (.inr ⟨h2.1,h2.2.1,h2.2.2.1,?_,h2.2.2.2.2⟩));obtain⟨k,hk⟩:=dH (show 0<=h.cells[i].n by omega);obtain⟨a1,a2⟩:=MR (h:=h) g1 hi hr (by rw[jR hi];exact h2.1) (k - 1) (by rw[jR hi];omega);obtain⟨b1,b2⟩:=MR (h:=h) g1 hi hr (by rw[jR hi];exact h2.1) k (by rw[jR hi];omega);have hr2:=b2 (by omega);have :=MQ (h:=h) (hr2.lt g1) hr2;rw[show i+k=i+1+(k - 1)by omega,a1]at this;omega
 ·obtain⟨i,hi,hm,hc⟩:=MP h.trail.length j (by rw[<-vN];exact hj);have h1:=aeh (marks h.cells roots) h.trail h.trail.length i hi hm;rw[hc]at h1;have h2:(jy h roots).trail[j]?=some ((jy h roots).trail[j]):=aJ hj;have h3:(jy h roots).trail[j]?=some (ahead (marks h.cells roots) ((h.trail[i]?).getD 0)):=h1;rw[h3]at h2;simp only[bW]at h2;obtain⟨v,hv,hvl,hk⟩:=g2 i hi;rw[aJ hi,rC,hv]at h2;simp only[aP,xg,aJ hi,pW,hv,dF,bW]at hm;have hr:Reach h.cells roots v:=by refine(vM hvl).1 ?_;rw[aJ (by rw[WZ];exact hvl)]at hm ⊢;rw[rC]at hm;rw[hm]
  refine⟨cnt (marks h.cells roots) v,h2.symm,MQ hvl hr,?_⟩;have h4:=Xa (h:=h) v hvl hr;rw[jR (MQ hvl hr),jR hvl]at h4;rw[h4];unfold pY;rw[G hk];exact hk
 ·show(ku _ _ _).length<=_;rw[rH];have :=sO (marks h.cells roots) h.cells.length;omega
 ·show(kS _ _ _).length<=_;rw[vN];have :=sO (aP (marks h.cells roots) h.trail) h.trail.length;omega
end
def Eg(p:Prop)(r:Value)(_:World):Prop:=∃t,r= .bool t/\(t=true↔p)
def Rf(l:List Ce)(j:Nat):Prop:=∀k(hk:k<l.length),k<j->(l[k]).fU l.length k
def Rh(l:List Ce)(t:List Int)(j:Nat):Prop:=∀k(hk:k<t.length),k<j->∃v:Nat,t[k]=(v:Int)/\∃hv:v<l.length,(l[v]).kind=0
theorem Rf.next{l:List Ce}{j:Nat}(h:Rf l j)(hj:j<l.length)(ho:(l[j]).fU l.length j):Rf l (j+1):=fun k hk hkj=>by
 by_cases e:k=j;·subst e;exact ho
 ·exact h k hk (by omega)
theorem Rh.next{l:List Ce}{t:List Int}{j:Nat}(h:Rh l t j)(hj:j<t.length)(ho:∃v:Nat,t[j]=(v:Int)/\∃hv:v<l.length,(l[v]).kind=0):Rh l t (j+1):=fun k hk hkj=>by
 by_cases e:k=j;·subst e;exact ho
 ·exact h k hk (by omega)
theorem Eh(h:Hp)(A:Nat->Prop)(w:World)(vs:List Value)(hh:Hp.rep A w h vs):Calls Tryz.prog 59 #[.agg vs.toArray] w (Pure w (Eg h.Good)):=by
 obtain⟨a,cap,b,aH,rfl,hc1,hc2,hc3,ht1,ht2,ht3,hc,ht⟩:=Hp.nS hh;obtain⟨_,_,cb,rJ,e, -, -, -,ha,he⟩:=hc.at;simp only[cK,dx]at e;obtain⟨rfl,rfl⟩:=e;obtain⟨_,_,tb,Gs,e, -, -, -,hb,hf⟩:=ht.at;simp only[cK,dx]at e;obtain⟨rfl,rfl⟩:=e;have HE:=Y he;have HA:=Y ha;have xm:=Y hf;have Ju:=Y hb;clear hh hc ht he ha hf hb;go_enter Tryz.func59,Tryz.ntmps59;go_wp2_with fail;go_loopw[10](fun i wr=>∃j:Nat,j<=h.cells.length/\i= .int .i64 j/\Below (w.heap.size+1) (w.alloc (.cells #[.slice a h.cells.length cap,.slice b h.trail.length aH] 59)) wr/\Rf h.cells j)(fun i _=>h.cells.length - (intOf i).toNat);case atStart=>exact⟨0,dA _,rfl,Z _ _,fun k _ hk=>by omega⟩
 case round=>
  obtain⟨j,hj,rfl,hb,hpre⟩:=hrel;have HB:=Y hb;have HP:=Y hpre;have hz:=hb.size;simp only[bO]at hz;have hz':w.heap.size<wr.heap.size:=hz;clear hb hpre;by_cases hlt:j<h.cells.length
  ·obtain⟨rfl,bQ⟩:=HA.o (by omega);have hk2:J A w wr:=(J.alloc _ _ _).trans (J.ob (HB.o.mono (by simp)));obtain⟨c0,c1,c2,i0,i1,i2⟩:=yG HE.o bQ hk2 hlt;have f0:wr.cell? ⟨w.heap.size,0,none⟩=some (.slice (some ⟨cb,rJ,none⟩) h.cells.length cap):=by rw[HB.o.cell (by simp)];simp
   clear hk2;have hlb:cb<wr.heap.size:=iW wr _ c0;go_wp2_with fail;all_goals
    first
     |
      (
       go_roundw;case rel=>refine⟨j+1,by omega,by go_num,HB.o.alloc hz _,HP.o.next hlt ?_⟩;clear HE xm HA Ju HB HP;unfold Ce.fU;simp_all<;>omega
       case measure=>simp[intOf];omega)
     |(go_ret;refine⟨_,rfl,iO ((HB.o.alloc hz _).mono (by simp)),false,rfl,?_⟩;simp only[xe,false_iff];intro hg;have :=hg.1 j hlt;clear HE xm HA Ju HB HP;unfold Ce.fU at this;simp_all<;>omega)
     |go_ways
  ·have bZ:j=h.cells.length:=by omega
   have HJ:=Y bZ;clear bZ;have f0:wr.cell? ⟨w.heap.size,0,none⟩=some (.slice a h.cells.length cap):=by rw[HB.o.cell (by simp)];simp
   have f1:wr.cell? ⟨w.heap.size,1,none⟩=some (.slice b h.trail.length aH):=by rw[HB.o.cell (by simp)];simp
   obtain⟨w1,rfl⟩:∃x,x=wr:=⟨_,rfl⟩;go_wp2_with fail;go_loopw[80](fun i ws=>∃q:Nat,q<=h.trail.length/\i= .int .i64 q/\Below w1.heap.size w1 ws/\Rh h.cells h.trail q)(fun i _=>h.trail.length - (intOf i).toNat);case atStart=>exact⟨0,dA _,rfl,Z _ _,fun k _ hk=>by omega⟩
   case round=>
    obtain⟨q,hq,rfl,hb,hpre⟩:=hrel;have f0':=bc hb f0;have f1':=bc hb f1;clear f0 f1;have HB2:=Y hb;have qL:=Y hpre;have hzz:=hb.size;clear hb hpre;by_cases hlt2:q<h.trail.length
    ·obtain⟨rfl,anX⟩:=Ju.o (by omega);have hk2:J A w wr:=((J.alloc _ _ _).trans (J.ob (HB.o.mono (by simp)))).trans (J.ob HB2.o);have Gt:=Y hk2;obtain⟨d0,id0⟩:=Ef xm.o anX hk2 hlt2;have hq0:(0:Int)<=(q:Int):=zN _;have hq1:(q:Int)<(h.trail.length:Int):=by omega
     clear hk2;by_cases hin:0<=h.trail[q]/\h.trail[q]<h.cells.length
     ·obtain⟨v,hv⟩:=dH hin.1;have hvl:v<h.cells.length:=by omega
      have HV:=Y hv;rw[hv]at d0;clear hv hin id0;obtain⟨rfl,bQ⟩:=HA.o (by omega);obtain⟨c0,c1,c2,i0,i1,i2⟩:=yG HE.o bQ Gt.o hvl;have hv0:(0:Int)<=(v:Int):=zN _;have hv1:(v:Int)<(h.cells.length:Int):=by omega
      go_wp2_with fail;all_goals
       first
        |
         (
          go_roundw;case rel=>refine⟨q+1,by omega,by go_num,HB2.o,qL.o.next hlt2 ⟨v,HV.o,hvl,?_⟩⟩;clear HE xm HA Ju HB HP Gt HB2 qL HV HJ;simp_all<;>omega
          case measure=>simp[intOf];omega)
        |
         (
          go_ret;refine⟨_,rfl,iO ((HB.o.trans (HB2.o.mono hz)).mono (by simp)),false,rfl,?_⟩;simp only[xe,false_iff];intro hg;obtain⟨v',e1,e2,e3⟩:=hg.2.1 q hlt2;obtain rfl:v'=v:=by have :=HV.o;omega
          clear HE xm HA Ju HB HP Gt HB2 qL HV HJ;simp_all<;>omega)
        |go_ways
     ·go_wp2_with fail;all_goals go_ret;refine⟨_,rfl,iO ((HB.o.trans (HB2.o.mono hz)).mono (by simp)),false,rfl,?_⟩;simp only[xe,false_iff];intro hg;obtain⟨v',e1,e2,e3⟩:=hg.2.1 q hlt2;omega
    ·go_wp2_with fail;all_goals go_ret;refine⟨_,rfl,iO ((HB.o.trans (HB2.o.mono hz)).mono (by simp)),_,rfl,?_⟩;have :=HJ.o;refine Iff.trans (b:=h.cells.length<=65536/\h.trail.length<=65536) ?_ ⟨fun h1=>⟨fun i hi=>HP.o i hi (by omega),fun i hi=>qL.o i hi (by omega),h1.1,h1.2⟩,fun hg=>hg.2.2⟩;simp<;>omega
