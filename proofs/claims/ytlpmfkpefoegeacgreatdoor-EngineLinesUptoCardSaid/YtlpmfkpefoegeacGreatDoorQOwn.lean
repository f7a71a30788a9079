import Derived.Test.YtlpmfkpefoegeacGreatDoorQIsHeap
namespace Go.Proofs.YtlpmfkpefoegeacGreatDoor
set_option maxRecDepth 99999
set_option maxHeartbeats 0
set_option linter.all false
open Go.RowKit
section
variable {P : Program} {ops : Array Oper} {Q : Exit → Act → World → Prop}
def bS(ops:Array Oper)(k:Nat):Option Nat:=(ops[k]?).bind (·.dst)
def Il(ops:Array Oper)(i s:Nat):Bool:=(List.range ops.size).all fun k=>bS ops k != some s||waits ops k i
def ES(ops:Array Oper)(n:Nat):Bool:=(List.range ops.size).all fun k=>(match bS ops k with|some s=>decide (s<n)|none=>true)&&(List.range ops.size).all fun j=>j==k||bS ops j==none||bS ops j != bS ops k
theorem ET{k s:Nat}(h:bS ops k=some s):k<ops.size:=by unfold bS at h;cases hk:ops[k]? with|none=>rw[hk]at h;simp at h|some o=>exact(Ao.1 hk).1
theorem ahw{n:Nat}(h:ES ops n=true):(∀k s,bS ops k=some s->s<n)/\∀j k s,bS ops k=some s->bS ops j=some s->j=k:=by
 unfold ES at h;simp only[qx,kK,kI,yD,rG,LC]at h;refine⟨fun k s hk=>?_,fun j k s hk hj=>?_⟩;·have :=(h k (ET hk)).1;rw[hk]at this;simpa using this
 ·have :=(h k (ET hk)).2 j (ET hj);rcases this with(h1|h1)|h1;·exact h1
  ·rw[hj]at h1;cases h1
  ·rw[hj,hk]at h1;exact absurd rfl h1
def jv(f:Nat->Value):Nat->List Oper->Array Value->Array Value|_,[],t=>t|i,o::r,t=>jv f (i+1) r (match o.dst with|some s=>t.setIfInBounds s (f i)|none=>t)
theorem Ma(f:Nat->Value):∀(l:List Oper)(i:Nat)(t:Array Value),(jv f i l t).size=t.size|[],_,_=>rfl|o::r,i,t=>by unfold jv;rw[Ma f r];cases o.dst<;>simp
theorem Mc(f:Nat->Value)(s:Nat):∀(l:List Oper)(i:Nat)(t:Array Value),s<t.size->((∀(k:Nat)(o:Oper),l[k]?=some o->o.dst≠some s)->(jv f i l t)[s]?=t[s]?)/\(∀(k:Nat)(o:Oper),l[k]?=some o->o.dst=some s->(∀(j:Nat)(o':Oper),l[j]?=some o'->o'.dst=some s->j=k)->(jv f i l t)[s]?=some (f (i+k)))
 |[],_,_,_=>⟨fun _=>rfl,fun k o h=>by simp at h⟩
 |o::r,i,t,hs=>by
  unfold jv;have hs':s<(match o.dst with|some s=>t.setIfInBounds s (f i)|none=>t).size:=by cases o.dst<;>simpa using hs
  have ih:=Mc f s r (i+1) _ hs';refine⟨fun h=>?_,fun k o' hk hd hu=>?_⟩;·rw[ih.1 (fun k o' hk=>h (k+1) o' (by simpa using hk))];have h0:=h 0 o (by simp);cases hd:o.dst with|none=>rfl|some d=>simp only;rw[G5 (by rintro rfl;exact h0 hd)]
  ·cases k with|zero=>simp only[xm,cZ]at hk;subst hk;rw[ih.1 (fun j o' hj hd'=>by have :=hu (j+1) o' (by simpa using hj) hd';omega)];simp only[hd,qz];rw[GZ hs]|succ k=>rw[ih.2 k o' (by simpa using hk) hd (fun j o'' hj hd'=>by have :=hu (j+1) o'' (by simpa using hj) hd';omega)];congr 2;omega
def vJ(ops:Array Oper):Bool:=(List.range ops.size).all fun i=>((ops[i]?).map fun o=>o.after.all fun e=>!Region.binds .any e||decide (e.on<i)).getD true
theorem QO(h:vJ ops=true)(listed:Array Bool)(hls:listed.size=ops.size)(hr:Region.ready .any ops listed=[]):∀k,k<ops.size->listed.getD k false=true:=by
 intro k;induction k using Nat.strongRecOn with
  |_ k ih=>
   intro hk;have hlk:k<listed.size:=by omega
   cases hb:listed.getD k false with
    |true=>rfl
    |false=>
     exfalso;have :k∈Region.ready .any ops listed:=by
      refine mem_ready.2 ⟨?_,ops[k],rF hk,fun e he hbi=>?_⟩;·simp only[Array.getD,hlk,Ay]at hb ⊢;exact hb
      ·have hlt:e.on<k:=by unfold vJ at h;simp only[qx,kK]at h;have h1:=h k hk;rw[rF hk]at h1;simp only[nV,qw,arJ]at h1;have h2:=h1 e he;simp only[hbi,Bool.not_true,Bool.false_or,pF]at h2;exact h2
       exact ih e.on hlt (by omega)
     rw[hr]at this;cases this
structure YJ (ops : Array Oper) (Po : Nat → Value → World → Prop) (a0 : Act) (f : Nat → Value) (listed : Array Bool) (a : Act) (w : World) : Prop where
  defers : a.defers = a0.defers
  size : a.tmps.size = a0.tmps.size
  old : ∀ s, (∀ k, listed.getD k false = true → bS ops k ≠ some s) → a.tmps[s]? = a0.tmps[s]?
  new : ∀ k, k < ops.size → listed.getD k false = true → Po k (f k) w ∧ ∀ s, bS ops k = some s → a.tmps[s]? = some (f k)
  closed : ∀ k j, listed.getD k false = true → waits ops k j = true → listed.getD j false = true
theorem ahx{a0:Act}{Inv:World->Prop}{Po:Nat->Value->World->Prop}{Rl:Nat->World->World->Prop}(hd:ES ops a0.tmps.size=true)(hst:∀i j v w w',i≠j->waits ops i j=false->Po i v w->Rl j w w'->Po i v w')(hinv:∀j w w',Inv w->Rl j w w'->Inv w')(hop:∀i,i<ops.size->∀(f:Nat->Value)(a:Act)(w:World),Inv w->(∀k,waits ops i k=true->Po k (f k) w)->(∀k s,waits ops i k=true->bS ops k=some s->a.tmps[s]?=some (f k))->(∀s,Il ops i s=true->a.tmps[s]?=a0.tmps[s]?)->wpOp P ops Q i (fun a' w'=>∃v,a'=a.put (bS ops i) v/\Po i v w'/\Rl i w w') a w)(hend:∀(f:Nat->Value)(w:World),Inv w->(∀i,i<ops.size->Po i (f i) w)->Q .normal ⟨jv f 0 ops.toList a0.tmps,a0.defers⟩ w)(hbk:vJ ops=true):∀(fuel:Nat)(f:Nat->Value)(listed:Array Bool)(a:Act)(w:World),listed.size=ops.size->(listed.toList.filter (· ==false)).length<=fuel->Inv w->YJ ops Po a0 f listed a w->wpAny P .any ops Q fuel listed a w:=by
 obtain⟨hlt,AV⟩:=ahw hd;have close:∀(f:Nat->Value)(listed:Array Bool)(a:Act)(w:World),listed.size=ops.size->Inv w->YJ ops Po a0 f listed a w->Region.ready .any ops listed=[]->Q .normal a w:=by
  intro f listed a w hls hw hc hr;have hall:=QO hbk listed hls hr;have :a=⟨jv f 0 ops.toList a0.tmps,a0.defers⟩:=by
   obtain⟨t,d⟩:=a;have h1:=hc.defers;have h2:=hc.size;simp only at h1 h2;subst h1;congr 1;refine agr fun s=>?_;by_cases hs:s<a0.tmps.size
   ·have hg:=Mc f s ops.toList 0 a0.tmps hs;by_cases he:∃k,bS ops k=some s
    ·obtain⟨k,hk⟩:=he;have hkl:=ET hk;have e1:=(hc.new k hkl (hall k hkl)).2 s hk;simp only at e1;rw[e1];have hko:ops[k]?=some ops[k]:=rF hkl;have hkd:ops[k].dst=some s:=by unfold bS at hk;rw[hko]at hk;simpa using hk
     rw[hg.2 k ops[k] (by rw[pE];exact hko) hkd (fun j o' hj hd'=>AV j k s hk (by unfold bS;rw[<-pE,hj];simpa using hd'))];simp
    ·rw[hg.1 (fun k o hk hd'=>he ⟨k,by unfold bS;rw[<-pE,hk];simpa using hd'⟩)];exact hc.old s (fun k _ hk=>he ⟨k,hk⟩)
   ·rw[Cr (by omega),Cr (by rw[Ma];omega)]
  rw[this];exact hend f w hw fun i hi=>(hc.new i hi (hall i hi)).1
 intro fuel;induction fuel with
  |zero=>
   intro f listed a w hls hn hw hc;have hr:Region.ready .any ops listed=[]:=by
    refine List.eq_nil_iff_forall_not_mem.2 fun j hj=>?_;obtain⟨hjun,oj,hoj,_⟩:=mem_ready.1 hj;have hjl:j<listed.size:=by rw[hls];exact(Ao.1 hoj).1
    have :listed.toList.filter (· ==false)=[]:=G6.1 (by omega);rw[agf]at this;have h3:=this listed[j] (by simp);simp[Array.getD,hjl]at hjun;simp[hjun]at h3
   exact⟨hr,close f listed a w hls hw hc hr⟩
  |succ fuel ih=>
   intro f listed a w hls hn hw hc;refine⟨close f listed a w hls hw hc,fun i hi=>?_⟩;obtain⟨uj,oi,hoi,yO⟩:=mem_ready.1 hi;have hil:i<ops.size:=(Ao.1 hoi).1;have hw1:∀k,waits ops i k=true->listed.getD k false=true:=fun k hk=>by simp only[waits,hoi,nV,qw]at hk;obtain⟨e,he,hb⟩:=Qh.1 hk;simp only[kI,rG]at hb;rw[<-hb.2];exact yO e he hb.1
   have hkl:∀k,listed.getD k false=true->k<ops.size:=fun k hk=>by
    rw[<-hls];by_cases h:k<listed.size;·exact h
    ·simp[Array.getD,h]at hk
   have hif:listed.getD i false=false:=by
    have :i<listed.size:=by omega
    simp only[Array.getD,this,Ay]at uj ⊢;exact uj
   refine Qq ?_ (hop i hil f a w hw (fun k hk=>(hc.new k (hkl k (hw1 k hk)) (hw1 k hk)).1) (fun k s hk hs=>(hc.new k (hkl k (hw1 k hk)) (hw1 k hk)).2 s hs) (fun s hs=>hc.old s fun k hk=>?_))
   ·rintro a' w'⟨v,rfl,hp,hr⟩;have hset:∀k,(listed.setIfInBounds i true).getD k false=true->k=i\/(k≠i/\listed.getD k false=true):=fun k hk=>by
     by_cases hki:k=i;·exact .inl hki
     ·refine .inr ⟨hki,?_⟩;rwa[Ez false (EA hki)]at hk
    refine ih (fun k=>if k=i then v else f k) _ _ _ (by simpa using hls) ?_ (hinv _ _ _ hw hr) ⟨?_,?_,fun s hs=>?_,fun k hk hl=>?_,fun k j hk hj=>?_⟩
    ·have h1:i<listed.toList.length:=by simp;omega
     have h2:listed.toList[i]?=some false:=by
      have h3:i<listed.size:=by omega
      simp only[Array.getD,h3,Ay]at hif;rw[pE,rF h3];exact congrArg some hif
     have h4:∀(l:List Bool)(i:Nat),l[i]?=some false->((l.set i true).filter (· ==false)).length+1=(l.filter (· ==false)).length:=by intro l;induction l with|nil=>intro i h;simp at h|cons b r ihr=>intro i h;cases i with|zero=>simp only[xm,cZ]at h;subst h;simp|succ i=>have :=ihr i (by simpa using h);cases b<;>simp_all
     have h5:=h4 _ _ h2;rw[Xw];omega
    ·unfold Act.put;split<;>exact hc.defers
    ·unfold Act.put;split<;>simp[hc.size]
    ·have h1:bS ops i≠some s:=hs i (by rw[Lj,GZ (by omega)];rfl);rw[show(a.put (bS ops i) v).tmps[s]?=a.tmps[s]? by unfold Act.put;cases hdi:bS ops i with|none=>rfl|some d=>simp only;rw[G5 (by rintro rfl;exact h1 hdi)]];refine hc.old s fun k hk=>hs k ?_;by_cases hki:i=k;·subst hki;rw[hif]at hk;cases hk
     ·rwa[Ez false hki]
    ·rcases hset k hl with rfl|⟨hki,hk2⟩;·simp only[if_true];refine⟨hp,fun s hs=>?_⟩;unfold Act.put;rw[hs];simp only;rw[GZ (by rw[hc.size];exact hlt k s hs)]
     ·simp only[ae hki];obtain⟨h1,h2⟩:=hc.new k hk hk2;have hnw:waits ops k i=false:=by cases hwk:waits ops k i with|false=>rfl|true=>have :=hc.closed k i hk2 hwk;rw[hif]at this;cases this
      refine⟨hst _ _ _ _ _ hki hnw h1 hr,fun s hs=>?_⟩;unfold Act.put;cases hdi:bS ops i with|none=>exact h2 s hs|some d=>simp only;rw[G5 (by rintro rfl;exact hki (AV k i _ hdi hs))];exact h2 s hs
    ·have hj':listed.getD j false=true:=by
      rcases hset k hk with rfl|⟨_,hk2⟩;·exact hw1 j hj
      ·exact hc.closed k j hk2 hj
     by_cases hji:i=j;·subst hji;rw[hif]at hj';cases hj'
     ·rw[Ez false hji];exact hj'
   ·intro hks;unfold Il at hs;simp only[qx,kK,LC,yD]at hs;rcases hs k (hkl k hk)with h1|h1;·exact h1 hks
    ·have :=hc.closed k i hk h1;rw[hif]at this;cases this
theorem ahy{id:Nat}{a0:Act}{w0:World}{Inv:World->Prop}{Po:Nat->Value->World->Prop}{Rl:Nat->World->World->Prop}(hm:P.follows .mixedOrders=true)(hd:ES ops a0.tmps.size=true)(hbk:vJ ops=true)(h0:Inv w0.drew)(hst:∀i j v w w',i≠j->waits ops i j=false->Po i v w->Rl j w w'->Po i v w')(hinv:∀j w w',Inv w->Rl j w w'->Inv w')(hop:∀i,i<ops.size->∀(f:Nat->Value)(a:Act)(w:World),Inv w->(∀k,waits ops i k=true->Po k (f k) w)->(∀k s,waits ops i k=true->bS ops k=some s->a.tmps[s]?=some (f k))->(∀s,Il ops i s=true->a.tmps[s]?=a0.tmps[s]?)->wpOp P ops Q i (fun a' w'=>∃v,a'=a.put (bS ops i) v/\Po i v w'/\Rl i w w') a w)(hend:∀(f:Nat->Value)(w:World),Inv w->(∀i,i<ops.size->Po i (f i) w)->Q .normal ⟨jv f 0 ops.toList a0.tmps,a0.defers⟩ w):(Code.region id ops true).wp P Q a0 w0:=by
 have hno:∀k,(Array.replicate ops.size false).getD k false=false:=fun k=>by simp only[Lj,aga];split<;>rfl
 refine XQ hm (ahx hd hst hinv hop hend hbk ops.size (fun _=>undef) (Array.replicate ops.size false) a0 w0.drew (by simp) ?_ h0 ⟨rfl,rfl,fun _ _=>rfl,fun k _ hk=>?_,fun k j hk _=>?_⟩);·refine dM (List.length_filter_le _ _) (by simp)
 ·rw[hno]at hk;cases hk
 ·rw[hno]at hk;cases hk
def aP(P:Program)(ev:Operand->Value)(o:Oper)(w:World)(R:Value->World->Prop):Prop:=match(execOp ev o).run P w with| .ok (.value v) w'=>R v w'| .ok .skip w'=>R undef w'| .ok (.enter f args) w'=>Calls P f args w' fun e w''=>∃v,e= .returned v/\R v w''| .ok (.row row args) w'=>Rows P row args w' fun v w''=>R v w''|_=>False
theorem QP{i:Nat}{o:Oper}{a:Act}{w:World}{R:Value->World->Prop}(hi:ops[i]?=some o)(h:(Region.wanted o (yielded ops a.tmps)=true/\aP P a.eval o w R)\/(Region.wanted o (yielded ops a.tmps)=false/\R undef w)):wpOp P ops Q i (fun a' w'=>∃v,a'=a.put (bS ops i) v/\R v w') a w:=by
 have hd:bS ops i=o.dst:=by simp[bS,hi]
 unfold Go.wpOp;simp only[hi];rw[hd];rcases h with⟨hw,h⟩|⟨hw,h⟩
 ·rw[ah hw];left;unfold Oper.wp;unfold aP at h;generalize(execOp a.eval o).run P w=r at*;cases r with
   |ok n w'=>
    cases n<;>simp only[Oper.upon]at h ⊢;case value v=>exact⟨v,rfl,h⟩
    case skip=>exact⟨_,rfl,h⟩
    case enter f args=>exact h.mono fun e w'' he=>by obtain⟨v,rfl,hr⟩:=he;exact⟨v,rfl,hr⟩
    case row row args=>exact Rows.mono h fun u w'' he=>⟨u,rfl,he⟩
   |halt x w'=>cases x<;>simp only at h
 ·rw[ae (by simp[hw])];exact⟨_,rfl,h⟩
theorem aR{o:Oper}{f:Nat->Option Bool}(h:o.guard=none):Region.wanted o f=true:=by simp[Region.wanted,h]
theorem YK{id:Nat}{a0:Act}{w0:World}{Inv:World->Prop}{Po:Nat->Value->World->Prop}{Rl:Nat->World->World->Prop}(hm:P.follows .mixedOrders=true)(hd:ES ops a0.tmps.size=true)(hbk:vJ ops=true)(h0:Inv w0.drew)(hst:∀i j v w w',i≠j->waits ops i j=false->Po i v w->Rl j w w'->Po i v w')(hinv:∀j w w',Inv w->Rl j w w'->Inv w')(hop:∀i o,ops.toList[i]?=some o->∀(f:Nat->Value)(a:Act)(w:World),Inv w->(∀k,waits ops i k=true->Po k (f k) w)->(∀k s,waits ops i k=true->bS ops k=some s->a.tmps[s]?=some (f k))->(∀s,Il ops i s=true->a.tmps[s]?=a0.tmps[s]?)->(Region.wanted o (yielded ops a.tmps)=true/\aP P a.eval o w (fun v w'=>Po i v w'/\Rl i w w'))\/(Region.wanted o (yielded ops a.tmps)=false/\Po i undef w/\Rl i w w))(hend:∀(f:Nat->Value)(w:World),Inv w->(∀i,i<ops.size->Po i (f i) w)->Q .normal ⟨jv f 0 ops.toList a0.tmps,a0.defers⟩ w):(Code.region id ops true).wp P Q a0 w0:=ahy hm hd hbk h0 hst hinv (fun i hi f a w h1 h2 h3 h4=>QP (rF hi) (hop i _ (by rw[pE,rF hi]) f a w h1 h2 h3 h4)) hend
theorem YL{id:Nat}{a0:Act}{w0:World}{Inv:World->Prop}{Po:Nat->Value->World->Prop}{Rl:World->World->Prop}(hm:P.follows .mixedOrders=true)(hd:ES ops a0.tmps.size=true)(hbk:vJ ops=true)(h0:Inv w0.drew)(hst:∀i v w w',Po i v w->Rl w w'->Po i v w')(hinv:∀w w',Inv w->Rl w w'->Inv w')(hop:∀i o,ops.toList[i]?=some o->∀(f:Nat->Value)(a:Act)(w:World),Inv w->(∀k,waits ops i k=true->Po k (f k) w)->(∀k s,waits ops i k=true->bS ops k=some s->a.tmps[s]?=some (f k))->(∀s,Il ops i s=true->a.tmps[s]?=a0.tmps[s]?)->(Region.wanted o (yielded ops a.tmps)=true/\aP P a.eval o w (fun v w'=>Po i v w'/\Rl w w'))\/(Region.wanted o (yielded ops a.tmps)=false/\Po i undef w/\Rl w w))(hend:∀(f:Nat->Value)(w:World),Inv w->(∀i,i<ops.size->Po i (f i) w)->Q .normal ⟨jv f 0 ops.toList a0.tmps,a0.defers⟩ w):(Code.region id ops true).wp P Q a0 w0:=YK (Rl:=fun _=>Rl) hm hd hbk h0 (fun i _ v w w' _ _=>hst i v w w') (fun _=>hinv) hop hend
end
section
variable {P : Program} {ops : Array Oper} {Q : Exit → Act → World → Prop}
def Md(ops:Array Oper)(L:Nat):Bool:=decide (L<=ops.size)&&(List.range ops.size).all fun i=>decide (i<L)||(List.range L).all fun k=>waits ops i k
def yP(ops:Array Oper)(L s:Nat):Bool:=(List.range L).all fun k=>bS ops k != some s
def EU(ops:Array Oper)(L n:Nat):Bool:=(List.range L).all fun k=>(match bS ops k with|some s=>decide (s<n)|none=>true)&&(List.range L).all fun j=>j==k||bS ops j==none||bS ops j != bS ops k
theorem YM{L n:Nat}(h:EU ops L n=true):(∀k s,k<L->bS ops k=some s->s<n)/\∀j k s,j<L->k<L->bS ops k=some s->bS ops j=some s->j=k:=by
 unfold EU at h;simp only[qx,kK,kI,yD,rG,LC]at h;refine⟨fun k s kZ hk=>?_,fun j k s Im kZ hk hj=>?_⟩;·have :=(h k kZ).1;rw[hk]at this;simpa using this
 ·have :=(h k kZ).2 j Im;rcases this with(h1|h1)|h1;·exact h1
  ·rw[hj]at h1;cases h1
  ·rw[hj,hk]at h1;exact absurd rfl h1
structure Io (ops : Array Oper) (L : Nat) (Po : Nat → Value → World → Prop) (a0 : Act) (f : Nat → Value) (listed : Array Bool) (a : Act) (w : World) : Prop where
  defers : a.defers = a0.defers
  size : a.tmps.size = a0.tmps.size
  old : ∀ s, (∀ k, listed.getD k false = true → bS ops k ≠ some s) → a.tmps[s]? = a0.tmps[s]?
  new : ∀ k, k < L → listed.getD k false = true → Po k (f k) w ∧ ∀ s, bS ops k = some s → a.tmps[s]? = some (f k)
  front : ∀ k, listed.getD k false = true → k < L
theorem ahz{L:Nat}{a0:Act}{Inv:World->Prop}{Po:Nat->Value->World->Prop}{Rl:World->World->Prop}(ht:Md ops L=true)(hd:EU ops L a0.tmps.size=true)(hst:∀i v w w',Po i v w->Rl w w'->Po i v w')(hinv:∀w w',Inv w->Rl w w'->Inv w')(hop:∀i,i<L->∀(f:Nat->Value)(a:Act)(w:World),Inv w->(∀k,waits ops i k=true->Po k (f k) w)->(∀k s,waits ops i k=true->bS ops k=some s->a.tmps[s]?=some (f k))->(∀s,yP ops L s=true->a.tmps[s]?=a0.tmps[s]?)->wpOp P ops Q i (fun a' w'=>∃v,a'=a.put (bS ops i) v/\Po i v w'/\Rl w w') a w)(hend:∀(f:Nat->Value)(w:World),Inv w->(∀i,i<L->Po i (f i) w)->wpAny P .any ops Q (ops.size - L) (List.replicate L true++List.replicate (ops.size - L) false).toArray ⟨jv f 0 (ops.toList.take L) a0.tmps,a0.defers⟩ w)(hbk:vJ ops=true):∀(fuel:Nat)(f:Nat->Value)(listed:Array Bool)(a:Act)(w:World),listed.size=ops.size->(listed.toList.filter (· ==false)).length=fuel->Inv w->Io ops L Po a0 f listed a w->wpAny P .any ops Q fuel listed a w:=by
 obtain⟨hlt,AV⟩:=YM hd;unfold Md at ht;simp only[kI,pF,qx,kK,yD]at ht;obtain⟨hL,QQ⟩:=ht;have close:∀(fuel:Nat)(f:Nat->Value)(listed:Array Bool)(a:Act)(w:World),listed.size=ops.size->(listed.toList.filter (· ==false)).length=fuel->Inv w->Io ops L Po a0 f listed a w->(∀k,k<L->listed.getD k false=true)->wpAny P .any ops Q fuel listed a w:=by
  intro fuel f listed a w hls hn hw hc hall;have hl:listed=(List.replicate L true++List.replicate (ops.size - L) false).toArray:=by
   apply Array.ext;·simp;omega
   ·intro i h1 h2;have h3:listed.getD i false=listed[i]:=by simp[Array.getD,h1]
    by_cases hi:i<L;·have h4:=hall i hi;rw[h3]at h4;rw[h4];simp only[Xy];rw[Eo (by simpa using hi)];simp
    ·have h4:listed[i]=false:=by cases hx:listed[i]with|false=>rfl|true=>exact absurd (hc.front i (by rw[h3];exact hx)) hi
     rw[h4];simp only[Xy];rw[Ll (by simp;omega)];simp
  have hf:fuel=ops.size - L:=by rw[<-hn,hl];simp
  have :a=⟨jv f 0 (ops.toList.take L) a0.tmps,a0.defers⟩:=by
   obtain⟨t,d⟩:=a;have h1:=hc.defers;have h2:=hc.size;simp only at h1 h2;subst h1;congr 1;refine agr fun s=>?_;have hto:∀(k:Nat)(o:Oper),(ops.toList.take L)[k]?=some o->k<L/\ops[k]?=some o:=fun k o hk=>by have hkl:=(iO.1 hk).1;simp only[dS]at hkl;rw[vz (by omega),pE]at hk;exact⟨by omega,hk⟩
   by_cases hs:s<a0.tmps.size
   ·have hg:=Mc f s (ops.toList.take L) 0 a0.tmps hs;by_cases he:∃k,k<L/\bS ops k=some s
    ·obtain⟨k,kZ,hk⟩:=he;have hkl:=ET hk;have e1:=(hc.new k kZ (hall k kZ)).2 s hk;simp only at e1;rw[e1];have hko:ops[k]?=some ops[k]:=rF hkl;have hkd:ops[k].dst=some s:=by unfold bS at hk;rw[hko]at hk;simpa using hk
     rw[hg.2 k ops[k] (by rw[vz kZ,pE];exact hko) hkd (fun j o' hj hd'=>by obtain⟨Im,hj'⟩:=hto j o' hj;exact AV j k s Im kZ hk (by unfold bS;rw[hj'];simpa using hd'))];simp
    ·rw[hg.1 (fun k o hk hd'=>by obtain⟨kZ,hk'⟩:=hto k o hk;exact he ⟨k,kZ,by unfold bS;rw[hk'];simpa using hd'⟩)];exact hc.old s (fun k hkl hk=>he ⟨k,hc.front k hkl,hk⟩)
   ·rw[Cr (by omega),Cr (by rw[Ma];omega)]
  rw[this,hl,hf];exact hend f w hw fun i hi=>(hc.new i hi (hall i hi)).1
 intro fuel;induction fuel with
  |zero=>
   intro f listed a w hls hn hw hc;refine close 0 f listed a w hls hn hw hc fun k hk=>?_;have h0:listed.toList.filter (· ==false)=[]:=G6.1 hn;rw[agf]at h0;have h1:k<listed.size:=by omega
   have h3:=h0 listed[k] (by simp);simp[Array.getD,h1];simpa using h3
  |succ fuel ih=>
   intro f listed a w hls hn hw hc;by_cases hall:∀k,k<L->listed.getD k false=true;·exact close _ f listed a w hls hn hw hc hall
   have hex:∃k0,k0<L/\listed.getD k0 false=false:=by refine Cq fun hne=>hall fun k hk=>?_;cases hx:listed.getD k false with|true=>rfl|false=>exact absurd ⟨k,hk,hx⟩ hne
   obtain⟨k0,hk0,YN⟩:=hex;refine⟨fun hr=>?_,fun i hi=>?_⟩;·have :=QO hbk listed hls hr k0 (by omega);rw[YN]at this;cases this
   obtain⟨uj,oi,hoi,yO⟩:=mem_ready.1 hi;have hil:i<ops.size:=(Ao.1 hoi).1;have hw1:∀k,waits ops i k=true->listed.getD k false=true:=fun k hk=>by simp only[waits,hoi,nV,qw]at hk;obtain⟨e,he,hb⟩:=Qh.1 hk;simp only[kI,rG]at hb;rw[<-hb.2];exact yO e he hb.1
   have uk:i<L:=by
    refine Cq fun hge=>?_;rcases QQ i hil with h1|h1;·exact hge h1
    ·have :=hw1 k0 (h1 k0 hk0);rw[YN]at this;cases this
   have hif:listed.getD i false=false:=by
    have :i<listed.size:=by omega
    simp only[Array.getD,this,Ay]at uj ⊢;exact uj
   refine Qq ?_ (hop i uk f a w hw (fun k hk=>(hc.new k (hc.front k (hw1 k hk)) (hw1 k hk)).1) (fun k s hk hs=>(hc.new k (hc.front k (hw1 k hk)) (hw1 k hk)).2 s hs) (fun s hs=>hc.old s fun k hk=>?_))
   ·rintro a' w'⟨v,rfl,hp,hr⟩;have hset:∀k,(listed.setIfInBounds i true).getD k false=true->k=i\/(k≠i/\listed.getD k false=true):=fun k hk=>by
     by_cases hki:k=i;·exact .inl hki
     ·refine .inr ⟨hki,?_⟩;rwa[Ez false (EA hki)]at hk
    refine ih (fun k=>if k=i then v else f k) _ _ _ (by simpa using hls) ?_ (hinv _ _ hw hr) ⟨?_,?_,fun s hs=>?_,fun k hk hl=>?_,fun k hk=>?_⟩
    ·have h2:listed.toList[i]?=some false:=by
      have h3:i<listed.size:=by omega
      simp only[Array.getD,h3,Ay]at hif;rw[pE,rF h3];exact congrArg some hif
     have h4:∀(l:List Bool)(i:Nat),l[i]?=some false->((l.set i true).filter (· ==false)).length+1=(l.filter (· ==false)).length:=by intro l;induction l with|nil=>intro i h;simp at h|cons b r ihr=>intro i h;cases i with|zero=>simp only[xm,cZ]at h;subst h;simp|succ i=>have :=ihr i (by simpa using h);cases b<;>simp_all
     have h5:=h4 _ _ h2;rw[Xw];omega
    ·unfold Act.put;split<;>exact hc.defers
    ·unfold Act.put;split<;>simp[hc.size]
    ·have h1:bS ops i≠some s:=hs i (by rw[Lj,GZ (by omega)];rfl);rw[show(a.put (bS ops i) v).tmps[s]?=a.tmps[s]? by unfold Act.put;cases hdi:bS ops i with|none=>rfl|some d=>simp only;rw[G5 (by rintro rfl;exact h1 hdi)]];refine hc.old s fun k hk=>hs k ?_;by_cases hki:i=k;·subst hki;rw[hif]at hk;cases hk
     ·rwa[Ez false hki]
    ·rcases hset k hl with rfl|⟨hki,hk2⟩;·simp only[if_true];refine⟨hp,fun s hs=>?_⟩;unfold Act.put;rw[hs];simp only;rw[GZ (by rw[hc.size];exact hlt k s hk hs)]
     ·simp only[ae hki];obtain⟨h1,h2⟩:=hc.new k hk hk2;refine⟨hst _ _ _ _ h1 hr,fun s hs=>?_⟩;unfold Act.put;cases hdi:bS ops i with|none=>exact h2 s hs|some d=>simp only;rw[G5 (by rintro rfl;exact hki (AV k i _ hk uk hdi hs))];exact h2 s hs
    ·rcases hset k hk with rfl|⟨_,hk2⟩;·exact uk
     ·exact hc.front k hk2
   ·intro hks;unfold yP at hs;simp only[qx,kK,LC]at hs;exact hs k (hc.front k hk) hks
theorem CL{i:Nat}{fuel:Nat}{listed:Array Bool}{a:Act}{w:World}(hr:Region.ready .any ops listed=[i])(h:wpOp P ops Q i (wpAny P .any ops Q fuel (listed.setIfInBounds i true)) a w):wpAny P .any ops Q (fuel+1) listed a w:=⟨fun h0=>(by rw[hr]at h0;cases h0),fun j hj=>(by rw[hr]at hj;simp only[iF]at hj;subst hj;exact h)⟩
theorem LF{listed:Array Bool}{a:Act}{w:World}(hr:Region.ready .any ops listed=[])(h:Q .normal a w):∀fuel,wpAny P .any ops Q fuel listed a w|0=>⟨hr,h⟩|_+1=>⟨fun _=>h,by rw[hr];simp⟩
theorem Me{id:Nat}(L:Nat){a0:Act}{w0:World}{Inv:World->Prop}{Po:Nat->Value->World->Prop}{Rl:World->World->Prop}(hm:P.follows .mixedOrders=true)(ht:Md ops L=true)(hd:EU ops L a0.tmps.size=true)(hbk:vJ ops=true)(h0:Inv w0.drew)(hst:∀i v w w',Po i v w->Rl w w'->Po i v w')(hinv:∀w w',Inv w->Rl w w'->Inv w')(hop:∀i o,(ops.toList.take L)[i]?=some o->∀(f:Nat->Value)(a:Act)(w:World),Inv w->(∀k,waits ops i k=true->Po k (f k) w)->(∀k s,waits ops i k=true->bS ops k=some s->a.tmps[s]?=some (f k))->(∀s,yP ops L s=true->a.tmps[s]?=a0.tmps[s]?)->(Region.wanted o (yielded ops a.tmps)=true/\aP P a.eval o w (fun v w'=>Po i v w'/\Rl w w'))\/(Region.wanted o (yielded ops a.tmps)=false/\Po i undef w/\Rl w w))(hend:∀(f:Nat->Value)(w:World),Inv w->(∀i,i<L->Po i (f i) w)->wpAny P .any ops Q (ops.size - L) (List.replicate L true++List.replicate (ops.size - L) false).toArray ⟨jv f 0 (ops.toList.take L) a0.tmps,a0.defers⟩ w):(Code.region id ops true).wp P Q a0 w0:=by
 have hno:∀k,(Array.replicate ops.size false).getD k false=false:=fun k=>by simp only[Lj,aga];split<;>rfl
 have hL:L<=ops.size:=by unfold Md at ht;simp only[kI,pF]at ht;exact ht.1
 refine XQ hm (ahz ht hd hst hinv (fun i hi f a w h1 h2 h3 h4=>?_) hend hbk ops.size (fun _=>undef) (Array.replicate ops.size false) a0 w0.drew (by simp) ?_ h0 ⟨rfl,rfl,fun _ _=>rfl,fun k _ hk=>?_,fun k hk=>?_⟩)
 ·have hil:i<ops.size:=by omega
  exact QP (rF hil) (hop i _ (by rw[vz hi,pE,rF hil]) f a w h1 h2 h3 h4)
 ·simp
 ·rw[hno]at hk;cases hk
 ·rw[hno]at hk;cases hk
end
theorem AX:mH Tryz.prog 56 112 3 32:= .mk' (z:= .agg #[.int .i64 0,.int .i64 0,.string .empty]) Tryz.underlying56 (by kernel_rfl) rfl (by omega) (by omega)
theorem je:mH Tryz.prog 57 3 1 8:= .mk' (z:= .int .i64 0) Tryz.underlying57 (by kernel_rfl) rfl (by omega) (by omega)
theorem ahA{P:Program}(w:World)(t ty e:TypeId)(i:TypeInfo)(ht:P.underlying t=some (.slice e))(hi:P.info? e=some i)(a b:Option Addr)(n cap c:Nat)(hn:n<=cap):(Builtin.append_ #[t,t] ty #[.slice a n cap,.slice b 0 c]).run P w= .ok (.slice a n cap) w:=by cases a<;>cases b<;>simp[Builtin.append_,run_underlying ht,sizeOf,typeInfo,hi,Builtin.lenOf,Builtin.firstCells,loadCells,loadCellsFrom,storeCells,hn]
section
variable {α : Type}
theorem grownBy_refl(w:World)(row:Option Nat):w.grownBy w row:=⟨rfl,rfl,rfl,zL _,fun _ _ _=>rfl⟩
theorem YO{P:Program}(w:World)(base:Nat)(t ty e:TypeId)(size bytes:Nat)(hty:mH P t e size bytes){R:(Nat->Prop)->World->α->List Value->Prop}(hR:gz R){A:Nat->Prop}(v:Value)(xs:List α)(hown:aI w base e size R A xs v)(x:Value)(ys:List α)(hx:aj size R (fun b=>A b/\ownB v≠some b) w ys x)(hlen:xs.length+ys.length<=4194304)(hbase:base<=w.heap.size):∃v' w',(Builtin.append_ #[t,t] ty #[v,x]).run P w= .ok v' w'/\aI w' base e size R A (xs++ys) v'/\iX w w' v v':=by
 obtain⟨⟨i,z,ht,hi,hz,h1,h2,h3⟩,h0,hb⟩:=hty;obtain⟨a,cap,b,off,rfl,hl1,hl2,hl3,ha,he⟩:=hx.at;by_cases hy:ys=[]
 ·subst hy;obtain⟨va,vc,rfl,mM⟩:=hown.val;have yQ:xs.length<=vc:=by
   obtain⟨vals,_,ho,_⟩:=hown;rcases ho.2 with⟨h4,_,h5⟩|⟨g,c,cur,h4,h5,h6,h7,h8,_⟩;·omega
   ·simp only[eX,fH]at h4;omega
  refine⟨_,w,ahA w t ty e i ht hi va a xs.length vc cap yQ,by simpa using hown,grownBy_refl _ _,.inl rfl⟩
 ·have hpos:0<ys.length:=XC.2 hy;obtain⟨rfl,hA⟩:=ha hpos;have hmul:(xs.length+ys.length)*bytes<=(xs.length+ys.length)*256:=agl _ hb;obtain⟨v',w',hr,k1,k2,k3⟩:=XW (P:=P) w base t ty e i z size bytes ht hi hz h1 h2 h3 h0 hR v xs hown b off cap ys he (by simp only[maxLen];omega) (by omega) hbase;exact⟨v',w',hr,k1,k2,k3⟩
theorem QR{P:Program}{w:World}{ops:Array Oper}{rest:List Oper}{o:Oper}{a:Act}{Q:Exit->Act->World->Prop}(hgd:o.guard=none)(s x:Operand)(t:TypeId)(ho:o.op= .call {callee:= .builtin .append,args:=#[s,x],argTypes:=#[t,t]})(base:Nat)(e:TypeId)(size bytes:Nat)(hty:mH P t e size bytes){R:(Nat->Prop)->World->α->List Value->Prop}(hR:gz R){A:Nat->Prop}(v:Value)(xs:List α)(hs:a.eval s=v)(hown:aI w base e size R A xs v)(xv:Value)(hxv:a.eval x=xv)(ys:List α)(hx:aj size R (fun b=>A b/\ownB v≠some b) w ys xv)(hlen:xs.length+ys.length<=4194304)(hbase:base<=w.heap.size)(h:∀v' w',aI w' base e size R A (xs++ys) v'->iX w w' v v'->wpList P ops Q rest (a.put o.dst v') w'):wpList P ops Q (o::rest) a w:=by refine wpList_plain hgd fun _ hK=>?_;obtain⟨v',w',hr,k1,k2⟩:=YO (P:=P) w base t o.type e size bytes hty hR v xs hown xv ys hx hlen hbase;unfold Oper.wp execOp;simp only[ho,resolve,invoke,builtin,Sem.run_bind,Sem.run_pure,agD,agB,qy,Aw,hs,hxv,hr];exact hK _ _ (h v' w' k1 k2)
end
section
variable {α : Type}
theorem Ip{f:α->List Value}{size:Nat}(hf:∀x,(f x).length=size)(l:List α):(l.flatMap f).length=l.length*size:=by induction l with|nil=>simp|cons x r ih=>rw[yB,bA,hf,ih,bn,nX];omega
theorem YP{f:α->List Value}{size:Nat}(hf:∀x,(f x).length=size):∀(l:List α)(i j:Nat)(hi:i<l.length),j<size->(l.flatMap f)[i*size+j]?=(f l[i])[j]?|x::l,0,j,hi,hj=>by rw[yB,Hf,kL,tV (by rw[hf];exact hj)];rfl|x::l,i+1,j,hi,hj=>by rw[yB,vw (by rw[hf,nX];omega),hf,show(i+1)*size+j - size=i*size+j by rw[nX];omega];exact YP hf l i j (by simpa using hi) hj
theorem YQ{f:α->List Value}{size:Nat}(hf:∀x,(f x).length=size)(y:α)(u:Value):∀(l:List α)(i j:Nat)(hi:i<l.length),j<size->f y=(f l[i]).set j u->(l.flatMap f).set (i*size+j) u=(l.set i y).flatMap f|x::l,0,j,hi,hj,hy=>by rw[yB,Hf,kL,List.set_append_left _ _ (by rw[hf];exact hj)];simp only[yx]at hy;rw[Cu,yB,hy]|x::l,i+1,j,hi,hj,hy=>by rw[yB,List.set_append_right _ _ (by rw[hf,nX];omega),hf,show(i+1)*size+j - size=i*size+j by rw[nX];omega,Aq,yB];rw[YQ hf y u l i j (by simpa using hi) hj (by simpa using hy)]
theorem YR{f:α->List Value}{size:Nat}(hf:∀x,(f x).length=size):∀(l:List α)(k:Nat),k<=l.length->(l.flatMap f).take (k*size)=(l.take k).flatMap f|l,0,_=>by simp|x::l,k+1,h=>by rw[yB,yA,yB,List.take_append,hf,jU (by rw[hf,nX];omega),show(k+1)*size - size=k*size by rw[nX];omega];rw[YR hf l k (by simpa using h)]
def af(f:α->List Value)(ok:α->Prop)(E:TypeId)(size:Nat)(w:World)(base:Nat)(l:List α)(v:Value):Prop:=Own w base E size v l.length (l.flatMap f)/\∀x∈l,ok x
variable {f : α → List Value} {ok : α → Prop} {E : TypeId} {size : Nat} {w : World} {base : Nat} {l : List α} {v : Value}
theorem af.nil:af f ok E size w base [] (.slice none 0 0):=⟨Own.nil w base E size,fun x h=>by simp at h⟩
theorem af.lt(h:af f ok E size w base l v):∀k,ownB v=some k->base<=k/\k<w.heap.size:=h.1.lt
theorem af.kept(h:af f ok E size w base l v){w':World}(hk:∀k,ownB v=some k->w'.heap[k]?=w.heap[k]?):af f ok E size w' base l v:=⟨h.1.kept hk,h.2⟩
theorem af.below(h:af f ok E size w base l v){w':World}(hk:Below w.heap.size w w'):af f ok E size w' base l v:=⟨h.1.below hk,h.2⟩
theorem af.pK(h:af f ok E size w base l v){base':Nat}(hb:∀k,ownB v=some k->base'<=k):af f ok E size w base' l v:=by
 refine⟨⟨h.1.1,?_⟩,h.2⟩;rcases h.1.2 with h1|⟨g,cap,cur,rfl,hc,hbg,rest⟩;·exact .inl h1
 ·exact .inr ⟨g,cap,cur,rfl,hc,hb g (by simp[ownB,Ap.1 hc]),rest⟩
theorem af.eZ(hf:∀x,(f x).length=size)(h:af f ok E size w base l v)(A:Nat->Prop):aI w base E size (vF f ok) A l v:=by refine⟨l.map f,by simp,by rw[<-List.flatMap_def];exact h.1,fun i x vs hx hv=>?_⟩;rw[vB,hx]at hv;simp only[nV,cZ]at hv;subst hv;exact⟨hf x,h.2 x (Qc hx),rfl⟩
theorem af.eB{A:Nat->Prop}(h:aI w base E size (vF f ok) A l v):af f ok E size w base l v:=by
 obtain⟨vals,hl,ho,he⟩:=h;have e:vals=l.map f:=by apply lV (by simp[hl]);intro i h1 h2;obtain⟨_,_,h3⟩:=he i _ _ (aS (by omega)) (aS h1);rw[h3,Ls]
 subst e;refine⟨by rw[List.flatMap_def];exact ho,fun x hx=>?_⟩;obtain⟨i,hi,rfl⟩:=tX.1 hx;exact(he i _ _ (aS hi) (aS (by simpa using hi))).2.1
theorem af.val(h:af f ok E size w base l v):∃a cap,v= .slice a l.length cap/\l.length<=cap/\cap<=maxLen:=by
 rcases h.1.2 with⟨h0,a,rfl⟩|⟨g,cap,cur,rfl,hc,hb,hg,hnc,hcm,_⟩;·exact⟨a,0,by rw[h0],by omega,by simp[maxLen]⟩
 ·exact⟨_,cap,rfl,hnc,hcm⟩
theorem af.at(hf:∀x,(f x).length=size)(h:af f ok E size w base l v)(h0:0<l.length):∃g cap,v= .slice (some ⟨g,0,none⟩) l.length cap/\0<cap/\l.length<=cap/\cap<=maxLen/\ownB v=some g/\(∀o,w.frozen? ⟨g,o,none⟩=false)/\g<w.heap.size/\base<=g/\∀i(hi:i<l.length)j u,(f l[i])[j]?=some u->w.cell? ⟨g,i*size+j,none⟩=some u:=by
 have hcl:=@Own.cells w base E size v l.length (l.flatMap f) h.1;rcases h.1.2 with⟨h1,a,rfl⟩|⟨g,cap,cur,rfl,hc,hb,hg,hnc,hcm,hcs,htake⟩;·omega
 ·refine⟨g,cap,rfl,hc,hnc,hcm,by simp[ownB,Ap.1 hc],fun o=>by simp[World.frozen?,hg],aD hg,hb,fun i hi j u hu=>?_⟩;have hj:j<size:=by have :=(iO.1 hu).1;rw[hf]at this;exact this
  exact hcl rfl hc _ u (by rw[YP hf l i j hi hj];exact hu)
theorem af.set(hf:∀x,(f x).length=size)(h:af f ok E size w base l v){g:Nat}(hg:ownB v=some g){i j:Nat}(hi:i<l.length)(hj:j<size){y:α}{u:Value}(hy:f y=(f l[i]).set j u)(hok:ok y):af f ok E size (w.setCell ⟨g,i*size+j,none⟩ u) base (l.set i y) v:=by
 refine⟨⟨Ip hf _,?_⟩,fun x hx=>?_⟩
 ·rw[vC];rcases h.1.2 with⟨h1,a,rfl⟩|⟨g',cap,cur,rfl,hc,hb,hgg,hnc,hcm,hcs,htake⟩;·omega
  ·simp only[ownB,Ap.1 hc,if_false,cZ]at hg;subst hg;refine .inr ⟨g',cap,_,rfl,hc,hb,bI hgg _ u,hnc,hcm,by simpa using hcs,?_⟩;rw[<-YQ hf y u l i j hi hj hy,<-htake,Xw,List.take_set]
 ·rcases List.mem_or_eq_of_mem_set hx with h1|rfl;·exact h.2 x h1
  ·exact hok
theorem af.take(hf:∀x,(f x).length=size){a:Option Addr}{cap:Nat}(h:af f ok E size w base l (.slice a l.length cap)){k:Nat}(hk:k<=l.length):af f ok E size w base (l.take k) (.slice a k cap):=by
 have hl:(l.take k).length=k:=by rw[dS];omega
 refine⟨⟨by rw[Ip hf],?_⟩,fun x hx=>h.2 x (Qb hx)⟩;rw[hl];rcases h.1.2 with⟨h1,a',h2⟩|⟨g,c,cur,h2,hc,hb,hgg,hnc,hcm,hcs,htake⟩;·simp only[eX]at h2;obtain⟨rfl, -,rfl⟩:=h2;exact .inl ⟨by omega,a,by rw[show k=0 by omega]⟩
 ·simp only[eX,fH]at h2;obtain⟨rfl,rfl⟩:=h2;refine .inr ⟨g,cap,cur,rfl,hc,hb,hgg,by omega,hcm,hcs,?_⟩;rw[<-YR hf l k hk,<-htake,XN,Lv (Cs _ hk)]
theorem af.sl(hf:∀x,(f x).length=size)(h1:∀x,∀u∈f x,u.oneCell'=true)(h:af f ok E size w base l v)(hl:l.length<=1048576){A:Nat->Prop}(hA:∀b,ownB v=some b->A b):aj size (vF f ok) A w l v:=aI.sl' (yI h1) (h.eZ hf A) hl hA
end
theorem Ce.jD(c:Ce):c.vals.length=3:=rfl
theorem Ce.yR(c:Ce):∀u∈c.vals,u.oneCell'=true:=by simp[Ce.vals,Value.oneCell']
theorem dO(c:Int):(yJ c).length=1:=rfl
theorem xx(c:Int):∀u∈yJ c,u.oneCell'=true:=by simp[yJ,Value.oneCell']
theorem yS(c:Bool):(Yh c).length=1:=rfl
abbrev iL(w:World)(base:Nat)(l:List Ce)(v:Value):Prop:=af Ce.vals Ce.Ok 112 3 w base l v
abbrev dA(w:World)(base:Nat)(l:List Int)(v:Value):Prop:=af yJ au 3 1 w base l v
abbrev fK(w:World)(base:Nat)(l:List Bool)(v:Value):Prop:=af Yh (fun _=>True) 4 1 w base l v
theorem dA.sl{w:World}{base:Nat}{l:List Int}{v:Value}(h:dA w base l v)(hl:l.length<=1048576){A:Nat->Prop}(hA:∀b,ownB v=some b->A b):fI A w l v:=af.sl dO xx h hl hA
