import Derived.Test.YtlpmfkpefoegeacGreatDoorQIsHeap
namespace Go.Proofs.YtlpmfkpefoegeacGreatDoor
set_option maxRecDepth 99999
set_option maxHeartbeats 0
set_option linter.all false
def dA(b:Nat)(c:Ce):Ce:=if c.kind=0 then{c with n:=c.n+b}else c
def mM(b:Nat)(l:List Ce)(j:Nat):List Ce:=l.mapIdx fun i c=>if b<=i/\i<j then dA b c else c
theorem Qe(b:Nat)(l:List Ce)(j:Nat):(mM b l j).length=l.length:=by simp[mM]
theorem GN(b:Nat)(l:List Ce)(j i:Nat)(h:i<(mM b l j).length):(mM b l j)[i]=if b<=i/\i<j then dA b (l[i]'(by rw[Qe]at h;exact h))else l[i]'(by rw[Qe]at h;exact h):=by simp[mM]
theorem am4(b:Nat)(l:List Ce):mM b l b=l:=by apply nu (by simp[mM]);intro i h1 h2;rw[GN,ag (by omega)]
theorem adl(b:Nat)(l:List Ce)(j:Nat)(hb:b<=j)(hj:j<l.length):mM b l (j+1)=(mM b l j).set j (dA b l[j]):=by
 apply nu (by simp[mM]);intro i h1 h2;rw[GN,Ee];by_cases e:j=i;·subst e;rw[ai ⟨hb,by omega⟩,ai rfl]
 ·rw[ag e,GN];by_cases e2:b<=i/\i<j;·rw[ai e2,ai ⟨e2.1,by omega⟩]
  ·rw[ag e2,ag (by omega)]
theorem am5(b:Nat)(l:List Ce)(j:Nat)(hb:b<=j)(hj:j<l.length)(hk:(l[j]).kind≠0):mM b l (j+1)=mM b l j:=by
 rw[adl b l j hb hj];apply nu (by simp);intro i h1 h2;rw[Ee];split;·rename_i e;subst e;rw[GN,ag (by omega),dA,ag hk]
 ·rfl
theorem am6(l bl:List Ce):mM l.length (l++bl) (l++bl).length=l++bl.map (dA l.length):=by
 apply nu (by simp[mM]);intro i h1 h2;rw[GN];by_cases e:l.length<=i;·rw[ai ⟨e,by simpa[mM]using h1⟩,Ea e,Ea e,PH]
 ·rw[ag (by omega),Eb (by omega),Eb (by omega)]
open Classical in noncomputable def gM(h:Hp)(bl:List Ce):Hp×Int×Int:=if ¬(h.Good/\Hp.Good ⟨bl,[]⟩)then(h,0,1)else if 65536<h.cells.length+bl.length then(h,0,3)else(⟨h.cells++bl.map (dA h.cells.length),h.trail⟩,h.cells.length,0)
open Go.RowKit
section
variable {P : Program} {ops : Array Oper} {Q : Exit → Act → World → Prop}
def bF(ops:Array Oper)(k:Nat):Option Nat:=(ops[k]?).bind (·.dst)
def Kg(ops:Array Oper)(i s:Nat):Bool:=(List.range ops.size).all fun k=>bF ops k != some s||waits ops k i
def GQ(ops:Array Oper)(n:Nat):Bool:=(List.range ops.size).all fun k=>(match bF ops k with|some s=>decide (s<n)|none=>true)&&(List.range ops.size).all fun j=>j==k||bF ops j==none||bF ops j != bF ops k
theorem Ep{k s:Nat}(h:bF ops k=some s):k<ops.size:=by unfold bF at h;cases hk:ops[k]? with|none=>rw[hk]at h;simp at h|some o=>exact(wB.1 hk).1
theorem am7{n:Nat}(h:GQ ops n=true):(∀k s,bF ops k=some s->s<n)/\∀j k s,bF ops k=some s->bF ops j=some s->j=k:=by
 unfold GQ at h;simp only[qo,ko,rq,Gf,xN,Gh]at h;refine⟨fun k s hk=>?_,fun j k s hk hj=>?_⟩;·have :=(h k (Ep hk)).1;rw[hk]at this;simpa using this
 ·have :=(h k (Ep hk)).2 j (Ep hj);rcases this with(h1|h1)|h1;·exact h1
  ·rw[hj]at h1;cases h1
  ·rw[hj,hk]at h1;exact absurd rfl h1
def gY(f:Nat->Value):Nat->List Oper->Array Value->Array Value|_,[],t=>t|i,o::r,t=>gY f (i+1) r (match o.dst with|some s=>t.setIfInBounds s (f i)|none=>t)
theorem Kh(f:Nat->Value):∀(l:List Oper)(i:Nat)(t:Array Value),(gY f i l t).size=t.size|[],_,_=>rfl|o::r,i,t=>by unfold gY;rw[Kh f r];cases o.dst<;>simp
theorem Ki(f:Nat->Value)(s:Nat):∀(l:List Oper)(i:Nat)(t:Array Value),s<t.size->((∀(k:Nat)(o:Oper),l[k]?=some o->o.dst≠some s)->(gY f i l t)[s]?=t[s]?)/\(∀(k:Nat)(o:Oper),l[k]?=some o->o.dst=some s->(∀(j:Nat)(o':Oper),l[j]?=some o'->o'.dst=some s->j=k)->(gY f i l t)[s]?=some (f (i+k)))
 |[],_,_,_=>⟨fun _=>rfl,fun k o h=>by simp at h⟩
 |o::r,i,t,hs=>by
  unfold gY;have hs':s<(match o.dst with|some s=>t.setIfInBounds s (f i)|none=>t).size:=by cases o.dst<;>simpa using hs
  have ih:=Ki f s r (i+1) _ hs';refine⟨fun h=>?_,fun k o' hk hd hu=>?_⟩;·rw[ih.1 (fun k o' hk=>h (k+1) o' (by simpa using hk))];have h0:=h 0 o (by simp);cases hd:o.dst with|none=>rfl|some d=>simp only;rw[Ci (by rintro rfl;exact h0 hd)]
  ·cases k with|zero=>simp only[uO,dm]at hk;subst hk;rw[ih.1 (fun j o' hj hd'=>by have :=hu (j+1) o' (by simpa using hj) hd';omega)];simp only[hd,qw];rw[Cg hs]|succ k=>rw[ih.2 k o' (by simpa using hk) hd (fun j o'' hj hd'=>by have :=hu (j+1) o'' (by simpa using hj) hd';omega)];congr 2;omega
def uZ(ops:Array Oper):Bool:=(List.range ops.size).all fun i=>((ops[i]?).map fun o=>o.after.all fun e=>!Region.binds .any e||decide (e.on<i)).getD true
theorem Qf(h:uZ ops=true)(listed:Array Bool)(hls:listed.size=ops.size)(hr:Region.ready .any ops listed=[]):∀k,k<ops.size->listed.getD k false=true:=by
 intro k;induction k using Nat.strongRecOn with
  |_ k ih=>
   intro hk;have hlk:k<listed.size:=by omega
   cases hb:listed.getD k false with
    |true=>rfl
    |false=>
     exfalso;have :k∈Region.ready .any ops listed:=by
      refine mem_ready.2 ⟨?_,ops[k],pg hk,fun e he hbi=>?_⟩;·simp only[Array.getD,hlk,AB]at hb ⊢;exact hb
      ·have hlt:e.on<k:=by unfold uZ at h;simp only[qo,ko]at h;have h1:=h k hk;rw[pg hk]at h1;simp only[pq,nW,axI]at h1;have h2:=h1 e he;simp only[hbi,acs,acu,Ed]at h2;exact h2
       exact ih e.on hlt (by omega)
     rw[hr]at this;cases this
structure adm (ops : Array Oper) (Po : Nat → Value → World → Prop) (a0 : Act) (f : Nat → Value) (listed : Array Bool) (a : Act) (w : World) : Prop where
  defers : a.defers = a0.defers
  size : a.tmps.size = a0.tmps.size
  old : ∀ s, (∀ k, listed.getD k false = true → bF ops k ≠ some s) → a.tmps[s]? = a0.tmps[s]?
  new : ∀ k, k < ops.size → listed.getD k false = true → Po k (f k) w ∧ ∀ s, bF ops k = some s → a.tmps[s]? = some (f k)
  closed : ∀ k j, listed.getD k false = true → waits ops k j = true → listed.getD j false = true
theorem am8{a0:Act}{Inv:World->Prop}{Po:Nat->Value->World->Prop}{Rl:Nat->World->World->Prop}(hd:GQ ops a0.tmps.size=true)(hst:∀i j v w w',i≠j->waits ops i j=false->Po i v w->Rl j w w'->Po i v w')(hinv:∀j w w',Inv w->Rl j w w'->Inv w')(hop:∀i,i<ops.size->∀(f:Nat->Value)(a:Act)(w:World),Inv w->(∀k,waits ops i k=true->Po k (f k) w)->(∀k s,waits ops i k=true->bF ops k=some s->a.tmps[s]?=some (f k))->(∀s,Kg ops i s=true->a.tmps[s]?=a0.tmps[s]?)->wpOp P ops Q i (fun a' w'=>∃v,a'=a.put (bF ops i) v/\Po i v w'/\Rl i w w') a w)(hend:∀(f:Nat->Value)(w:World),Inv w->(∀i,i<ops.size->Po i (f i) w)->Q .normal ⟨gY f 0 ops.toList a0.tmps,a0.defers⟩ w)(hbk:uZ ops=true):∀(fuel:Nat)(f:Nat->Value)(listed:Array Bool)(a:Act)(w:World),listed.size=ops.size->(listed.toList.filter (· ==false)).length<=fuel->Inv w->adm ops Po a0 f listed a w->wpAny P .any ops Q fuel listed a w:=by
 obtain⟨hlt,xY⟩:=am7 hd;have close:∀(f:Nat->Value)(listed:Array Bool)(a:Act)(w:World),listed.size=ops.size->Inv w->adm ops Po a0 f listed a w->Region.ready .any ops listed=[]->Q .normal a w:=by
  intro f listed a w hls hw hc hr;have hall:=Qf hbk listed hls hr;have :a=⟨gY f 0 ops.toList a0.tmps,a0.defers⟩:=by
   obtain⟨t,d⟩:=a;have h1:=hc.defers;have h2:=hc.size;simp only at h1 h2;subst h1;congr 1;refine ab4 fun s=>?_;by_cases hs:s<a0.tmps.size
   ·have hg:=Ki f s ops.toList 0 a0.tmps hs;by_cases he:∃k,bF ops k=some s
    ·obtain⟨k,hk⟩:=he;have hkl:=Ep hk;have e1:=(hc.new k hkl (hall k hkl)).2 s hk;simp only at e1;rw[e1];have hko:ops[k]?=some ops[k]:=pg hkl;have hkd:ops[k].dst=some s:=by unfold bF at hk;rw[hko]at hk;simpa using hk
     rw[hg.2 k ops[k] (by rw[mr];exact hko) hkd (fun j o' hj hd'=>xY j k s hk (by unfold bF;rw[<-mr,hj];simpa using hd'))];simp
    ·rw[hg.1 (fun k o hk hd'=>he ⟨k,by unfold bF;rw[<-mr,hk];simpa using hd'⟩)];exact hc.old s (fun k _ hk=>he ⟨k,hk⟩)
   ·rw[Ck (by omega),Ck (by rw[Kh];omega)]
  rw[this];exact hend f w hw fun i hi=>(hc.new i hi (hall i hi)).1
 intro fuel;induction fuel with
  |zero=>
   intro f listed a w hls hn hw hc;have hr:Region.ready .any ops listed=[]:=by
    refine List.eq_nil_iff_forall_not_mem.2 fun j hj=>?_;obtain⟨hjun,oj,hoj,_⟩:=mem_ready.1 hj;have hjl:j<listed.size:=by rw[hls];exact(wB.1 hoj).1
    have :listed.toList.filter (· ==false)=[]:=Pn.1 (by omega);rw[Ve]at this;have h3:=this listed[j] (by simp);simp[Array.getD,hjl]at hjun;simp[hjun]at h3
   exact⟨hr,close f listed a w hls hw hc hr⟩
  |succ fuel ih=>
   intro f listed a w hls hn hw hc;refine⟨close f listed a w hls hw hc,fun i hi=>?_⟩;obtain⟨nE,oi,hoi,rO⟩:=mem_ready.1 hi;have hil:i<ops.size:=(wB.1 hoi).1;have hw1:∀k,waits ops i k=true->listed.getD k false=true:=fun k hk=>by simp only[waits,hoi,pq,nW]at hk;obtain⟨e,he,hb⟩:=Jv.1 hk;simp only[rq,xN]at hb;rw[<-hb.2];exact rO e he hb.1
   have hkl:∀k,listed.getD k false=true->k<ops.size:=fun k hk=>by
    rw[<-hls];by_cases h:k<listed.size;·exact h
    ·simp[Array.getD,h]at hk
   have hif:listed.getD i false=false:=by
    have :i<listed.size:=by omega
    simp only[Array.getD,this,AB]at nE ⊢;exact nE
   refine PN ?_ (hop i hil f a w hw (fun k hk=>(hc.new k (hkl k (hw1 k hk)) (hw1 k hk)).1) (fun k s hk hs=>(hc.new k (hkl k (hw1 k hk)) (hw1 k hk)).2 s hs) (fun s hs=>hc.old s fun k hk=>?_))
   ·rintro a' w'⟨v,rfl,hp,hr⟩;have hset:∀k,(listed.setIfInBounds i true).getD k false=true->k=i\/(k≠i/\listed.getD k false=true):=fun k hk=>by
     by_cases hki:k=i;·exact .inl hki
     ·refine .inr ⟨hki,?_⟩;rwa[ry false (tO hki)]at hk
    refine ih (fun k=>if k=i then v else f k) _ _ _ (by simpa using hls) ?_ (hinv _ _ _ hw hr) ⟨?_,?_,fun s hs=>?_,fun k hk hl=>?_,fun k j hk hj=>?_⟩
    ·have h1:i<listed.toList.length:=by simp;omega
     have h2:listed.toList[i]?=some false:=by
      have h3:i<listed.size:=by omega
      simp only[Array.getD,h3,AB]at hif;rw[mr,pg h3];exact congrArg some hif
     have h4:∀(l:List Bool)(i:Nat),l[i]?=some false->((l.set i true).filter (· ==false)).length+1=(l.filter (· ==false)).length:=by intro l;induction l with|nil=>intro i h;simp at h|cons b r ihr=>intro i h;cases i with|zero=>simp only[uO,dm]at h;subst h;simp|succ i=>have :=ihr i (by simpa using h);cases b<;>simp_all
     have h5:=h4 _ _ h2;rw[Va];omega
    ·unfold Act.put;split<;>exact hc.defers
    ·unfold Act.put;split<;>simp[hc.size]
    ·have h1:bF ops i≠some s:=hs i (by rw[D9,Cg (by omega)];rfl);rw[show(a.put (bF ops i) v).tmps[s]?=a.tmps[s]? by unfold Act.put;cases hdi:bF ops i with|none=>rfl|some d=>simp only;rw[Ci (by rintro rfl;exact h1 hdi)]];refine hc.old s fun k hk=>hs k ?_;by_cases hki:i=k;·subst hki;rw[hif]at hk;cases hk
     ·rwa[ry false hki]
    ·rcases hset k hl with rfl|⟨hki,hk2⟩;·simp only[if_true];refine⟨hp,fun s hs=>?_⟩;unfold Act.put;rw[hs];simp only;rw[Cg (by rw[hc.size];exact hlt k s hs)]
     ·simp only[ag hki];obtain⟨h1,h2⟩:=hc.new k hk hk2;have hnw:waits ops k i=false:=by cases hwk:waits ops k i with|false=>rfl|true=>have :=hc.closed k i hk2 hwk;rw[hif]at this;cases this
      refine⟨hst _ _ _ _ _ hki hnw h1 hr,fun s hs=>?_⟩;unfold Act.put;cases hdi:bF ops i with|none=>exact h2 s hs|some d=>simp only;rw[Ci (by rintro rfl;exact hki (xY k i _ hdi hs))];exact h2 s hs
    ·have hj':listed.getD j false=true:=by
      rcases hset k hk with rfl|⟨_,hk2⟩;·exact hw1 j hj
      ·exact hc.closed k j hk2 hj
     by_cases hji:i=j;·subst hji;rw[hif]at hj';cases hj'
     ·rw[ry false hji];exact hj'
   ·intro hks;unfold Kg at hs;simp only[qo,ko,Gh,Gf]at hs;rcases hs k (hkl k hk)with h1|h1;·exact h1 hks
    ·have :=hc.closed k i hk h1;rw[hif]at this;cases this
theorem am9{id:Nat}{a0:Act}{w0:World}{Inv:World->Prop}{Po:Nat->Value->World->Prop}{Rl:Nat->World->World->Prop}(hm:P.follows .mixedOrders=true)(hd:GQ ops a0.tmps.size=true)(hbk:uZ ops=true)(h0:Inv w0.drew)(hst:∀i j v w w',i≠j->waits ops i j=false->Po i v w->Rl j w w'->Po i v w')(hinv:∀j w w',Inv w->Rl j w w'->Inv w')(hop:∀i,i<ops.size->∀(f:Nat->Value)(a:Act)(w:World),Inv w->(∀k,waits ops i k=true->Po k (f k) w)->(∀k s,waits ops i k=true->bF ops k=some s->a.tmps[s]?=some (f k))->(∀s,Kg ops i s=true->a.tmps[s]?=a0.tmps[s]?)->wpOp P ops Q i (fun a' w'=>∃v,a'=a.put (bF ops i) v/\Po i v w'/\Rl i w w') a w)(hend:∀(f:Nat->Value)(w:World),Inv w->(∀i,i<ops.size->Po i (f i) w)->Q .normal ⟨gY f 0 ops.toList a0.tmps,a0.defers⟩ w):(Code.region id ops true).wp P Q a0 w0:=by
 have hno:∀k,(Array.replicate ops.size false).getD k false=false:=fun k=>by simp only[D9,abX];split<;>rfl
 refine Vp hm (am8 hd hst hinv hop hend hbk ops.size (fun _=>undef) (Array.replicate ops.size false) a0 w0.drew (by simp) ?_ h0 ⟨rfl,rfl,fun _ _=>rfl,fun k _ hk=>?_,fun k j hk _=>?_⟩);·refine fM (alS _ _) (by simp)
 ·rw[hno]at hk;cases hk
 ·rw[hno]at hk;cases hk
def aI(P:Program)(ev:Operand->Value)(o:Oper)(w:World)(R:Value->World->Prop):Prop:=match(execOp ev o).run P w with| .ok (.value v) w'=>R v w'| .ok .skip w'=>R undef w'| .ok (.enter f args) w'=>Calls P f args w' fun e w''=>∃v,e= .returned v/\R v w''| .ok (.row row args) w'=>Rows P row args w' fun v w''=>R v w''|_=>False
theorem Qg{i:Nat}{o:Oper}{a:Act}{w:World}{R:Value->World->Prop}(hi:ops[i]?=some o)(h:(Region.wanted o (yielded ops a.tmps)=true/\aI P a.eval o w R)\/(Region.wanted o (yielded ops a.tmps)=false/\R undef w)):wpOp P ops Q i (fun a' w'=>∃v,a'=a.put (bF ops i) v/\R v w') a w:=by
 have hd:bF ops i=o.dst:=by simp[bF,hi]
 unfold Go.wpOp;simp only[hi];rw[hd];rcases h with⟨hw,h⟩|⟨hw,h⟩
 ·rw[ai hw];left;unfold Oper.wp;unfold aI at h;generalize(execOp a.eval o).run P w=r at*;cases r with
   |ok n w'=>
    cases n<;>simp only[Oper.upon]at h ⊢;case value v=>exact⟨v,rfl,h⟩
    case skip=>exact⟨_,rfl,h⟩
    case enter f args=>exact h.mono fun e w'' he=>by obtain⟨v,rfl,hr⟩:=he;exact⟨v,rfl,hr⟩
    case row row args=>exact Rows.mono h fun u w'' he=>⟨u,rfl,he⟩
   |halt x w'=>cases x<;>simp only at h
 ·rw[ag (by simp[hw])];exact⟨_,rfl,h⟩
theorem aK{o:Oper}{f:Nat->Option Bool}(h:o.guard=none):Region.wanted o f=true:=by simp[Region.wanted,h]
theorem adn{id:Nat}{a0:Act}{w0:World}{Inv:World->Prop}{Po:Nat->Value->World->Prop}{Rl:Nat->World->World->Prop}(hm:P.follows .mixedOrders=true)(hd:GQ ops a0.tmps.size=true)(hbk:uZ ops=true)(h0:Inv w0.drew)(hst:∀i j v w w',i≠j->waits ops i j=false->Po i v w->Rl j w w'->Po i v w')(hinv:∀j w w',Inv w->Rl j w w'->Inv w')(hop:∀i o,ops.toList[i]?=some o->∀(f:Nat->Value)(a:Act)(w:World),Inv w->(∀k,waits ops i k=true->Po k (f k) w)->(∀k s,waits ops i k=true->bF ops k=some s->a.tmps[s]?=some (f k))->(∀s,Kg ops i s=true->a.tmps[s]?=a0.tmps[s]?)->(Region.wanted o (yielded ops a.tmps)=true/\aI P a.eval o w (fun v w'=>Po i v w'/\Rl i w w'))\/(Region.wanted o (yielded ops a.tmps)=false/\Po i undef w/\Rl i w w))(hend:∀(f:Nat->Value)(w:World),Inv w->(∀i,i<ops.size->Po i (f i) w)->Q .normal ⟨gY f 0 ops.toList a0.tmps,a0.defers⟩ w):(Code.region id ops true).wp P Q a0 w0:=am9 hm hd hbk h0 hst hinv (fun i hi f a w h1 h2 h3 h4=>Qg (pg hi) (hop i _ (by rw[mr,pg hi]) f a w h1 h2 h3 h4)) hend
theorem ado{id:Nat}{a0:Act}{w0:World}{Inv:World->Prop}{Po:Nat->Value->World->Prop}{Rl:World->World->Prop}(hm:P.follows .mixedOrders=true)(hd:GQ ops a0.tmps.size=true)(hbk:uZ ops=true)(h0:Inv w0.drew)(hst:∀i v w w',Po i v w->Rl w w'->Po i v w')(hinv:∀w w',Inv w->Rl w w'->Inv w')(hop:∀i o,ops.toList[i]?=some o->∀(f:Nat->Value)(a:Act)(w:World),Inv w->(∀k,waits ops i k=true->Po k (f k) w)->(∀k s,waits ops i k=true->bF ops k=some s->a.tmps[s]?=some (f k))->(∀s,Kg ops i s=true->a.tmps[s]?=a0.tmps[s]?)->(Region.wanted o (yielded ops a.tmps)=true/\aI P a.eval o w (fun v w'=>Po i v w'/\Rl w w'))\/(Region.wanted o (yielded ops a.tmps)=false/\Po i undef w/\Rl w w))(hend:∀(f:Nat->Value)(w:World),Inv w->(∀i,i<ops.size->Po i (f i) w)->Q .normal ⟨gY f 0 ops.toList a0.tmps,a0.defers⟩ w):(Code.region id ops true).wp P Q a0 w0:=adn (Rl:=fun _=>Rl) hm hd hbk h0 (fun i _ v w w' _ _=>hst i v w w') (fun _=>hinv) hop hend
end
section
variable {P : Program} {ops : Array Oper} {Q : Exit → Act → World → Prop}
def Qh(ops:Array Oper)(L:Nat):Bool:=decide (L<=ops.size)&&(List.range ops.size).all fun i=>decide (i<L)||(List.range L).all fun k=>waits ops i k
def rP(ops:Array Oper)(L s:Nat):Bool:=(List.range L).all fun k=>bF ops k != some s
def CE(ops:Array Oper)(L n:Nat):Bool:=(List.range L).all fun k=>(match bF ops k with|some s=>decide (s<n)|none=>true)&&(List.range L).all fun j=>j==k||bF ops j==none||bF ops j != bF ops k
theorem VP{L n:Nat}(h:CE ops L n=true):(∀k s,k<L->bF ops k=some s->s<n)/\∀j k s,j<L->k<L->bF ops k=some s->bF ops j=some s->j=k:=by
 unfold CE at h;simp only[qo,ko,rq,Gf,xN,Gh]at h;refine⟨fun k s jB hk=>?_,fun j k s Er jB hk hj=>?_⟩;·have :=(h k jB).1;rw[hk]at this;simpa using this
 ·have :=(h k jB).2 j Er;rcases this with(h1|h1)|h1;·exact h1
  ·rw[hj]at h1;cases h1
  ·rw[hj,hk]at h1;exact absurd rfl h1
structure CF (ops : Array Oper) (L : Nat) (Po : Nat → Value → World → Prop) (a0 : Act) (f : Nat → Value) (listed : Array Bool) (a : Act) (w : World) : Prop where
  defers : a.defers = a0.defers
  size : a.tmps.size = a0.tmps.size
  old : ∀ s, (∀ k, listed.getD k false = true → bF ops k ≠ some s) → a.tmps[s]? = a0.tmps[s]?
  new : ∀ k, k < L → listed.getD k false = true → Po k (f k) w ∧ ∀ s, bF ops k = some s → a.tmps[s]? = some (f k)
  front : ∀ k, listed.getD k false = true → k < L
theorem ana{L:Nat}{a0:Act}{Inv:World->Prop}{Po:Nat->Value->World->Prop}{Rl:World->World->Prop}(ht:Qh ops L=true)(hd:CE ops L a0.tmps.size=true)(hst:∀i v w w',Po i v w->Rl w w'->Po i v w')(hinv:∀w w',Inv w->Rl w w'->Inv w')(hop:∀i,i<L->∀(f:Nat->Value)(a:Act)(w:World),Inv w->(∀k,waits ops i k=true->Po k (f k) w)->(∀k s,waits ops i k=true->bF ops k=some s->a.tmps[s]?=some (f k))->(∀s,rP ops L s=true->a.tmps[s]?=a0.tmps[s]?)->wpOp P ops Q i (fun a' w'=>∃v,a'=a.put (bF ops i) v/\Po i v w'/\Rl w w') a w)(hend:∀(f:Nat->Value)(w:World),Inv w->(∀i,i<L->Po i (f i) w)->wpAny P .any ops Q (ops.size - L) (List.replicate L true++List.replicate (ops.size - L) false).toArray ⟨gY f 0 (ops.toList.take L) a0.tmps,a0.defers⟩ w)(hbk:uZ ops=true):∀(fuel:Nat)(f:Nat->Value)(listed:Array Bool)(a:Act)(w:World),listed.size=ops.size->(listed.toList.filter (· ==false)).length=fuel->Inv w->CF ops L Po a0 f listed a w->wpAny P .any ops Q fuel listed a w:=by
 obtain⟨hlt,xY⟩:=VP hd;unfold Qh at ht;simp only[rq,Ed,qo,ko,Gf]at ht;obtain⟨hL,Kj⟩:=ht;have close:∀(fuel:Nat)(f:Nat->Value)(listed:Array Bool)(a:Act)(w:World),listed.size=ops.size->(listed.toList.filter (· ==false)).length=fuel->Inv w->CF ops L Po a0 f listed a w->(∀k,k<L->listed.getD k false=true)->wpAny P .any ops Q fuel listed a w:=by
  intro fuel f listed a w hls hn hw hc hall;have hl:listed=(List.replicate L true++List.replicate (ops.size - L) false).toArray:=by
   apply Array.ext;·simp;omega
   ·intro i h1 h2;have h3:listed.getD i false=listed[i]:=by simp[Array.getD,h1]
    by_cases hi:i<L;·have h4:=hall i hi;rw[h3]at h4;rw[h4];simp only[Pw];rw[Eb (by simpa using hi)];simp
    ·have h4:listed[i]=false:=by cases hx:listed[i]with|false=>rfl|true=>exact absurd (hc.front i (by rw[h3];exact hx)) hi
     rw[h4];simp only[Pw];rw[Ea (by simp;omega)];simp
  have hf:fuel=ops.size - L:=by rw[<-hn,hl];simp
  have :a=⟨gY f 0 (ops.toList.take L) a0.tmps,a0.defers⟩:=by
   obtain⟨t,d⟩:=a;have h1:=hc.defers;have h2:=hc.size;simp only at h1 h2;subst h1;congr 1;refine ab4 fun s=>?_;have hto:∀(k:Nat)(o:Oper),(ops.toList.take L)[k]?=some o->k<L/\ops[k]?=some o:=fun k o hk=>by have hkl:=(gT.1 hk).1;simp only[eY]at hkl;rw[qj (by omega),mr]at hk;exact⟨by omega,hk⟩
   by_cases hs:s<a0.tmps.size
   ·have hg:=Ki f s (ops.toList.take L) 0 a0.tmps hs;by_cases he:∃k,k<L/\bF ops k=some s
    ·obtain⟨k,jB,hk⟩:=he;have hkl:=Ep hk;have e1:=(hc.new k jB (hall k jB)).2 s hk;simp only at e1;rw[e1];have hko:ops[k]?=some ops[k]:=pg hkl;have hkd:ops[k].dst=some s:=by unfold bF at hk;rw[hko]at hk;simpa using hk
     rw[hg.2 k ops[k] (by rw[qj jB,mr];exact hko) hkd (fun j o' hj hd'=>by obtain⟨Er,hj'⟩:=hto j o' hj;exact xY j k s Er jB hk (by unfold bF;rw[hj'];simpa using hd'))];simp
    ·rw[hg.1 (fun k o hk hd'=>by obtain⟨jB,hk'⟩:=hto k o hk;exact he ⟨k,jB,by unfold bF;rw[hk'];simpa using hd'⟩)];exact hc.old s (fun k hkl hk=>he ⟨k,hc.front k hkl,hk⟩)
   ·rw[Ck (by omega),Ck (by rw[Kh];omega)]
  rw[this,hl,hf];exact hend f w hw fun i hi=>(hc.new i hi (hall i hi)).1
 intro fuel;induction fuel with
  |zero=>
   intro f listed a w hls hn hw hc;refine close 0 f listed a w hls hn hw hc fun k hk=>?_;have h0:listed.toList.filter (· ==false)=[]:=Pn.1 hn;rw[Ve]at h0;have h1:k<listed.size:=by omega
   have h3:=h0 listed[k] (by simp);simp[Array.getD,h1];simpa using h3
  |succ fuel ih=>
   intro f listed a w hls hn hw hc;by_cases hall:∀k,k<L->listed.getD k false=true;·exact close _ f listed a w hls hn hw hc hall
   have hex:∃k0,k0<L/\listed.getD k0 false=false:=by refine F6 fun hne=>hall fun k hk=>?_;cases hx:listed.getD k false with|true=>rfl|false=>exact absurd ⟨k,hk,hx⟩ hne
   obtain⟨k0,hk0,adp⟩:=hex;refine⟨fun hr=>?_,fun i hi=>?_⟩;·have :=Qf hbk listed hls hr k0 (by omega);rw[adp]at this;cases this
   obtain⟨nE,oi,hoi,rO⟩:=mem_ready.1 hi;have hil:i<ops.size:=(wB.1 hoi).1;have hw1:∀k,waits ops i k=true->listed.getD k false=true:=fun k hk=>by simp only[waits,hoi,pq,nW]at hk;obtain⟨e,he,hb⟩:=Jv.1 hk;simp only[rq,xN]at hb;rw[<-hb.2];exact rO e he hb.1
   have lZ:i<L:=by
    refine F6 fun hge=>?_;rcases Kj i hil with h1|h1;·exact hge h1
    ·have :=hw1 k0 (h1 k0 hk0);rw[adp]at this;cases this
   have hif:listed.getD i false=false:=by
    have :i<listed.size:=by omega
    simp only[Array.getD,this,AB]at nE ⊢;exact nE
   refine PN ?_ (hop i lZ f a w hw (fun k hk=>(hc.new k (hc.front k (hw1 k hk)) (hw1 k hk)).1) (fun k s hk hs=>(hc.new k (hc.front k (hw1 k hk)) (hw1 k hk)).2 s hs) (fun s hs=>hc.old s fun k hk=>?_))
   ·rintro a' w'⟨v,rfl,hp,hr⟩;have hset:∀k,(listed.setIfInBounds i true).getD k false=true->k=i\/(k≠i/\listed.getD k false=true):=fun k hk=>by
     by_cases hki:k=i;·exact .inl hki
     ·refine .inr ⟨hki,?_⟩;rwa[ry false (tO hki)]at hk
    refine ih (fun k=>if k=i then v else f k) _ _ _ (by simpa using hls) ?_ (hinv _ _ hw hr) ⟨?_,?_,fun s hs=>?_,fun k hk hl=>?_,fun k hk=>?_⟩
    ·have h2:listed.toList[i]?=some false:=by
      have h3:i<listed.size:=by omega
      simp only[Array.getD,h3,AB]at hif;rw[mr,pg h3];exact congrArg some hif
     have h4:∀(l:List Bool)(i:Nat),l[i]?=some false->((l.set i true).filter (· ==false)).length+1=(l.filter (· ==false)).length:=by intro l;induction l with|nil=>intro i h;simp at h|cons b r ihr=>intro i h;cases i with|zero=>simp only[uO,dm]at h;subst h;simp|succ i=>have :=ihr i (by simpa using h);cases b<;>simp_all
     have h5:=h4 _ _ h2;rw[Va];omega
    ·unfold Act.put;split<;>exact hc.defers
    ·unfold Act.put;split<;>simp[hc.size]
    ·have h1:bF ops i≠some s:=hs i (by rw[D9,Cg (by omega)];rfl);rw[show(a.put (bF ops i) v).tmps[s]?=a.tmps[s]? by unfold Act.put;cases hdi:bF ops i with|none=>rfl|some d=>simp only;rw[Ci (by rintro rfl;exact h1 hdi)]];refine hc.old s fun k hk=>hs k ?_;by_cases hki:i=k;·subst hki;rw[hif]at hk;cases hk
     ·rwa[ry false hki]
    ·rcases hset k hl with rfl|⟨hki,hk2⟩;·simp only[if_true];refine⟨hp,fun s hs=>?_⟩;unfold Act.put;rw[hs];simp only;rw[Cg (by rw[hc.size];exact hlt k s hk hs)]
     ·simp only[ag hki];obtain⟨h1,h2⟩:=hc.new k hk hk2;refine⟨hst _ _ _ _ h1 hr,fun s hs=>?_⟩;unfold Act.put;cases hdi:bF ops i with|none=>exact h2 s hs|some d=>simp only;rw[Ci (by rintro rfl;exact hki (xY k i _ hk lZ hdi hs))];exact h2 s hs
    ·rcases hset k hk with rfl|⟨_,hk2⟩;·exact lZ
     ·exact hc.front k hk2
   ·intro hks;unfold rP at hs;simp only[qo,ko,Gh]at hs;exact hs k (hc.front k hk) hks
theorem qH{i:Nat}{fuel:Nat}{listed:Array Bool}{a:Act}{w:World}(hr:Region.ready .any ops listed=[i])(h:wpOp P ops Q i (wpAny P .any ops Q fuel (listed.setIfInBounds i true)) a w):wpAny P .any ops Q (fuel+1) listed a w:=⟨fun h0=>(by rw[hr]at h0;cases h0),fun j hj=>(by rw[hr]at hj;simp only[gB]at hj;subst hj;exact h)⟩
theorem Co{listed:Array Bool}{a:Act}{w:World}(hr:Region.ready .any ops listed=[])(h:Q .normal a w):∀fuel,wpAny P .any ops Q fuel listed a w|0=>⟨hr,h⟩|_+1=>⟨fun _=>h,by rw[hr];simp⟩
theorem Kk{id:Nat}(L:Nat){a0:Act}{w0:World}{Inv:World->Prop}{Po:Nat->Value->World->Prop}{Rl:World->World->Prop}(hm:P.follows .mixedOrders=true)(ht:Qh ops L=true)(hd:CE ops L a0.tmps.size=true)(hbk:uZ ops=true)(h0:Inv w0.drew)(hst:∀i v w w',Po i v w->Rl w w'->Po i v w')(hinv:∀w w',Inv w->Rl w w'->Inv w')(hop:∀i o,(ops.toList.take L)[i]?=some o->∀(f:Nat->Value)(a:Act)(w:World),Inv w->(∀k,waits ops i k=true->Po k (f k) w)->(∀k s,waits ops i k=true->bF ops k=some s->a.tmps[s]?=some (f k))->(∀s,rP ops L s=true->a.tmps[s]?=a0.tmps[s]?)->(Region.wanted o (yielded ops a.tmps)=true/\aI P a.eval o w (fun v w'=>Po i v w'/\Rl w w'))\/(Region.wanted o (yielded ops a.tmps)=false/\Po i undef w/\Rl w w))(hend:∀(f:Nat->Value)(w:World),Inv w->(∀i,i<L->Po i (f i) w)->wpAny P .any ops Q (ops.size - L) (List.replicate L true++List.replicate (ops.size - L) false).toArray ⟨gY f 0 (ops.toList.take L) a0.tmps,a0.defers⟩ w):(Code.region id ops true).wp P Q a0 w0:=by
 have hno:∀k,(Array.replicate ops.size false).getD k false=false:=fun k=>by simp only[D9,abX];split<;>rfl
 have hL:L<=ops.size:=by unfold Qh at ht;simp only[rq,Ed]at ht;exact ht.1
 refine Vp hm (ana ht hd hst hinv (fun i hi f a w h1 h2 h3 h4=>?_) hend hbk ops.size (fun _=>undef) (Array.replicate ops.size false) a0 w0.drew (by simp) ?_ h0 ⟨rfl,rfl,fun _ _=>rfl,fun k _ hk=>?_,fun k hk=>?_⟩)
 ·have hil:i<ops.size:=by omega
  exact Qg (pg hil) (hop i _ (by rw[qj hi,mr,pg hil]) f a w h1 h2 h3 h4)
 ·simp
 ·rw[hno]at hk;cases hk
 ·rw[hno]at hk;cases hk
end
theorem CG:nZ Tryz.prog 56 112 3 32:= .mk' (z:= .agg #[.int .i64 0,.int .i64 0,.string .empty]) Tryz.underlying56 (by kernel_rfl) rfl (by omega) (by omega)
theorem jP:nZ Tryz.prog 57 3 1 8:= .mk' (z:= .int .i64 0) Tryz.underlying57 (by kernel_rfl) rfl (by omega) (by omega)
theorem anb{P:Program}(w:World)(t ty e:TypeId)(i:TypeInfo)(ht:P.underlying t=some (.slice e))(hi:P.info? e=some i)(a b:Option Addr)(n cap c:Nat)(hn:n<=cap):(Builtin.append_ #[t,t] ty #[.slice a n cap,.slice b 0 c]).run P w= .ok (.slice a n cap) w:=by cases a<;>cases b<;>simp[Builtin.append_,xM ht,sizeOf,typeInfo,hi,Builtin.lenOf,Builtin.firstCells,loadCells,loadCellsFrom,storeCells,hn]
section
variable {α : Type}
theorem grownBy_refl(w:World)(row:Option Nat):w.grownBy w row:=⟨rfl,rfl,rfl,zL _,fun _ _ _=>rfl⟩
theorem adq{P:Program}(w:World)(base:Nat)(t ty e:TypeId)(size bytes:Nat)(hty:nZ P t e size bytes){R:(Nat->Prop)->World->α->List Value->Prop}(hR:iq R){A:Nat->Prop}(v:Value)(xs:List α)(hown:aG w base e size R A xs v)(x:Value)(ys:List α)(hx:au size R (fun b=>A b/\ownB v≠some b) w ys x)(hlen:xs.length+ys.length<=4194304)(hbase:base<=w.heap.size):∃v' w',(Builtin.append_ #[t,t] ty #[v,x]).run P w= .ok v' w'/\aG w' base e size R A (xs++ys) v'/\kK w w' v v':=by
 obtain⟨⟨i,z,ht,hi,hz,h1,h2,h3⟩,h0,hb⟩:=hty;obtain⟨a,cap,b,off,rfl,hl1,hl2,hl3,ha,he⟩:=hx.at;by_cases hy:ys=[]
 ·subst hy;obtain⟨va,vc,rfl,wI⟩:=hown.val;have qG:xs.length<=vc:=by
   obtain⟨vals,_,ho,_⟩:=hown;rcases ho.2 with⟨h4,_,h5⟩|⟨g,c,cur,h4,h5,h6,h7,h8,_⟩;·omega
   ·simp only[dC,dL]at h4;omega
  refine⟨_,w,anb w t ty e i ht hi va a xs.length vc cap qG,by simpa using hown,grownBy_refl _ _,.inl rfl⟩
 ·have hpos:0<ys.length:=Vi.2 hy;obtain⟨rfl,hA⟩:=ha hpos;have hmul:(xs.length+ys.length)*bytes<=(xs.length+ys.length)*256:=Nat.mul_le_mul_left _ hb;obtain⟨v',w',hr,k1,k2,k3⟩:=acE (P:=P) w base t ty e i z size bytes ht hi hz h1 h2 h3 h0 hR v xs hown b off cap ys he (by simp only[maxLen];omega) (by omega) hbase;exact⟨v',w',hr,k1,k2,k3⟩
theorem VQ{P:Program}{w:World}{ops:Array Oper}{rest:List Oper}{o:Oper}{a:Act}{Q:Exit->Act->World->Prop}(hgd:o.guard=none)(s x:Operand)(t:TypeId)(ho:o.op= .call {callee:= .builtin .append,args:=#[s,x],argTypes:=#[t,t]})(base:Nat)(e:TypeId)(size bytes:Nat)(hty:nZ P t e size bytes){R:(Nat->Prop)->World->α->List Value->Prop}(hR:iq R){A:Nat->Prop}(v:Value)(xs:List α)(hs:a.eval s=v)(hown:aG w base e size R A xs v)(xv:Value)(hxv:a.eval x=xv)(ys:List α)(hx:au size R (fun b=>A b/\ownB v≠some b) w ys xv)(hlen:xs.length+ys.length<=4194304)(hbase:base<=w.heap.size)(h:∀v' w',aG w' base e size R A (xs++ys) v'->kK w w' v v'->wpList P ops Q rest (a.put o.dst v') w'):wpList P ops Q (o::rest) a w:=by refine wpList_plain hgd fun _ hK=>?_;obtain⟨v',w',hr,k1,k2⟩:=adq (P:=P) w base t o.type e size bytes hty hR v xs hown xv ys hx hlen hbase;unfold Oper.wp execOp;simp only[ho,resolve,invoke,builtin,acA,acz,ab8,ab9,qp,AA,hs,hxv,hr];exact hK _ _ (h v' w' k1 k2)
end
section
variable {α : Type}
theorem Qi{f:α->List Value}{size:Nat}(hf:∀x,(f x).length=size)(l:List α):(l.flatMap f).length=l.length*size:=by induction l with|nil=>simp|cons x r ih=>rw[Ay,bT,hf,ih,cK,nY];omega
theorem adr{f:α->List Value}{size:Nat}(hf:∀x,(f x).length=size):∀(l:List α)(i j:Nat)(hi:i<l.length),j<size->(l.flatMap f)[i*size+j]?=(f l[i])[j]?|x::l,0,j,hi,hj=>by rw[Ay,Ef,nX,tH (by rw[hf];exact hj)];rfl|x::l,i+1,j,hi,hj=>by rw[Ay,uN (by rw[hf,nY];omega),hf,show(i+1)*size+j - size=i*size+j by rw[nY];omega];exact adr hf l i j (by simpa using hi) hj
theorem ads{f:α->List Value}{size:Nat}(hf:∀x,(f x).length=size)(y:α)(u:Value):∀(l:List α)(i j:Nat)(hi:i<l.length),j<size->f y=(f l[i]).set j u->(l.flatMap f).set (i*size+j) u=(l.set i y).flatMap f|x::l,0,j,hi,hj,hy=>by rw[Ay,Ef,nX,List.set_append_left _ _ (by rw[hf];exact hj)];simp only[Jt]at hy;rw[xK,Ay,hy]|x::l,i+1,j,hi,hj,hy=>by rw[Ay,List.set_append_right _ _ (by rw[hf,nY];omega),hf,show(i+1)*size+j - size=i*size+j by rw[nY];omega,wC,Ay];rw[ads hf y u l i j (by simpa using hi) hj (by simpa using hy)]
theorem adt{f:α->List Value}{size:Nat}(hf:∀x,(f x).length=size):∀(l:List α)(k:Nat),k<=l.length->(l.flatMap f).take (k*size)=(l.take k).flatMap f|l,0,_=>by simp|x::l,k+1,h=>by rw[Ay,uP,Ay,List.take_append,hf,iZ (by rw[hf,nY];omega),show(k+1)*size - size=k*size by rw[nY];omega];rw[adt hf l k (by simpa using h)]
def ah(f:α->List Value)(ok:α->Prop)(E:TypeId)(size:Nat)(w:World)(base:Nat)(l:List α)(v:Value):Prop:=Own w base E size v l.length (l.flatMap f)/\∀x∈l,ok x
variable {f : α → List Value} {ok : α → Prop} {E : TypeId} {size : Nat} {w : World} {base : Nat} {l : List α} {v : Value}
theorem ah.nil:ah f ok E size w base [] (.slice none 0 0):=⟨Own.nil w base E size,fun x h=>by simp at h⟩
theorem ah.lt(h:ah f ok E size w base l v):∀k,ownB v=some k->base<=k/\k<w.heap.size:=h.1.lt
theorem ah.kept(h:ah f ok E size w base l v){w':World}(hk:∀k,ownB v=some k->w'.heap[k]?=w.heap[k]?):ah f ok E size w' base l v:=⟨h.1.kept hk,h.2⟩
theorem ah.below(h:ah f ok E size w base l v){w':World}(hk:Below w.heap.size w w'):ah f ok E size w' base l v:=⟨h.1.below hk,h.2⟩
theorem ah.rQ(h:ah f ok E size w base l v){base':Nat}(hb:∀k,ownB v=some k->base'<=k):ah f ok E size w base' l v:=by
 refine⟨⟨h.1.1,?_⟩,h.2⟩;rcases h.1.2 with h1|⟨g,cap,cur,rfl,hc,hbg,rest⟩;·exact .inl h1
 ·exact .inr ⟨g,cap,cur,rfl,hc,hb g (by simp[ownB,Av.1 hc]),rest⟩
theorem ah.gN(hf:∀x,(f x).length=size)(h:ah f ok E size w base l v)(A:Nat->Prop):aG w base E size (Gs f ok) A l v:=by refine⟨l.map f,by simp,by rw[<-List.flatMap_def];exact h.1,fun i x vs hx hv=>?_⟩;rw[Aw,hx]at hv;simp only[pq,dm]at hv;subst hv;exact⟨hf x,h.2 x (Pt hx),rfl⟩
theorem ah.fG{A:Nat->Prop}(h:aG w base E size (Gs f ok) A l v):ah f ok E size w base l v:=by
 obtain⟨vals,hl,ho,he⟩:=h;have e:vals=l.map f:=by apply nu (by simp[hl]);intro i h1 h2;obtain⟨_,_,h3⟩:=he i _ _ (aT (by omega)) (aT h1);rw[h3,PH]
 subst e;refine⟨by rw[List.flatMap_def];exact ho,fun x hx=>?_⟩;obtain⟨i,hi,rfl⟩:=ng.1 hx;exact(he i _ _ (aT hi) (aT (by simpa using hi))).2.1
theorem ah.val(h:ah f ok E size w base l v):∃a cap,v= .slice a l.length cap/\l.length<=cap/\cap<=maxLen:=by
 rcases h.1.2 with⟨h0,a,rfl⟩|⟨g,cap,cur,rfl,hc,hb,hg,hnc,hcm,_⟩;·exact⟨a,0,by rw[h0],by omega,by simp[maxLen]⟩
 ·exact⟨_,cap,rfl,hnc,hcm⟩
theorem ah.at(hf:∀x,(f x).length=size)(h:ah f ok E size w base l v)(h0:0<l.length):∃g cap,v= .slice (some ⟨g,0,none⟩) l.length cap/\0<cap/\l.length<=cap/\cap<=maxLen/\ownB v=some g/\(∀o,w.frozen? ⟨g,o,none⟩=false)/\g<w.heap.size/\base<=g/\∀i(hi:i<l.length)j u,(f l[i])[j]?=some u->w.cell? ⟨g,i*size+j,none⟩=some u:=by
 have hcl:=@Own.cells w base E size v l.length (l.flatMap f) h.1;rcases h.1.2 with⟨h1,a,rfl⟩|⟨g,cap,cur,rfl,hc,hb,hg,hnc,hcm,hcs,htake⟩;·omega
 ·refine⟨g,cap,rfl,hc,hnc,hcm,by simp[ownB,Av.1 hc],fun o=>by simp[World.frozen?,hg],aJ hg,hb,fun i hi j u hu=>?_⟩;have hj:j<size:=by have :=(gT.1 hu).1;rw[hf]at this;exact this
  exact hcl rfl hc _ u (by rw[adr hf l i j hi hj];exact hu)
theorem ah.set(hf:∀x,(f x).length=size)(h:ah f ok E size w base l v){g:Nat}(hg:ownB v=some g){i j:Nat}(hi:i<l.length)(hj:j<size){y:α}{u:Value}(hy:f y=(f l[i]).set j u)(hok:ok y):ah f ok E size (w.setCell ⟨g,i*size+j,none⟩ u) base (l.set i y) v:=by
 refine⟨⟨Qi hf _,?_⟩,fun x hx=>?_⟩
 ·rw[xL];rcases h.1.2 with⟨h1,a,rfl⟩|⟨g',cap,cur,rfl,hc,hb,hgg,hnc,hcm,hcs,htake⟩;·omega
  ·simp only[ownB,Av.1 hc,if_false,dm]at hg;subst hg;refine .inr ⟨g',cap,_,rfl,hc,hb,bG hgg _ u,hnc,hcm,by simpa using hcs,?_⟩;rw[<-ads hf y u l i j hi hj hy,<-htake,Va,List.take_set]
 ·rcases List.mem_or_eq_of_mem_set hx with h1|rfl;·exact h.2 x h1
  ·exact hok
theorem ah.take(hf:∀x,(f x).length=size){a:Option Addr}{cap:Nat}(h:ah f ok E size w base l (.slice a l.length cap)){k:Nat}(hk:k<=l.length):ah f ok E size w base (l.take k) (.slice a k cap):=by
 have hl:(l.take k).length=k:=by rw[eY];omega
 refine⟨⟨by rw[Qi hf],?_⟩,fun x hx=>h.2 x (Vf hx)⟩;rw[hl];rcases h.1.2 with⟨h1,a',h2⟩|⟨g,c,cur,h2,hc,hb,hgg,hnc,hcm,hcs,htake⟩;·simp only[dC]at h2;obtain⟨rfl, -,rfl⟩:=h2;exact .inl ⟨by omega,a,by rw[show k=0 by omega]⟩
 ·simp only[dC,dL]at h2;obtain⟨rfl,rfl⟩:=h2;refine .inr ⟨g,cap,cur,rfl,hc,hb,hgg,by omega,hcm,hcs,?_⟩;rw[<-adt hf l k hk,<-htake,Vo,Gd (Pq _ hk)]
theorem ah.sl(hf:∀x,(f x).length=size)(h1:∀x,∀u∈f x,u.oneCell'=true)(h:ah f ok E size w base l v)(hl:l.length<=1048576){A:Nat->Prop}(hA:∀b,ownB v=some b->A b):au size (Gs f ok) A w l v:=aG.sl' (Gt h1) (h.gN hf A) hl hA
end
theorem Ce.kC(c:Ce):c.vals.length=3:=rfl
theorem Ce.AV(c:Ce):∀u∈c.vals,u.oneCell'=true:=by simp[Ce.vals,Value.oneCell']
theorem dY(c:Int):(AJ c).length=1:=rfl
theorem zC(c:Int):∀u∈AJ c,u.oneCell'=true:=by simp[AJ,Value.oneCell']
theorem AX(c:Bool):(acL c).length=1:=rfl
abbrev jh(w:World)(base:Nat)(l:List Ce)(v:Value):Prop:=ah Ce.vals Ce.Ok 112 3 w base l v
abbrev dK(w:World)(base:Nat)(l:List Int)(v:Value):Prop:=ah AJ aA 3 1 w base l v
abbrev gG(w:World)(base:Nat)(l:List Bool)(v:Value):Prop:=ah acL (fun _=>True) 4 1 w base l v
theorem dK.sl{w:World}{base:Nat}{l:List Int}{v:Value}(h:dK w base l v)(hl:l.length<=1048576){A:Nat->Prop}(hA:∀b,ownB v=some b->A b):gD A w l v:=ah.sl dY zC h hl hA
def VR{α:Type}(f:α->List Value)(ok:α->Prop)(E:TypeId)(size:Nat)(base:Nat)(l:List α)(r:Value)(w':World):Prop:=ah f ok E size w' base l r
theorem Qj(l:List Ce)(A:Nat->Prop)(w:World)(v:Value)(hv:au 3 Ce.rep A w l v):Calls Tryz.prog 60 #[v] w (Pure w (VR Ce.vals Ce.Ok 112 3 w.heap.size l)):=by
 obtain⟨a,cap,b,off,rfl,hlc,hcm,hlb,ha,he⟩:=hv.at;have HV:=zh hv;clear hv he;have qT:∀(w:World)(a:Option Addr)(n c:Nat),(binOp .eql 56 (.slice a n c) (.slice none 0 0)).run Tryz.prog w= .ok (.bool a.isNone) w:=fun w a n c=>Lib.run_eql_slice_nil w _ _ a n c _ _ Tryz.underlying56;cases a with
  |none=>
   have h0:l=[]:=by cases l with|nil=>rfl|cons x r=>have :=(ha (by simp)).1;cases this
   subst h0;go_enter Tryz.func60,Tryz.ntmps60;go_wp2_with fail;go_ret;exact⟨_,rfl,zB _ _,ah.nil⟩
  |some p=>have HA:=zh ha;clear ha;have pM:Hd (∀w',Below w.heap.size w w'->∀g,w.heap.size<=g->au 3 Ce.rep (fun b=>True/\ownB (.slice (some ⟨g,0,none⟩) 0 0)≠some b) w' l (.slice (some p) l.length cap)):=fun w' hb g hg=>au.mono Ce.aj (by omega) (au.keeps Ce.aj HV.o (af.ob hb)) (fun b _ _=>⟨trivial,by simp[ownB]⟩);go_enter Tryz.func60,Tryz.ntmps60;go_wp2_with(at_builtin;refine VQ rfl (.tmp 5) (.tmp 6) 56 rfl w.heap.size 112 3 32 CG Ce.aj (A:=fun _=>True) (.slice (some ⟨w.heap.size,0,none⟩) 0 0) [] rfl ((ah.gN Ce.kC (ok:=Ce.Ok) (l:=[]) ⟨⟨by simp,.inl ⟨rfl,_,rfl⟩⟩,fun x h=>by simp at h⟩ _)) _ rfl l (pM.o _ ((zB _ _).alloc (zL _) _) _ (zL _)) (by simp;omega) (by simp) ?_;intro v2 w2 hown aB);go_ret;exact⟨_,rfl,aB.below ((zB _ _).alloc (zL _) _) (by simp) (fun k h=>by simp[ownB]at h),ah.fG hown⟩
theorem VS(l:List Int)(A:Nat->Prop)(w:World)(v:Value)(hv:au 1 pE A w l v):Calls Tryz.prog 132 #[v] w (Pure w (VR AJ aA 3 1 w.heap.size l)):=by
 obtain⟨a,cap,b,off,rfl,hlc,hcm,hlb,ha,he⟩:=hv.at;have HV:=zh hv;clear hv he;have qT:∀(w:World)(a:Option Addr)(n c:Nat),(binOp .eql 57 (.slice a n c) (.slice none 0 0)).run Tryz.prog w= .ok (.bool a.isNone) w:=fun w a n c=>Lib.run_eql_slice_nil w _ _ a n c _ _ Tryz.underlying57;cases a with
  |none=>
   have h0:l=[]:=by cases l with|nil=>rfl|cons x r=>have :=(ha (by simp)).1;cases this
   subst h0;go_enter Tryz.func132,Tryz.ntmps132;go_wp2_with fail;go_ret;exact⟨_,rfl,zB _ _,ah.nil⟩
  |some p=>have HA:=zh ha;clear ha;have pM:Hd (∀w',Below w.heap.size w w'->∀g,w.heap.size<=g->au 1 pE (fun b=>True/\ownB (.slice (some ⟨g,0,none⟩) 0 0)≠some b) w' l (.slice (some p) l.length cap)):=fun w' hb g hg=>au.mono aW (by omega) (au.keeps aW HV.o (af.ob hb)) (fun b _ _=>⟨trivial,by simp[ownB]⟩);go_enter Tryz.func132,Tryz.ntmps132;go_wp2_with(at_builtin;refine VQ rfl (.tmp 5) (.tmp 6) 57 rfl w.heap.size 3 1 8 jP aW (A:=fun _=>True) (.slice (some ⟨w.heap.size,0,none⟩) 0 0) [] rfl ((ah.gN dY (ok:=aA) (l:=[]) ⟨⟨by simp,.inl ⟨rfl,_,rfl⟩⟩,fun x h=>by simp at h⟩ _)) _ rfl l (pM.o _ ((zB _ _).alloc (zL _) _) _ (zL _)) (by simp;omega) (by simp) ?_;intro v2 w2 hown aB);go_ret;exact⟨_,rfl,aB.below ((zB _ _).alloc (zL _) _) (by simp) (fun k h=>by simp[ownB]at h),ah.fG hown⟩
def GR(A:Nat->Prop)(x:Hp×Int×Int)(r:Value)(w':World):Prop:=∃us,r= .tuple #[.agg us.toArray,.int .i64 x.2.1,.int .i64 x.2.2]/\Hp.rep A w' x.1 us
theorem Hp.anc{A:Nat->Prop}{w:World}{bl:List Ce}{v:Value}(hv:rC A w bl v):Hp.rep A w ⟨bl,[]⟩ [v,.slice none 0 0]:=⟨v,_,rfl,hv,au.nil ..⟩
theorem Pure.mk{w w':World}{R:Value->World->Prop}{v:Value}(hb:Below w.heap.size w w')(hr:R v w'):Pure w R (.returned v) w':=⟨v,rfl,hb,hr⟩
theorem dO{w:World}{g:Nat}{E:TypeId}{v0 v1:Value}(h:w.heap[g]?=some (.cells #[v0,v1] E (0,0))):w.cell? ⟨g,0,none⟩=some v0/\w.cell? ⟨g,1,none⟩=some v1/\∀o,w.frozen? ⟨g,o,none⟩=false:=⟨(bW h 0).trans rfl,(bW h 1).trans rfl,fun o=>by simp[World.frozen?,h]⟩
theorem GR.old{A:Nat->Prop}{w w':World}{h:Hp}{vs:List Value}{n e:Int}(hh:Hp.rep A w h vs)(hb:Below w.heap.size w w'):GR (fun b=>A b\/New w b) (h,n,e) (.tuple #[.agg vs.toArray,.int .i64 n,.int .i64 e]) w':=⟨vs,rfl,Hp.rep.mono (Hp.rep.keeps hh (af.ob hb)) (fun _ _ h=> .inl h)⟩
theorem aG.pO{α:Type}{w:World}{base:Nat}{E:TypeId}{size:Nat}{R:(Nat->Prop)->World->α->List Value->Prop}{A:Nat->Prop}{xs:List α}{v:Value}(h:aG w base E size R A xs v):∃a cap,v= .slice a xs.length cap/\xs.length<=cap/\cap<=maxLen:=by
 obtain⟨vals,hl,ho,he⟩:=h;rcases ho.2 with⟨h0,a,rfl⟩|⟨g,cap,cur,rfl,hc,hb,hg,hnc,hcm,_⟩;·exact⟨a,0,by rw[h0],by omega,by simp[maxLen]⟩
 ·exact⟨_,cap,rfl,hnc,hcm⟩
theorem jh.pO{w:World}{base:Nat}{l:List Ce}{v:Value}(h:jh w base l v):∃a cap,v= .slice a l.length cap/\l.length<=cap/\cap<=maxLen:=ah.val h
def ane(w:World)(base:Nat)(X1 X2:Obj)(l:List Ce)(v:Value)(wr:World):Prop:=Below w.heap.size w wr/\wr.heap[w.heap.size]?=some X1/\wr.heap[w.heap.size+1]?=some X2/\jh wr base l v
theorem rC.anf{w:World}{base:Nat}{l:List Ce}{v:Value}{A:Nat->Prop}(h:jh w base l v)(hl:l.length<=1048576)(hA:∀b,ownB v=some b->A b):rC A w l v:=ah.sl Ce.kC Ce.AV h hl hA
theorem VT(h:Hp)(bl:List Ce)(A:Nat->Prop)(w:World)(vs:List Value)(v:Value)(hh:Hp.rep A w h vs)(hv:rC A w bl v):Calls Tryz.prog 33 #[.agg vs.toArray,v] w (Pure w (GR (fun b=>A b\/New w b) (gM h bl))):=by
 obtain⟨a,cap,b,aR,rfl,hc1,hc2,hc3,ht1,ht2,ht3,hc,ht⟩:=Hp.mG hh;obtain⟨a',cap',b',off',rfl,GU,hcm',GV, -, -⟩:=hv.at;have HH:=zh hh;have HC:=zh hc;have HV:=zh hv;have jX:=zh (fun w'(hk:af A w w')=>Ct h A w' _ (Hp.rep.keeps hh hk));have HG2:=zh (fun w'(hk:af A w w')=>Ct ⟨bl,[]⟩ A w' _ (Hp.rep.keeps (Hp.anc hv) hk));have HTR:=zh ht;clear hh hv hc ht;go_enter Tryz.func33,Tryz.ntmps33;go_wp2_with fail;refine(jX.o _ ((af.alloc _ _ _).trans (af.alloc _ _ _))).mono ?_;rintro e w1⟨v,rfl,hb1,t,rfl,ht⟩;have h2:=je w (.cells #[.slice a h.cells.length cap,.slice b h.trail.length aR] 59) (.cells #[.slice none 0 0,.slice none 0 0] 59);have eO:=zh (aL h2.1 hb1);have dI:=zh (aL h2.2 hb1);have HB:=zh (show Below w.heap.size w w1 from eB (eB (hb1.mono (by simp))));have hz:w.heap.size+1<w1.heap.size:=by have :=hb1.size;simp at this;omega
 have hz':w.heap.size<w1.heap.size:=by omega
 have HT:=zh ht;have hcs:=dH;clear h2 hb1 ht;obtain⟨x0,x1,xf⟩:=dO eO.o;obtain⟨y0,y1,yf⟩:=dO dI.o;cases t with
  |false=>
   go_wp2_with fail;refine dD (v:= .tuple #[.agg #[.slice a h.cells.length cap,.slice b h.trail.length aR],.int .i64 0,.int .i64 1]) (by simp[results,Tryz.results33,go_sem,hcs,x0,x1,y0,y1]) rfl ?_;have hg:¬(h.Good/\Hp.Good ⟨bl,[]⟩):=fun hg=>by have :=HT.o.2 hg.1;cases this
   have hb:Below w.heap.size w ((w1.setCell ⟨w.heap.size+1,0,none⟩ (.slice a h.cells.length cap)).setCell ⟨w.heap.size+1,1,none⟩ (.slice b h.trail.length aR)):=bK (bK HB.o (by simp) _) (by simp) _;rw[gM,ai hg];exact Pure.mk hb (GR.old HH.o hb)
  |true=>
   have HT1:=zh (HT.o.1 rfl);clear HT;go_wp2_with fail;refine(HG2.o _ (af.ob HB.o)).mono ?_;rintro e w2⟨v,rfl,hb2,t,rfl,ht⟩;have adu:=zh (aL eO.o hb2);have adv:=zh (aL dI.o hb2);have Qk:=zh (show Below w.heap.size w w2 from HB.o.trans (hb2.mono (by omega)));have hz2:w.heap.size+1<w2.heap.size:=by have :=hb2.size;omega
   have hz2':w.heap.size<w2.heap.size:=by omega
   have HT':=zh ht;clear ht x0 x1 xf y0 y1 yf hb2;obtain⟨x0,x1,xf⟩:=dO adu.o;obtain⟨y0,y1,yf⟩:=dO adv.o;cases t with
    |false=>
     go_wp2_with fail;refine dD (v:= .tuple #[.agg #[.slice a h.cells.length cap,.slice b h.trail.length aR],.int .i64 0,.int .i64 1]) (by simp[results,Tryz.results33,go_sem,hcs,x0,x1,y0,y1]) rfl ?_;have hg:¬(h.Good/\Hp.Good ⟨bl,[]⟩):=fun hg=>by have :=HT'.o.2 hg.2;cases this
     have hb:Below w.heap.size w ((w2.setCell ⟨w.heap.size+1,0,none⟩ (.slice a h.cells.length cap)).setCell ⟨w.heap.size+1,1,none⟩ (.slice b h.trail.length aR)):=bK (bK Qk.o (by simp) _) (by simp) _;rw[gM,ai hg];exact Pure.mk hb (GR.old HH.o hb)
    |true=>
     have hg:h.Good/\Hp.Good ⟨bl,[]⟩:=⟨HT1.o,HT'.o.1 rfl⟩;have HG:=zh hg;have hl1:h.cells.length<=65536:=hg.1.2.2.1;have hl2:bl.length<=65536:=hg.2.2.2.1;clear hg;by_cases hbig:65536<h.cells.length+bl.length
     ·have hbig':(65536:Int)<h.cells.length+bl.length:=by omega
      go_wp2_with fail;refine dD (v:= .tuple #[.agg #[.slice a h.cells.length cap,.slice b h.trail.length aR],.int .i64 0,.int .i64 3]) (by simp[results,Tryz.results33,go_sem,hcs,x0,x1,y0,y1]) rfl ?_;have hb:Below w.heap.size w ((w2.setCell ⟨w.heap.size+1,0,none⟩ (.slice a h.cells.length cap)).setCell ⟨w.heap.size+1,1,none⟩ (.slice b h.trail.length aR)):=bK (bK Qk.o (by simp) _) (by simp) _;rw[gM,ag (dJ HG.o),ai hbig];exact Pure.mk hb (GR.old HH.o hb)
     ·have hbig':(h.cells.length:Int)+bl.length<=65536:=by omega
      go_wp2_with fail;refine(Qj h.cells A _ _ (au.keeps Ce.aj HC.o (af.ob Qk.o))).mono ?_;rintro e w3⟨v,rfl,hb3,hown⟩;obtain⟨ca,cc,rfl,hcl,hcm⟩:=jh.pO hown;have adx:=zh (aL adu.o hb3);have ady:=zh (aL adv.o hb3);have adz:=zh (show Below w.heap.size w w3 from Qk.o.trans (hb3.mono (by omega)));have hz3:w2.heap.size<=w3.heap.size:=hb3.size;have HO:=zh (ah.gN Ce.kC hown (fun _=>True));have pM:Hd (rC (fun b=>True/\ownB (.slice ca h.cells.length cc)≠some b) w3 bl (.slice a' bl.length cap')):=by have h1:=au.mono (A':=fun b=>A b/\b<w.heap.size) Ce.aj (by omega) HV.o (fun b hb h=>⟨h,hb⟩);exact au.mono Ce.aj (by omega) (au.keeps Ce.aj h1 (af.ob adz.o)) (fun b _ hb=>⟨trivial,fun e=>by have :=(ah.lt hown b e).1;omega⟩)
      clear hown hb3 x0 x1 xf y0 y1 yf;obtain⟨x0,x1,xf⟩:=dO adx.o;obtain⟨y0,y1,yf⟩:=dO ady.o;go_wp2_with(at_builtin;refine VQ rfl (.tmp 31) (.tmp 32) 56 rfl w2.heap.size 112 3 32 CG Ce.aj (A:=fun _=>True) (.slice ca h.cells.length cc) h.cells rfl HO.o _ rfl bl pM.o (by omega) hz3 ?_;intro v2 w4 hown aB;obtain⟨va,vc,hv2,hvl,wI⟩:=aG.pO hown;rw[bT]at hv2 hvl;subst hv2;have iB:=zh (ah.fG hown);have Ql:=zh aB;have l6:=aB.size;clear hown aB);have hbb:h.cells.length<=(h.cells++bl).length:=by simp
      have Kl:=zh HG.o.2.1;have HLen:=zh (show(h.cells++bl).length=h.cells.length+bl.length from bT);have hN:(h.cells++bl).length<=65536:=by rw[HLen.o];omega
      have adA:Below w.heap.size w w4:=Ql.o.below adz.o (by omega) (fun k hk=>by have :=(ah.lt (ah.fG HO.o) k hk).1;omega);have hkeep:∀k,k<w2.heap.size->w4.heap[k]?=w3.heap[k]?:=fun k hk=>Ql.o.grown.block k (by omega) (fun e=>by have :=(ah.lt (ah.fG HO.o) k e.symm).1;omega);have AY:=zh ((hkeep _ hz2').trans adx.o);have VU:=zh ((hkeep _ hz2).trans ady.o);have anh:=zh adA;clear adA hkeep x0 x1 xf y0 y1 yf;go_loopw[9](fun i wr=>∃j:Nat,h.cells.length<=j/\j<=h.cells.length+bl.length/\i= .int .i64 j/\ane w w2.heap.size (.cells #[.slice a h.cells.length cap,.slice b h.trail.length aR] 59) (.cells #[.slice none 0 0,.slice none 0 0] 59) (mM h.cells.length (h.cells++bl) j) (.slice va (h.cells.length+bl.length) vc) wr)(fun i _=>h.cells.length+bl.length - (intOf i).toNat);case atStart=>exact⟨h.cells.length,zL _,by omega,rfl,anh.o,AY.o,VU.o,by rw[am4];exact iB.o⟩
      case round=>
       obtain⟨j,hj0,hj,rfl,hinv⟩:=hrel;have HI:=zh hinv;obtain⟨hib,hi1,hi2,xZ⟩:=hinv;have hsz5:w.heap.size+1<wr.heap.size:=aJ hi2;clear hib hi1 hi2;by_cases hlt:j<h.cells.length+bl.length
       ·have hlj:j<(h.cells++bl).length:=by rw[HLen.o];exact hlt
        have hsl:(mM h.cells.length (h.cells++bl) j).length=h.cells.length+bl.length:=by rw[Qe,HLen.o]
        obtain⟨g,gc,GX,axO,VV,ani,bI,hfz,hgl,hgb,hcell⟩:=ah.at Ce.kC xZ (by omega);rw[hsl]at GX;simp only[dC,dL]at GX;obtain⟨rfl,rfl⟩:=GX;have hjl:j<(mM h.cells.length (h.cells++bl) j).length:=by rw[Qe];exact hlj
        obtain⟨c,hc⟩:∃c,c=(h.cells++bl)[j]:=⟨_,rfl⟩;have hcj:(mM h.cells.length (h.cells++bl) j)[j]'hjl=c:=by rw[GN,ag (by omega),hc]
        have c0:=hcell j hjl 0 (.int .i64 c.kind) (by rw[hcj];rfl);have c1:=hcell j hjl 1 (.int .i64 c.n) (by rw[hcj];rfl);simp only[qw]at c0;have hbj:j - h.cells.length<bl.length:=by omega
        have hcb:c=bl[j - h.cells.length]:=hc.trans (Ea hj0);have hok:=Kl.o (j - h.cells.length) hbj;simp only at hok;rw[<-hcb]at hok;have Qm:c.Ok:=xZ.2 c (by rw[<-hcj];exact bO _);have HCC:=zh hc;clear hc;have tY:=zh Qm;have jV:=zh hcj;have pM:=zh hsl;have dE:=zh bI;have Es:=zh xZ;clear hcell hcb hcj Qm hsl bI xZ;have axP:(0:Int)<=(j:Int):=zN _;have axQ:(j:Int)<(h.cells.length:Int)+bl.length:=by omega
        by_cases hk:c.kind=0
        ·have hn:0<=c.n/\c.n<65536:=by unfold Ce.fF at hok;omega
         obtain⟨hn0,hn1⟩:=hn;have HK:=zh hk;rw[hk]at c0;clear hk hok;go_wp2_with fail;go_roundw;case rel=>
          refine⟨j+1,by omega,by omega,by go_num,bK HI.o.1 (by simp only;omega) _,?_,?_,?_⟩;·rw[bH _ _ _ _ (by simp;omega)];exact HI.o.2.1
          ·rw[bH _ _ _ _ (by simp;omega)];exact HI.o.2.2.1
          ·rw[adl _ _ _ hj0 hlj,<-HCC.o];refine ah.set Ce.kC Es.o dE.o (by rw[pM.o];exact hlt) (by omega) ?_ ?_;·rw[jV.o,dA,ai HK.o];rfl
           ·rw[dA,ai HK.o];obtain⟨o1,o2,o3⟩:=tY.o;exact⟨o1,by unfold aA;simp only;omega,o3⟩
         case measure=>simp[intOf];omega
        ·have hk':(c.kind==0)=false:=by simpa using hk
         have HK:=zh hk;clear hk hok;go_wp2_with fail;go_roundw;case rel=>refine⟨j+1,by omega,by omega,by go_num,HI.o.1,HI.o.2.1,HI.o.2.2.1,?_⟩;rw[am5 _ _ _ hj0 hlj (by rw[<-HCC.o];exact HK.o)];exact Es.o
         case measure=>simp[intOf];omega
       ·have eH:j=h.cells.length+bl.length:=by omega
        have HJE:=zh eH;have hib:=HI.o.2.1;have hic:=HI.o.2.2.1;obtain⟨x0,x1,xf⟩:=dO hib;obtain⟨y0,y1,yf⟩:=dO hic;have Es:=zh xZ;clear hib hic eH xZ;go_wp2_with fail;refine dD (v:= .tuple #[.agg #[.slice va (h.cells.length+bl.length) vc,.slice b h.trail.length aR],.int .i64 h.cells.length,.int .i64 0]) (by simp[results,Tryz.results33,go_sem,hcs,x0,x1,y0,y1]) rfl ?_;have hb:Below w.heap.size w ((wr.setCell ⟨w.heap.size+1,0,none⟩ (.slice va (h.cells.length+bl.length) vc)).setCell ⟨w.heap.size+1,1,none⟩ (.slice b h.trail.length aR)):=bK (bK HI.o.1 (by simp) _) (by simp) _;rw[gM,ag (dJ HG.o),ag hbig];refine Pure.mk hb ⟨_,rfl,_,_,rfl,?_,?_⟩
        ·have h6:=Es.o;rw[HJE.o]at h6;rw[show mM h.cells.length (h.cells++bl) (h.cells.length+bl.length)=h.cells++bl.map (dA h.cells.length)from by rw[<-HLen.o];exact am6 _ _]at h6;refine rC.anf (ah.kept h6 fun k hk=>?_) (by simp;omega) (fun k hk=>?_);·have :=(h6.lt k hk).1;rw[bH _ _ _ _ (by simp;omega),bH _ _ _ _ (by simp;omega)]
         ·have :=(h6.lt k hk).1;exact .inr (by unfold New;omega)
        ·exact au.mono aW (by omega) (au.keeps aW HTR.o (af.ob hb)) (fun _ _ h=> .inl h)
def Km(n:Int)(r:Value)(_:World):Prop:=r= .int .i64 n
theorem ank{A:Nat->Prop}{w:World}{h:Hp}{vs:List Value}(hh:Hp.rep A w h vs):∃a cap b aR cb qD tb El,vs=[.slice a h.cells.length cap,.slice b h.trail.length aR]/\h.cells.length<=cap/\cap<=maxLen/\h.cells.length<=1048576/\h.trail.length<=aR/\aR<=maxLen/\h.trail.length<=1048576/\Hd (0<h.cells.length->a=some ⟨cb,qD,none⟩/\A cb)/\Hd (mF A w 3 Ce.rep h.cells cb qD)/\Hd (0<h.trail.length->b=some ⟨tb,El,none⟩/\A tb)/\Hd (mF A w 1 pE h.trail tb El):=by obtain⟨a,cap,b,aR,rfl,hc1,hc2,hc3,ht1,ht2,ht3,hc,ht⟩:=Hp.mG hh;obtain⟨_,_,cb,qD,e, -, -, -,ha,he⟩:=hc.at;simp only[dC,dL]at e;obtain⟨rfl,rfl⟩:=e;obtain⟨_,_,tb,El,e, -, -, -,hb,hf⟩:=ht.at;simp only[dC,dL]at e;obtain⟨rfl,rfl⟩:=e;exact⟨a,cap,b,aR,cb,qD,tb,El,rfl,hc1,hc2,hc3,ht1,ht2,ht3,zh ha,zh he,zh hb,zh hf⟩
def anl(l:List Ce)(a0:Int)(i:Nat)(a:Int):Prop:=pF l (l.length+1 - i) a=look l a0/\aA a
theorem look_ok(h:Hp)(a:Int)(ha:aA a)(A:Nat->Prop)(w:World)(vs:List Value)(hh:Hp.rep A w h vs):Calls Tryz.prog 131 #[.agg vs.toArray,.int .i64 a] w (Pure w (Km (look h.cells a))):=by
 obtain⟨va,cap,vb,aR,cb,qD,tb,El,rfl,hc1,hc2,hc3,ht1,ht2,ht3,HA,HE,rE,ku⟩:=ank hh;have HI:=zh ha;clear hh ha;go_enter Tryz.func131,Tryz.ntmps131;go_wp2_with fail;go_loopw[1,10](fun x i wr=>∃(j:Nat)(b:Int),j<=h.cells.length+1/\i= .int .i64 j/\x= .int .i64 b/\Below (w.heap.size+1) (w.alloc (.cells #[.slice va h.cells.length cap,.slice vb h.trail.length aR] 59)) wr/\anl h.cells a j b)(fun _ i _=>h.cells.length+1 - (intOf i).toNat);case atStart=>exact⟨0,a,dn _,rfl,rfl,zB _ _,rfl,HI.o⟩
 case round=>
  obtain⟨j,b,hj,rfl,rfl,hb,hst⟩:=hrel;have HB:=zh hb;have HS:=zh hst.1;have hz:=hb.size;simp only[bQ]at hz;have hz':w.heap.size<wr.heap.size:=hz;have f0:wr.cell? ⟨w.heap.size,0,none⟩=some (.slice va h.cells.length cap):=by rw[hb.cell (by simp)];simp
  have hbi:=hst.2;clear hb hst;by_cases hlt:j<h.cells.length+1
  ·have hlt':(j:Int)<(h.cells.length:Int)+1:=by omega
   have HK:=zh (show h.cells.length+1 - j=(h.cells.length - j)+1 by omega);by_cases hin:Inb h.cells b
   ·obtain⟨v,rfl,hv,hcv⟩:=oq hin;have AZ:=zh hcv;obtain⟨rfl,bC⟩:=HA.o (by omega);have hk2:af A w wr:=(af.alloc _ _ _).trans (af.ob (HB.o.mono (by simp)));obtain⟨c0,c1,c2,i0,i1,i2⟩:=xO HE.o bC hk2 hv;have hlb:cb<wr.heap.size:=fK wr _ c0;have hv0:(0:Int)<=(v:Int):=zN _;have hv1:(v:Int)<(h.cells.length:Int):=by omega
    have dM:=zh hin;clear hk2 hcv hin;by_cases hs:Stop h.cells (v:Int)
    ·have hres:look h.cells a=(v:Int):=by have :=HS.o;rw[HK.o,pF,ag (dJ dM.o),ai hs]at this;exact this.symm
     have l7:=zh hres;unfold Stop at hs;rw[AZ.o]at hs;have HST:=zh hs;clear hres hs;by_cases hk:h.cells[v].kind=0;·have hn:h.cells[v].n=v:=HST.o.resolve_left (dJ hk);rw[hk]at c0;rw[hn]at c1;clear hk hn;go_wp2_with fail;go_ret;exact⟨_,rfl,eB ((HB.o.alloc hz _).mono (by simp)),by unfold Km;rw[l7.o];rfl⟩
     ·have hk':(h.cells[v].kind != 0)=true:=by simpa using hk
      clear hk;go_wp2_with fail;go_ret;exact⟨_,rfl,eB ((HB.o.alloc hz _).mono (by simp)),by unfold Km;rw[l7.o];rfl⟩
    ·have hnx:pF h.cells (h.cells.length - j) h.cells[v].n=look h.cells a:=by have :=HS.o;rw[HK.o,pF,ag (dJ dM.o),ag hs,AZ.o]at this;exact this
     have ji:=zh hnx;unfold Stop at hs;rw[AZ.o]at hs;have hk:h.cells[v].kind=0:=ab7.1 fun e=>hs (.inl e);have hn:¬h.cells[v].n=v:=fun e=>hs (.inr e);have hn':(h.cells[v].n==(v:Int))=false:=by simpa using hn
     rw[hk]at c0;clear hs hk hn hnx;go_wp2_with fail;go_roundw;case rel=>refine⟨j+1,h.cells[v].n,by omega,by go_num,rfl,HB.o.alloc hz _,?_,i1⟩;rw[show h.cells.length+1 - (j+1)=h.cells.length - j by omega];exact ji.o
     case measure=>simp[intOf];omega
   ·have hres:look h.cells a= -1:=by have :=HS.o;rw[HK.o,pF,ai hin]at this;exact this.symm
    have l7:=zh hres;unfold Inb at hin;clear hres;go_wp2_with fail;all_goals first|(exfalso;omega)|(go_ret;exact⟨_,rfl,eB (HB.o.mono (by simp)),by unfold Km;rw[l7.o];rfl⟩)|go_ways
  ·have hres:look h.cells a= -1:=by have :=HS.o;rw[show h.cells.length+1 - j=0 by omega,pF]at this;exact this.symm
   have l7:=zh hres;clear hres;have eH:j=h.cells.length+1:=by omega
   subst eH;go_wp2_with fail;go_ret;exact⟨_,rfl,eB (HB.o.mono (by simp)),by unfold Km;rw[l7.o];rfl⟩
def aQ(u:Value):Value->World->Prop:=fun v _=>v=u
def Kn(base:Nat)(l:List Ce):Value->World->Prop:=fun v w=>jh w base l v
def rR(base:Nat)(l:List Int):Value->World->Prop:=fun v w=>dK w base l v
def rT(R:Value->World->Prop):Prop:=∀v w w',R v w->Below w.heap.size w w'->R v w'
theorem wJ(u:Value):rT (aQ u):=fun _ _ _ h _=>h
theorem CJ(base:Nat)(l:List Ce):rT (Kn base l):=fun v w w' h hb=>ah.below h hb
theorem A7(base:Nat)(l:List Int):rT (rR base l):=fun v w w' h hb=>ah.below h hb
def posts(ps:List (Value->World->Prop))(i:Nat):Value->World->Prop:=ps.getD i fun _ _=>True
theorem wK{ps:List (Value->World->Prop)}(h:∀R∈ps,rT R)(i:Nat)(v:Value)(w w':World)(hp:posts ps i v w)(hb:Below w.heap.size w w'):posts ps i v w':=by
 unfold posts at*;by_cases hi:i<ps.length
 ·have e:ps.getD i (fun _ _=>True)=ps[i]:=by simp[List.getD,hi]
  rw[e]at hp ⊢;exact h _ (bO hi) v w w' hp hb
 ·simp[List.getD,hi]
theorem rU{α β:Type}{f:α->List Value}{ok:α->Prop}{f':β->List Value}{ok':β->Prop}{E E':TypeId}{size size' base base':Nat}{w:World}{l:List α}{l':List β}{v v':Value}(hE:E≠E')(h:ah f ok E size w base l v)(h':ah f' ok' E' size' w base' l' v'):∀k,ownB v=some k->ownB v'≠some k:=by
 intro k hk hk';have key:∀{α:Type}{f:α->List Value}{ok:α->Prop}{E:TypeId}{size base:Nat}{l:List α}{v:Value},ah f ok E size w base l v->ownB v=some k->∃c,w.heap[k]?=some (.cells c E (0,0)):=by
  intro α f ok E size base l v h hk;rcases h.1.2 with⟨_,a,rfl⟩|⟨g,cap,cur,rfl,hc,hb,hg,_⟩;·cases a<;>simp[ownB]at hk
  ·simp only[ownB,Av.1 hc,if_false,dm]at hk;subst hk;exact⟨cur,hg⟩
 obtain⟨c,h1⟩:=key h hk;obtain⟨c',h2⟩:=key h' hk';rw[h1]at h2;simp only[dm,Obj.cells.injEq]at h2;exact hE h2.2.1
def anm(w:World)(base:Nat)(h:Hp)(vs:List Value):Prop:=∃c t,vs=[c,t]/\jh w base h.cells c/\dK w base h.trail t
def VW(base:Nat)(h:Hp):Value->World->Prop:=fun v w=>∃us,v= .agg us.toArray/\anm w base h us
theorem ann(base:Nat)(h:Hp):rT (VW base h):=fun v w w'⟨us,e,c,t,e2,h1,h2⟩hb=>⟨us,e,c,t,e2,ah.below h1 hb,ah.below h2 hb⟩
theorem ah.eD{α:Type}{f:α->List Value}{ok:α->Prop}{E E':TypeId}{size base:Nat}{w:World}{l:List α}{v:Value}{g:Nat}{c:Array Value}{fr:Nat×Nat}(h:ah f ok E size w base l v)(hb:w.heap[g]?=some (.cells c E' fr))(hE:E≠E'):ownB v≠some g:=by
 intro hk;rcases h.1.2 with⟨_,a,rfl⟩|⟨g',cap,cur,rfl,hc,hb',hg,_⟩;·cases a<;>simp[ownB]at hk
 ·simp only[ownB,Av.1 hc,if_false,dm]at hk;subst hk;rw[hg]at hb;simp only[dm,Obj.cells.injEq]at hb;exact hE hb.2.1
theorem gH{w:World}{g:Nat}{E:TypeId}{v0 v1 v2:Value}(h:w.heap[g]?=some (.cells #[v0,v1,v2] E (0,0))):w.cell? ⟨g,0,none⟩=some v0/\w.cell? ⟨g,1,none⟩=some v1/\w.cell? ⟨g,2,none⟩=some v2/\∀o,w.frozen? ⟨g,o,none⟩=false:=⟨(bW h 0).trans rfl,(bW h 1).trans rfl,(bW h 2).trans rfl,fun o=>by simp[World.frozen?,h]⟩
def jY(g base:Nat)(cv tv:Value)(l:List Ce)(t:List Int)(k:Int)(w:World):Prop:=w.heap[g]?=some (.cells #[cv,tv,.int .i64 k] 191 (0,0))/\jh w base l cv/\dK w base t tv/\base<=g/\l.length<=65536/\(t.length:Int)+k<=70000/\ -1<=k/\k<=400
section
variable {g base : Nat} {cv tv : Value} {l : List Ce} {t : List Int} {k : Int} {w : World}
theorem jY.lt(h:jY g base cv tv l t k w):g<w.heap.size/\base<=g/\base<=w.heap.size:=by obtain⟨h1,_,_,h2,_⟩:=h;have :=aJ h1;omega
theorem jY.keeps{w':World}(h:jY g base cv tv l t k w)(hg:w'.heap[g]?=w.heap[g]?)(hc:∀b,ownB cv=some b->w'.heap[b]?=w.heap[b]?)(ht:∀b,ownB tv=some b->w'.heap[b]?=w.heap[b]?):jY g base cv tv l t k w':=by obtain⟨h1,h2,h3,h4⟩:=h;exact⟨hg.trans h1,h2.kept hc,h3.kept ht,h4⟩
theorem jY.below{w':World}(h:jY g base cv tv l t k w)(hb:Below w.heap.size w w'):jY g base cv tv l t k w':=h.keeps (hb.block _ h.lt.1) (fun b e=>hb.block _ (h.2.1.lt b e).2) (fun b e=>hb.block _ (h.2.2.1.lt b e).2)
theorem jY.vals(h:jY g base cv tv l t k w):∃ca cc ta tc,cv= .slice ca l.length cc/\tv= .slice ta t.length tc/\l.length<=cc/\cc<=maxLen/\t.length<=tc/\tc<=maxLen:=by obtain⟨h1,h2,h3,h4⟩:=h;obtain⟨ca,cc,rfl,e1,e2⟩:=ah.val h2;obtain⟨ta,tc,rfl,e3,e4⟩:=ah.val h3;exact⟨ca,cc,ta,tc,rfl,rfl,e1,e2,e3,e4⟩
theorem jY.rep(h:jY g base cv tv l t k w):Hp.rep (fun _=>True) w ⟨l,t⟩ [cv,tv]:=by obtain⟨h1,h2,h3,h4,h5,h6,h7,h8⟩:=h;exact⟨cv,tv,rfl,ah.sl Ce.kC Ce.AV h2 (by omega) (fun _ _=>trivial),ah.sl dY zC h3 (by omega) (fun _ _=>trivial)⟩
theorem jY.turn{k':Int}(h:jY g base cv tv l t k w)(h1: -1<=k')(h2:k'<=k):jY g base cv tv l t k' (w.setCell ⟨g,2,none⟩ (.int .i64 k')):=by
 obtain⟨e1,e2,e3,e4,e5,e6,e7,e8⟩:=h;refine⟨(bG e1 2 _).trans rfl,e2.kept fun b hb=>?_,e3.kept fun b hb=>?_,e4,e5,by omega,by omega,by omega⟩;·exact bH _ _ _ _ (fun e=>ah.eD e2 e1 (by decide) (hb.trans (congrArg some e)))
 ·exact bH _ _ _ _ (fun e=>ah.eD e3 e1 (by decide) (hb.trans (congrArg some e)))
end
theorem CK(g o:Nat)(w:World)(u:Value):Ch (fun b=>b=g) w (w.setCell ⟨g,o,none⟩ u):=(Ch.refl (fun b=>b=g) w).setCell (p:=⟨g,o,none⟩) (Or.inl (show g=g from rfl)) u
theorem Ch.Qn{w w':World}{g:Nat}(h:Ch (fun b=>b=g) w w')(o:Nat)(u:Value):Ch (fun b=>b=g) w (w'.setCell ⟨g,o,none⟩ u):=h.setCell (p:=⟨g,o,none⟩) (Or.inl (show g=g from rfl)) u
theorem jh.cell{w:World}{base:Nat}{l:List Ce}{ca:Option Addr}{cc:Nat}(h:jh w base l (.slice ca l.length cc)){i:Nat}(hi:i<l.length):∃b,ca=some ⟨b,0,none⟩/\ownB (.slice ca l.length cc)=some b/\w.cell? ⟨b,i*3,none⟩=some (.int .i64 l[i].kind)/\w.cell? ⟨b,i*3+1,none⟩=some (.int .i64 l[i].n)/\w.cell? ⟨b,i*3+2,none⟩=some (.string l[i].s)/\l[i].Ok/\(∀o,w.frozen? ⟨b,o,none⟩=false)/\b<w.heap.size/\base<=b:=by obtain⟨b,cap,e,h0,h1,h2,h3,h4,h5,h6,h7⟩:=ah.at Ce.kC h (by omega);simp only[dC,dL]at e;obtain⟨rfl,rfl⟩:=e;exact⟨b,rfl,h3,h7 i hi 0 _ rfl,h7 i hi 1 _ rfl,h7 i hi 2 _ rfl,h.2 _ (bO hi),h4,h5,h6⟩
def Still(r:Value)(w:World)(e:Ending)(w':World):Prop:=e= .returned r/\w=w'
theorem zD(g base:Nat)(cv tv:Value)(l:List Ce)(t:List Int)(k:Int)(w:World)(h:jY g base cv tv l t k w)(i:Nat)(hi:i<l.length):Calls Tryz.prog 154 #[.pointer (some ⟨g,0,none⟩),.int .i64 (i:Int)] w (Still (.bool (l[i].kind==0)) w):=by
 obtain⟨ca,cc,ta,tc,rfl,rfl,e1,e2,e3,e4⟩:=h.vals;obtain⟨h1,h2,h3,h4,h5,h6,h7,h8⟩:=h;obtain⟨x0,x1,x2,xf⟩:=gH h1;obtain⟨b,rfl, -,c0,c1,c2,hok, -⟩:=jh.cell h2 hi;have hi0:(0:Int)<=(i:Int):=zN _;have hi1:(i:Int)<(l.length:Int):=by omega
 clear h1 h2 h3 hok;go_enter Tryz.func154,Tryz.ntmps154;go_wp2_with fail;go_ret;exact⟨rfl,rfl⟩
def ano(g base:Nat)(cv tv:Value)(l:List Ce)(t:List Int)(w:World)(p:Bool×Int)(e:Ending)(w':World):Prop:=e= .returned (.bool p.1)/\Ch (fun b=>b=g) w w'/\jY g base cv tv l t p.2 w'
def Qo(g base:Nat)(cv tv:Value)(l:List Ce)(t:List Int)(v:Int)(k:Nat):Prop:=∀(a:Int)(w:World),aA a->jY g base cv tv l t k w->Calls Tryz.prog 156 #[.pointer (some ⟨g,0,none⟩),.int .i64 v,.int .i64 a] w (ano g base cv tv l t w (bR l v k [a]))
theorem anp(g base:Nat)(cv tv:Value)(l:List Ce)(t:List Int)(v:Int):Qo g base cv tv l t v 0:=by intro a w ha h;have HU:=zh h;obtain⟨ca,cc,ta,tc,rfl,rfl,e1,e2,e3,e4⟩:=h.vals;have hlt:=h.lt;obtain⟨h1,h2,h3,h4,h5,h6,h7,h8⟩:=h;obtain⟨x0,x1,x2,xf⟩:=gH h1;have hcs:=dH;clear h1 h2 h3;go_enter Tryz.func156,Tryz.ntmps156;go_wp2_with fail;go_ret;exact⟨rfl,CK _ _ _ _,HU.o.turn (k':= -1) (by decide) (by decide)⟩
theorem adC(l:List Ce)(v:Int)(w:Nat)(z:Int)(r:List Int):bR l v (w+1) (z::r)=if look l z<0 then(false, -1)else if(cellAt l (look l z)).kind=0 then(if look l z=v then(true,(w:Int))else bR l v w r)else if(cellAt l (look l z)).kind=3 then bR l v w (argsAt (look l z) (cellAt l (look l z)).n++r)else bR l v w r:=rfl
theorem GY(a n:Int)(j:Nat)(h:j<(argsAt a n).length):(argsAt a n)[j]=a+1+j:=by simp[argsAt]
theorem anq(g base:Nat)(cv tv:Value)(l:List Ce)(t:List Int)(v:Int)(hv:aA v)(k:Nat)(hg:gU l)(ih:∀m,m<=k->Qo g base cv tv l t v m):Qo g base cv tv l t v (k+1):=by
 intro a w ha h;have HU:=zh h;obtain⟨ca,cc,ta,tc,rfl,rfl,e1,e2,e3,e4⟩:=h.vals;have hlt:=h.lt;have jC:=zh (HU.o.turn (k':=k) (by omega) (by omega));obtain⟨h1,h2,h3,h4,h5,h6,h7,h8⟩:=h;obtain⟨x0,x1,x2,xf⟩:=gH h1;have hcs:=dH;have adD:(k:Int)<=400:=by omega
 have HI:=zh ha;have IH:=zh ih;have HG:=zh hg;have HV:=zh hv;have hk0:(0:Int)<=(k:Int):=zN _;rw[show((k+1:Nat):Int)=(k:Int)+1 by omega]at x2;clear h1 h2 h3 h6 h7 h8 ha ih hg hv;go_enter Tryz.func156,Tryz.ntmps156;go_wp2_with fail;refine(look_ok ⟨l,t⟩ a HI.o (fun _=>True) _ _ jC.o.rep).mono ?_;rintro e w2⟨r,rfl,hb2,rfl⟩;have dx:=zh (jC.o.below hb2);have iL:=zh (show Ch (fun b=>b=g) w w2 from(CK _ _ _ _).tb hb2);obtain⟨y0,y1,y2,yf⟩:=gH dx.o.1;have hz2:=hb2.size;simp only[qm]at hz2;clear x0 x1 x2 xf hb2;have hge:=acT l a;by_cases hneg:look l a<0
 ·have hp:bR l v (k+1) [a]=(false, -1):=by rw[adC,ai hneg]
  have HP:=zh hp;clear hp;go_wp2_with fail;go_ret;rw[HP.o];exact⟨rfl,iL.o.Qn _ _,dx.o.turn (k':= -1) (by decide) (by omega)⟩
 ·obtain⟨x,hx,hxl,hcx⟩:=oq (JP (l:=l) (a:=a) (by omega)).1;have hin:bR l v (k+1) [a]=if l[x].kind=0 then(if(x:Int)=v then(true,(k:Int))else(false,(k:Int)))else if l[x].kind=3 then bR l v k (argsAt (x:Int) l[x].n)else(false,(k:Int)):=by rw[adC,ag hneg,hcx,hx,Gy,tN]
  have wL:=HG.o x hxl;have dM:=zh hin;have HX:=zh hx;rw[hx];have hx0:(0:Int)<=(x:Int):=zN _;have hx1:(x:Int)<(l.length:Int):=by omega
  obtain⟨cb,rfl, -,c0,c1,c2,hok, -,hcb, -⟩:=jh.cell dx.o.2.1 hxl;clear hin hcx hx hneg hge;go_wp2_with fail;refine(zD _ _ _ _ _ _ _ _ dx.o x hxl).mono ?_;rintro e w3⟨rfl,rfl⟩;by_cases hk:l[x].kind=0
  ·rw[hk]at c0 ⊢;have HK:=zh hk;clear hk wL;by_cases hxv:(x:Int)=v
   ·have hr:=zh (show bR l v (k+1) [a]=(true,(k:Int))by rw[dM.o,ai HK.o,ai hxv]);have hq:((x:Int)==v)=true:=by simpa using hxv
    clear hxv;go_wp2_with fail;go_ret;rw[hr.out];exact⟨rfl,iL.o,dx.o⟩
   ·have hr:=zh (show bR l v (k+1) [a]=(false,(k:Int))by rw[dM.o,ai HK.o,ag hxv]);have hq:((x:Int)==v)=false:=by simpa using hxv
    clear hxv;go_wp2_with fail;go_ret;rw[hr.out];exact⟨rfl,iL.o,dx.o⟩
  ·have hk':(l[x].kind==0)=false:=by simpa using hk
   rw[hk'];by_cases hk3:l[x].kind=3
   ·have hn:1<=l[x].n/\l[x].n<=4/\(x:Int)+l[x].n<l.length:=by unfold Ce.fF at wL;omega
    obtain⟨hn1,rV,hnl⟩:=hn;obtain⟨nn,hnn⟩:=dQ (show 0<=l[x].n by omega);have hr:=zh (show bR l v (k+1) [a]=bR l v k (argsAt (x:Int) (nn:Int))by rw[dM.o,ag hk,ai hk3,hnn]);have hal:(argsAt (x:Int) (nn:Int)).length=nn:=by simp[argsAt]
    rw[hnn]at c1 hn1 rV hnl;rw[hk3]at c0;have pQ:=zh hal;have hlb:cb<w2.heap.size:=hcb;have anr:nn<=4:=by omega
    clear hk hk' hk3 wL hal hnn;go_wp2_with fail;have A8:=zh (dx.o.below ((zB _ _).alloc (zL _) (.cells #[.int .i64 3,.int .i64 (nn:Int),.string l[x].s] 112)));have wM:=zh (iL.o.alloc (.cells #[.int .i64 3,.int .i64 (nn:Int),.string l[x].s] 112));have HB3:=zh (bJ w2 (.cells #[.int .i64 3,.int .i64 (nn:Int),.string l[x].s] 112));have hne:g≠w2.heap.size:=by omega
    clear c0 c1 c2 y0 y1 y2 yf;go_loopw[8](fun i wr=>∃j m:Nat,j<=nn/\i= .int .i64 ((j:Int)+1)/\m<=k/\bR l v k ((argsAt (x:Int) (nn:Int)).take j)=(false,(m:Int))/\jY g base (.slice (some ⟨cb,0,none⟩) l.length cc) (.slice ta t.length tc) l t m wr/\Ch (fun b=>b=g) w wr/\wr.heap[w2.heap.size]?=some (.cells #[.int .i64 3,.int .i64 (nn:Int),.string l[x].s] 112 (0,0)))(fun i _=>nn+1 - (intOf i).toNat);case atStart=>exact⟨0,k,dn _,rfl,zL _,by rw[mE,Gy],A8.o,wM.o,HB3.o⟩
    case round=>
     obtain⟨j,m,hj,rfl,hm,htk,hu,hch,hbx⟩:=hrel;have fT:=zh htk;have l8:=zh hu;have wN:=zh hch;have bX:=zh hbx;obtain⟨z0,z1,z2,zf⟩:=gH hbx;clear htk hu hch hbx;by_cases hlt:j<nn
     ·have hja:j<(argsAt (x:Int) (nn:Int)).length:=by rw[pQ.o];exact hlt
      have hsplit:argsAt (x:Int) (nn:Int)=(argsAt (x:Int) (nn:Int)).take j++(((x:Int)+1+(j:Int))::(argsAt (x:Int) (nn:Int)).drop (j+1)):=by
       conv=>lhs;rw[<-Ju j (argsAt (x:Int) (nn:Int))]
       rw[Js hja,GY]
      have hnext:(argsAt (x:Int) (nn:Int)).take (j+1)=(argsAt (x:Int) (nn:Int)).take j++[(x:Int)+1+j]:=by rw[dX hja,GY]
      have ve:=zh (show bR l v k (argsAt (x:Int) (nn:Int))=bR l v m ([(x:Int)+1+j]++(argsAt (x:Int) (nn:Int)).drop (j+1))by
       conv=>lhs;rw[hsplit]
       rw[JQ,fT.o,ag (by simp)];simp);have ji:=zh (show bR l v k ((argsAt (x:Int) (nn:Int)).take (j+1))=bR l v m [(x:Int)+1+j]by rw[hnext,JQ,fT.o,ag (by simp)];simp);clear hsplit hnext hja;go_wp2_with fail;rw[show(x:Int)+((j:Int)+1)=(x:Int)+1+j by omega];refine(IH.out m hm ((x:Int)+1+j) wr (by unfold aA;omega) l8.o).mono ?_;rintro e w5⟨rfl,lH,mO⟩;have eF:=zh mO;have nG:=zh lH;have dF:=zh ((lH.block w2.heap.size (aJ bX.o) (fun e=>hne e.symm)).trans bX.o);obtain⟨q0,q1,q2,qf⟩:=gH eF.o.1;have CL:=Gz l v m [(x:Int)+1+j];have happ:=JQ l v m [(x:Int)+1+j] ((argsAt (x:Int) (nn:Int)).drop (j+1));have x8:=JR l v m [(x:Int)+1+j];generalize bR l v m [(x:Int)+1+j]=p at*;obtain⟨pf,pw⟩:=p;simp only at CL happ x8 q0 q1 q2;have adE:=zh happ;have Ko:=zh x8;clear mO lH happ x8 z0 z1 z2 zf;obtain⟨hp1,hp2⟩:=CL;cases pf with
       |true=>have hpw:0<=pw:=Ko.o rfl;have hres:=zh (show bR l v (k+1) [a]=(true,pw)by rw[hr.out,ve.o,adE.o,ai (.inl rfl)]);go_wp2_with fail;go_ret;rw[hres.o];exact⟨rfl,wN.o.trans nG.o (fun _ h=> .inl h),eF.o⟩
       |false=>
        by_cases hpw:pw<0;·have hres:=zh (show bR l v (k+1) [a]=(false,pw)by rw[hr.out,ve.o,adE.o,ai (.inr hpw)]);have hpd:=zh (decide_eq_false (show ¬(0:Int)<=pw by omega));go_wp2_with fail;go_ret;rw[hres.o];exact⟨congrArg Ending.returned (congrArg Value.bool hpd.out),wN.o.trans nG.o (fun _ h=> .inl h),eF.o⟩
        ·obtain⟨pm,rfl⟩:=dQ (show 0<=pw by omega);go_wp2_with fail;go_roundw;case rel=>exact⟨j+1,pm,by omega,by go_num,by omega,ji.o,eF.o,wN.o.trans nG.o (fun _ h=> .inl h),dF.o⟩
         case measure=>simp[intOf];omega
     ·have eH:j=nn:=by omega
      have hres:=zh (show bR l v (k+1) [a]=(false,(m:Int))by have :=fT.o;rw[iZ (by rw[pQ.o];omega)]at this;rw[hr.out,this]);clear eH;go_wp2_with fail;go_ret;rw[hres.o];exact⟨rfl,wN.o,l8.o⟩
   ·have hr:=zh (show bR l v (k+1) [a]=(false,(k:Int))by rw[dM.o,ag hk,ag hk3]);have Kq:(l[x].kind==3)=false:=by simpa using hk3
    have hlb:cb<w2.heap.size:=hcb;clear hk hk3 wL;go_wp2_with fail;go_ret;rw[hr.out];exact⟨rfl,iL.o.alloc _,dx.o.below ((zB _ _).alloc (zL _) _)⟩
theorem adF(g base:Nat)(cv tv:Value)(l:List Ce)(t:List Int)(v:Int)(hv:aA v)(hg:gU l):∀k,Qo g base cv tv l t v k:=by intro k;induction k using Nat.strongRecOn with|_ k ih=>cases k with|zero=>exact anp g base cv tv l t v|succ k=>exact anq g base cv tv l t v hv k hg fun m hm=>ih m (by omega)
