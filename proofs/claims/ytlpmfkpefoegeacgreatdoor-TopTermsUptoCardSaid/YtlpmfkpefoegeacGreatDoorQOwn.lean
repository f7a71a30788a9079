import Derived.Test.YtlpmfkpefoegeacGreatDoorQIsHeap
namespace Go.Proofs.YtlpmfkpefoegeacGreatDoor
set_option maxRecDepth 99999
set_option maxHeartbeats 0
set_option linter.all false
open Go.RowKit
section
variable {P : Program} {ops : Array Oper} {Q : Exit → Act → World → Prop}
def aY(a:Array Oper)(k:Nat):Option Nat:=(a[k]?).bind (·.dst)
def MW(a:Array Oper)(i s:Nat):Bool:=(List.range a.size).all λk=>aY a k != some s||waits a k i
def Jw(a:Array Oper)(n:Nat):Bool:=(List.range a.size).all λk=>(match aY a k with|some s=>decide (s<n)|none=>true)&&(List.range a.size).all λj=>j==k||aY a j==none||aY a j != aY a k
def Gv{k s:Nat}(h:aY ops k=some s):k<ops.size:=by unfold aY at h;cases a:ops[k]? with|none=>rw[a]at h;simp at h|some o=>exact(wZ.1 a).1
def aoa{n:Nat}(h:Jw ops n=true):(∀k s,aY ops k=some s->s<n)/\∀j k s,aY ops k=some s->aY ops j=some s->j=k:=by
 unfold Jw at h;simp only[oP,mh,ko,yC,rE,Jg]at h;refine⟨λk s b=>?_,λj k s b c=>?_⟩;·have :=(h k (Gv b)).1;rw[b]at this;simpa using this
 ·have :=(h k (Gv b)).2 j (Gv c);rcases this with(a|a)|a;·exact a
  ·rw[c]at a;cases a
  ·rw[c,b]at a;exact absurd rfl a
def je(f:Nat->Value):Nat->List Oper->Array Value->Array Value|_,[],t=>t|i,o::r,t=>je f (i+1) r (match o.dst with|some s=>t.setIfInBounds s (f i)|none=>t)
def MX(f:Nat->Value):∀(l:List Oper)(i:Nat)(t:Array Value),(je f i l t).size=t.size|[],_,_=>rfl|o::r,i,t=>by unfold je;rw[MX f r];cases o.dst<;>simp
theorem MZ(f:Nat->Value)(s:Nat):∀(l:List Oper)(i:Nat)(t:Array Value),s<t.size->((∀(k:Nat)(o:Oper),l[k]?=some o->o.dst≠some s)->(je f i l t)[s]?=t[s]?)/\(∀(k:Nat)(o:Oper),l[k]?=some o->o.dst=some s->(∀(j:Nat)(o':Oper),l[j]?=some o'->o'.dst=some s->j=k)->(je f i l t)[s]?=some (f (i+k)))
 |[],_,_,_=>⟨fun _=>rfl,fun k o h=>by simp at h⟩
 |o::r,i,t,hs=>by
  unfold je;have hs':s<(match o.dst with|some s=>t.setIfInBounds s (f i)|none=>t).size:=by cases o.dst<;>simpa using hs
  have ih:=MZ f s r (i+1) _ hs';refine⟨fun h=>?_,fun k o' hk hd hu=>?_⟩;·rw[ih.1 (fun k o' hk=>h (k+1) o' (by simpa using hk))];have h0:=h 0 o (by simp);cases hd:o.dst with|none=>rfl|some d=>simp only;rw[BS (by rintro rfl;exact h0 hd)]
  ·cases k with|zero=>simp only[yx,bW]at hk;subst hk;rw[ih.1 (fun j o' hj hd'=>by have :=hu (j+1) o' (by simpa using hj) hd';omega)];simp only[hd,rD];rw[DX hs]|succ k=>rw[ih.2 k o' (by simpa using hk) hd (fun j o'' hj hd'=>by have :=hu (j+1) o'' (by simpa using hj) hd';omega)];congr 2;omega
def vO(a:Array Oper):Bool:=(List.range a.size).all λi=>((a[i]?).map λo=>o.after.all λe=>!Region.binds .any e||decide (e.on<i)).getD true
def Rn(h:vO ops=true)(a:Array Bool)(n:a.size=ops.size)(l:Region.ready .any ops a=[]):∀k,k<ops.size->a.getD k false=true:=by
 intro k;induction k using Nat.strongRecOn with
  |_ k j=>
   intro b;have f:k<a.size:=zB;cases hb:a.getD k false with
    |true=>rfl
    |false=>
     exfalso;have :k∈Region.ready .any ops a:=by
      refine mem_ready.2 ⟨?_,ops[k],qD b,λe m g=>?_⟩;·simp only[Array.getD,f,Aq]at hb ⊢;exact hb
      ·have d:e.on<k:=by unfold vO at h;simp only[oP,mh]at h;have c:=h k b;rw[qD b]at c;simp only[pW,rC,aAp]at c;have i:=c e m;simp only[g,adR,adS,qE]at i;exact i
       exact j e.on d zB
     rw[l]at this;cases this
structure aey (ops : Array Oper) (Po : Nat → Value → World → Prop) (a0 : Act) (f : Nat → Value) (listed : Array Bool) (a : Act) (w : World) : Prop where
  defers : a.defers = a0.defers
  size : a.tmps.size = a0.tmps.size
  old : ∀ s, (∀ k, listed.getD k false = true → aY ops k ≠ some s) → a.tmps[s]? = a0.tmps[s]?
  new : ∀ k, k < ops.size → listed.getD k false = true → Po k (f k) w ∧ ∀ s, aY ops k = some s → a.tmps[s]? = some (f k)
  closed : ∀ k j, listed.getD k false = true → waits ops k j = true → listed.getD j false = true
def aob{D:Act}{Inv:World->Prop}{Po:Nat->Value->World->Prop}{Rl:Nat->World->World->Prop}(hd:Jw ops D.tmps.size=true)(hst:∀i j v w w',i≠j->waits ops i j=false->Po i v w->Rl j w w'->Po i v w')(Y:∀j w w',Inv w->Rl j w w'->Inv w')(hop:∀i,i<ops.size->∀(f:Nat->Value)(a:Act)(w:World),Inv w->(∀k,waits ops i k=true->Po k (f k) w)->(∀k s,waits ops i k=true->aY ops k=some s->a.tmps[s]?=some (f k))->(∀s,MW ops i s=true->a.tmps[s]?=D.tmps[s]?)->wpOp P ops Q i (λa' w'=>∃v,a'=a.put (aY ops i) v/\Po i v w'/\Rl i w w') a w)(Z:∀(f:Nat->Value)(w:World),Inv w->(∀i,i<ops.size->Po i (f i) w)->Q .normal ⟨je f 0 ops.toList D.tmps,D.defers⟩ w)(hbk:vO ops=true):∀(fuel:Nat)(f:Nat->Value)(c:Array Bool)(a:Act)(w:World),c.size=ops.size->(c.toList.filter (· ==false)).length<=fuel->Inv w->aey ops Po D f c a w->wpAny P .any ops Q fuel c a w:=by
 obtain⟨hlt,yI⟩:=aoa hd;have C:∀(f:Nat->Value)(c:Array Bool)(a:Act)(w:World),c.size=ops.size->Inv w->aey ops Po D f c a w->Region.ready .any ops c=[]->Q .normal a w:=by
  intro f c a w u J p K;have H:=Rn hbk c u K;have :a=⟨je f 0 ops.toList D.tmps,D.defers⟩:=by
   obtain⟨t,d⟩:=a;have A:=p.defers;have R:=p.size;simp only at A R;subst A;congr 1;refine adI λs=>?_;by_cases q:s<D.tmps.size
   ·have hg:=MZ f s ops.toList 0 D.tmps q;by_cases S:∃k,aY ops k=some s
    ·obtain⟨k,g⟩:=S;have y:=Gv g;have e1:=(p.new k y (H k y)).2 s g;simp only at e1;rw[e1];have U:ops[k]?=some ops[k]:=qD y;have hkd:ops[k].dst=some s:=by unfold aY at g;rw[U]at g;simpa using g
     rw[hg.2 k ops[k] (by rw[nP];exact U) hkd (λj o' N M=>yI j k s g (by unfold aY;rw[<-nP,N];simpa using M))];simp
    ·rw[hg.1 (λk o g M=>S ⟨k,by unfold aY;rw[<-nP,g];simpa using M⟩)];exact p.old s (λk _ g=>S ⟨k,g⟩)
   ·rw[Ai zB,Ai (by rw[MX];omega)]
  rw[this];exact Z f w J λi hi=>(p.new i hi (H i hi)).1
 intro fuel;induction fuel with
  |zero=>
   intro f c a w u hn J p;have K:Region.ready .any ops c=[]:=by
    refine List.eq_nil_iff_forall_not_mem.2 λj N=>?_;obtain⟨G,oj,hoj,_⟩:=mem_ready.1 N;have hjl:j<c.size:=by rw[u];exact(wZ.1 hoj).1
    have :c.toList.filter (· ==false)=[]:=Jb.1 zB;rw[ady]at this;have h3:=this c[j] zh;simp[Array.getD,hjl]at G;simp[G]at h3
   exact⟨K,C f c a w u J p K⟩
  |succ fuel ih=>
   intro f c a w u hn J p;refine⟨C f c a w u J p,λi hi=>?_⟩;obtain⟨oW,oi,T,sP⟩:=mem_ready.1 hi;have hil:i<ops.size:=(wZ.1 T).1;have B:∀k,waits ops i k=true->c.getD k false=true:=λk g=>by simp only[waits,T,pW,rC]at g;obtain⟨e,S,hb⟩:=Mf.1 g;simp only[ko,rE]at hb;rw[<-hb.2];exact sP e S hb.1
   have y:∀k,c.getD k false=true->k<ops.size:=λk g=>by
    rw[<-u];by_cases h:k<c.size;·exact h
    ·simp[Array.getD,h]at g
   have z:c.getD i false=false:=by
    have :i<c.size:=zB;simp only[Array.getD,this,Aq]at oW ⊢;exact oW
   refine QZ ?_ (hop i hil f a w J (λk g=>(p.new k (y k (B k g)) (B k g)).1) (λk s g q=>(p.new k (y k (B k g)) (B k g)).2 s q) (λs q=>p.old s λk g=>?_))
   ·rintro a' w'⟨v,rfl,hp,K⟩;have F:∀k,(c.setIfInBounds i true).getD k false=true->k=i\/(k≠i/\c.getD k false=true):=λk g=>by
     by_cases n:k=i;·exact .inl n
     ·refine .inr ⟨n,?_⟩;rwa[sI false (sJ n)]at g
    refine ih (λk=>if k=i then v else f k) _ _ _ (by simpa using u) ?_ (Y _ _ _ J K) ⟨?_,?_,λs q=>?_,λk g hl=>?_,λk j g N=>?_⟩
    ·have A:i<c.toList.length:=by simp;omega
     have R:c.toList[i]?=some false:=by
      have h3:i<c.size:=zB;simp only[Array.getD,h3,Aq]at z;rw[nP,qD h3];exact congrArg some z
     have h4:∀(l:List Bool)(i:Nat),l[i]?=some false->((l.set i true).filter (· ==false)).length+1=(l.filter (· ==false)).length:=by intro l;induction l with|nil=>intro i h;simp at h|cons b r ihr=>intro i h;cases i with|zero=>simp only[yx,bW]at h;subst h;simp|succ i=>have :=ihr i (by simpa using h);cases b<;>simp_all
     have h5:=h4 _ _ R;rw[V7];omega
    ·unfold Act.put;split<;>exact p.defers
    ·unfold Act.put;split<;>simp[p.size]
    ·have A:aY ops i≠some s:=q i (by rw[F6,DX zB];rfl);rw[show(a.put (aY ops i) v).tmps[s]?=a.tmps[s]? by unfold Act.put;cases hdi:aY ops i with|none=>rfl|some d=>simp only;rw[BS (by rintro rfl;exact A hdi)]];refine p.old s λk g=>q k ?_;by_cases n:i=k;·subst n;rw[z]at g;cases g
     ·rwa[sI false n]
    ·rcases F k hl with rfl|⟨n,E⟩;·simp only[if_true];refine⟨hp,λs q=>?_⟩;unfold Act.put;rw[q];simp only;rw[DX (by rw[p.size];exact hlt k s q)]
     ·simp only[O n];obtain⟨A,R⟩:=p.new k g E;have hnw:waits ops k i=false:=by cases hwk:waits ops k i with|false=>rfl|true=>have :=p.closed k i E hwk;rw[z]at this;cases this
      refine⟨hst _ _ _ _ _ n hnw A K,λs q=>?_⟩;unfold Act.put;cases hdi:aY ops i with|none=>exact R s q|some d=>simp only;rw[BS (by rintro rfl;exact n (yI k i _ hdi q))];exact R s q
    ·have L:c.getD j false=true:=by
      rcases F k g with rfl|⟨_,E⟩;·exact B j N
      ·exact p.closed k j E N
     by_cases V:i=j;·subst V;rw[z]at L;cases L
     ·rw[sI false V];exact L
   ·intro hks;unfold MW at q;simp only[oP,mh,Jg,yC]at q;rcases q k (y k g)with A|A;·exact A hks
    ·have :=p.closed k i g A;rw[z]at this;cases this
def aoc{p:Nat}{b:Act}{h:World}{Inv:World->Prop}{Po:Nat->Value->World->Prop}{Rl:Nat->World->World->Prop}(q:P.follows .mixedOrders=true)(r:Jw ops b.tmps.size=true)(n:vO ops=true)(t:Inv h.drew)(l:∀i j v w w',i≠j->waits ops i j=false->Po i v w->Rl j w w'->Po i v w')(e:∀j w w',Inv w->Rl j w w'->Inv w')(m:∀i,i<ops.size->∀(f:Nat->Value)(a:Act)(w:World),Inv w->(∀k,waits ops i k=true->Po k (f k) w)->(∀k s,waits ops i k=true->aY ops k=some s->a.tmps[s]?=some (f k))->(∀s,MW ops i s=true->a.tmps[s]?=b.tmps[s]?)->wpOp P ops Q i (λa' w'=>∃v,a'=a.put (aY ops i) v/\Po i v w'/\Rl i w w') a w)(g:∀(f:Nat->Value)(w:World),Inv w->(∀i,i<ops.size->Po i (f i) w)->Q .normal ⟨je f 0 ops.toList b.tmps,b.defers⟩ w):(Code.region p ops true).wp P Q b h:=by
 have d:∀k,(Array.replicate ops.size false).getD k false=false:=λk=>by simp only[F6,adx];split<;>rfl
 refine WA q (aob r l e m g n ops.size (λ_=>undef) (Array.replicate ops.size false) b h.drew zh ?_ t ⟨rfl,rfl,λ_ _=>rfl,λk _ c=>?_,λk j c _=>?_⟩);·refine dm (List.length_filter_le _ _) zh
 ·rw[d]at c;cases c
 ·rw[d]at c;cases c
def ay(P:Program)(i:Operand->Value)(o:Oper)(w:World)(R:Value->World->Prop):Prop:=match(execOp i o).run P w with| .ok (.value v) a=>R v a| .ok .skip a=>R undef a| .ok (.enter f args) a=>Calls P f args a λe b=>∃v,e= .returned v/\R v b| .ok (.row c args) a=>Rows P c args a λv b=>R v b|_=>False
def Ro{i:Nat}{o:Oper}{a:Act}{w:World}{R:Value->World->Prop}(g:ops[i]?=some o)(h:(Region.wanted o (yielded ops a.tmps)=true/\ay P a.eval o w R)\/(Region.wanted o (yielded ops a.tmps)=false/\R undef w)):wpOp P ops Q i (λa' w'=>∃v,a'=a.put (aY ops i) v/\R v w') a w:=by
 have l:aY ops i=o.dst:=by simp[aY,g]
 unfold Go.wpOp;simp only[g];rw[l];rcases h with⟨b,h⟩|⟨b,h⟩
 ·rw[G b];left;unfold Oper.wp;unfold ay at h;generalize(execOp a.eval o).run P w=r at*;cases r with
   |ok n w'=>
    cases n<;>simp only[Oper.upon]at h ⊢;case value v=>exact⟨v,rfl,h⟩
    case skip=>exact⟨_,rfl,h⟩
    case enter f args=>exact h.mono λe d c=>by obtain⟨v,rfl,k⟩:=c;exact⟨v,rfl,k⟩
    case row row args=>exact Rows.mono h λu d c=>⟨u,rfl,c⟩
   |halt x w'=>cases x<;>simp only at h
 ·rw[O (by simp[b])];exact⟨_,rfl,h⟩
def Xh{o:Oper}{f:Nat->Option Bool}(h:o.guard=none):Region.wanted o f=true:=by simp[Region.wanted,h]
def zW{o:Oper}{f:Nat->Option Bool}{A B:Prop}(h:A)(a:o.guard=none:=by rfl):(Region.wanted o f=true/\A)\/B:=Or.inl ⟨Xh a,h⟩
def aez{p:Nat}{b:Act}{m:World}{Inv:World->Prop}{Po:Nat->Value->World->Prop}{Rl:Nat->World->World->Prop}(q:P.follows .mixedOrders=true)(r:Jw ops b.tmps.size=true)(h:vO ops=true)(z:Inv m.drew)(e:∀i j v w w',i≠j->waits ops i j=false->Po i v w->Rl j w w'->Po i v w')(c:∀j w w',Inv w->Rl j w w'->Inv w')(g:∀i o,ops.toList[i]?=some o->∀(f:Nat->Value)(a:Act)(w:World),Inv w->(∀k,waits ops i k=true->Po k (f k) w)->(∀k s,waits ops i k=true->aY ops k=some s->a.tmps[s]?=some (f k))->(∀s,MW ops i s=true->a.tmps[s]?=b.tmps[s]?)->(Region.wanted o (yielded ops a.tmps)=true/\ay P a.eval o w (λv w'=>Po i v w'/\Rl i w w'))\/(Region.wanted o (yielded ops a.tmps)=false/\Po i undef w/\Rl i w w))(d:∀(f:Nat->Value)(w:World),Inv w->(∀i,i<ops.size->Po i (f i) w)->Q .normal ⟨je f 0 ops.toList b.tmps,b.defers⟩ w):(Code.region p ops true).wp P Q b m:=aoc q r h z e c (λi n f a w y x u t=>Ro (qD n) (g i _ (by rw[nP,qD n]) f a w y x u t)) d
def aeA{m:Nat}{b:Act}{l:World}{Inv:World->Prop}{Po:Nat->Value->World->Prop}{Rl:World->World->Prop}(n:P.follows .mixedOrders=true)(p:Jw ops b.tmps.size=true)(h:vO ops=true)(q:Inv l.drew)(e:∀i v w w',Po i v w->Rl w w'->Po i v w')(c:∀w w',Inv w->Rl w w'->Inv w')(g:∀i o,ops.toList[i]?=some o->∀(f:Nat->Value)(a:Act)(w:World),Inv w->(∀k,waits ops i k=true->Po k (f k) w)->(∀k s,waits ops i k=true->aY ops k=some s->a.tmps[s]?=some (f k))->(∀s,MW ops i s=true->a.tmps[s]?=b.tmps[s]?)->(Region.wanted o (yielded ops a.tmps)=true/\ay P a.eval o w (λv w'=>Po i v w'/\Rl w w'))\/(Region.wanted o (yielded ops a.tmps)=false/\Po i undef w/\Rl w w))(d:∀(f:Nat->Value)(w:World),Inv w->(∀i,i<ops.size->Po i (f i) w)->Q .normal ⟨je f 0 ops.toList b.tmps,b.defers⟩ w):(Code.region m ops true).wp P Q b l:=aez (Rl:=λ_=>Rl) n p h q (λi _ v w w' _ _=>e i v w w') (λ_=>c) g d
end
section
variable {P : Program} {ops : Array Oper} {Q : Exit → Act → World → Prop}
def Rp(a:Array Oper)(L:Nat):Bool:=decide (L<=a.size)&&(List.range a.size).all λi=>decide (i<L)||(List.range L).all λk=>waits a i k
def sQ(a:Array Oper)(L s:Nat):Bool:=(List.range L).all λk=>aY a k != some s
def Em(a:Array Oper)(L n:Nat):Bool:=(List.range L).all λk=>(match aY a k with|some s=>decide (s<n)|none=>true)&&(List.range L).all λj=>j==k||aY a j==none||aY a j != aY a k
def Xi{L n:Nat}(h:Em ops L n=true):(∀k s,k<L->aY ops k=some s->s<n)/\∀j k s,j<L->k<L->aY ops k=some s->aY ops j=some s->j=k:=by
 unfold Em at h;simp only[oP,mh,ko,yC,rE,Jg]at h;refine⟨λk s b c=>?_,λj k s e b c d=>?_⟩;·have :=(h k b).1;rw[c]at this;simpa using this
 ·have :=(h k b).2 j e;rcases this with(a|a)|a;·exact a
  ·rw[d]at a;cases a
  ·rw[d,c]at a;exact absurd rfl a
structure En (ops : Array Oper) (L : Nat) (Po : Nat → Value → World → Prop) (a0 : Act) (f : Nat → Value) (listed : Array Bool) (a : Act) (w : World) : Prop where
  defers : a.defers = a0.defers
  size : a.tmps.size = a0.tmps.size
  old : ∀ s, (∀ k, listed.getD k false = true → aY ops k ≠ some s) → a.tmps[s]? = a0.tmps[s]?
  new : ∀ k, k < L → listed.getD k false = true → Po k (f k) w ∧ ∀ s, aY ops k = some s → a.tmps[s]? = some (f k)
  front : ∀ k, listed.getD k false = true → k < L
def aod{L:Nat}{D:Act}{Inv:World->Prop}{Po:Nat->Value->World->Prop}{Rl:World->World->Prop}(ht:Rp ops L=true)(hd:Em ops L D.tmps.size=true)(hst:∀i v w w',Po i v w->Rl w w'->Po i v w')(hinv:∀w w',Inv w->Rl w w'->Inv w')(hop:∀i,i<L->∀(f:Nat->Value)(a:Act)(w:World),Inv w->(∀k,waits ops i k=true->Po k (f k) w)->(∀k s,waits ops i k=true->aY ops k=some s->a.tmps[s]?=some (f k))->(∀s,sQ ops L s=true->a.tmps[s]?=D.tmps[s]?)->wpOp P ops Q i (λa' w'=>∃v,a'=a.put (aY ops i) v/\Po i v w'/\Rl w w') a w)(hend:∀(f:Nat->Value)(w:World),Inv w->(∀i,i<L->Po i (f i) w)->wpAny P .any ops Q (ops.size - L) (List.replicate L true++List.replicate (ops.size - L) false).toArray ⟨je f 0 (ops.toList.take L) D.tmps,D.defers⟩ w)(hbk:vO ops=true):∀(fuel:Nat)(f:Nat->Value)(c:Array Bool)(a:Act)(w:World),c.size=ops.size->(c.toList.filter (· ==false)).length=fuel->Inv w->En ops L Po D f c a w->wpAny P .any ops Q fuel c a w:=by
 obtain⟨hlt,yI⟩:=Xi hd;unfold Rp at ht;simp only[ko,qE,oP,mh,yC]at ht;obtain⟨hL,M3⟩:=ht;have C:∀(fuel:Nat)(f:Nat->Value)(c:Array Bool)(a:Act)(w:World),c.size=ops.size->(c.toList.filter (· ==false)).length=fuel->Inv w->En ops L Po D f c a w->(∀k,k<L->c.getD k false=true)->wpAny P .any ops Q fuel c a w:=by
  intro fuel f c a w z T H n p;have hl:c=(List.replicate L true++List.replicate (ops.size - L) false).toArray:=by
   apply Array.ext;·simp;omega
   ·intro i y J;have I:c.getD i false=c[i]:=by simp[Array.getD,y]
    by_cases E:i<L;·have U:=p i E;rw[I]at U;rw[U];simp only[QQ];rw[F7 (by simpa using E)];simp
    ·have U:c[i]=false:=by cases hx:c[i]with|false=>rfl|true=>exact absurd (n.front i (by rw[I];exact hx)) E
     rw[U];simp only[QQ];rw[Ja (by simp;omega)];simp
  have hf:fuel=ops.size - L:=by rw[<-T,hl];simp
  have :a=⟨je f 0 (ops.toList.take L) D.tmps,D.defers⟩:=by
   obtain⟨t,d⟩:=a;have y:=n.defers;have J:=n.size;simp only at y J;subst y;congr 1;refine adI λs=>?_;have W:∀(k:Nat)(o:Oper),(ops.toList.take L)[k]?=some o->k<L/\ops[k]?=some o:=λk o g=>by have B:=(jQ.1 g).1;simp only[dX]at B;rw[rz zB,nP]at g;exact⟨zB,g⟩
   by_cases u:s<D.tmps.size
   ·have hg:=MZ f s (ops.toList.take L) 0 D.tmps u;by_cases V:∃k,k<L/\aY ops k=some s
    ·obtain⟨k,S,g⟩:=V;have B:=Gv g;have e1:=(n.new k S (p k S)).2 s g;simp only at e1;rw[e1];have Y:ops[k]?=some ops[k]:=qD B;have hkd:ops[k].dst=some s:=by unfold aY at g;rw[Y]at g;simpa using g
     rw[hg.2 k ops[k] (by rw[rz S,nP];exact Y) hkd (λj o' hj N=>by obtain⟨Gw,hj'⟩:=W j o' hj;exact yI j k s Gw S g (by unfold aY;rw[hj'];simpa using N))];simp
    ·rw[hg.1 (λk o g N=>by obtain⟨S,hk'⟩:=W k o g;exact V ⟨k,S,by unfold aY;rw[hk'];simpa using N⟩)];exact n.old s (λk B g=>V ⟨k,n.front k B,g⟩)
   ·rw[Ai zB,Ai (by rw[MX];omega)]
  rw[this,hl,hf];exact hend f w H λi E=>(n.new i E (p i E)).1
 intro fuel;induction fuel with
  |zero=>
   intro f c a w z T H n;refine C 0 f c a w z T H n λk g=>?_;have h0:c.toList.filter (· ==false)=[]:=Jb.1 T;rw[ady]at h0;have y:k<c.size:=zB;have I:=h0 c[k] zh;simp[Array.getD,y];simpa using I
  |succ fuel ih=>
   intro f c a w z T H n;by_cases p:∀k,k<L->c.getD k false=true;·exact C _ f c a w z T H n p
   have hex:∃R,R<L/\c.getD R false=false:=by refine DY λhne=>p λk g=>?_;cases hx:c.getD k false with|true=>rfl|false=>exact absurd ⟨k,g,hx⟩ hne
   obtain⟨R,hk0,Z⟩:=hex;refine⟨λhr=>?_,λi E=>?_⟩;·have :=Rn hbk c z hr R zB;rw[Z]at this;cases this
   obtain⟨oW,oi,X,sP⟩:=mem_ready.1 E;have hil:i<ops.size:=(wZ.1 X).1;have A:∀k,waits ops i k=true->c.getD k false=true:=λk g=>by simp only[waits,X,pW,rC]at g;obtain⟨e,V,hb⟩:=Mf.1 g;simp only[ko,rE]at hb;rw[<-hb.2];exact sP e V hb.1
   have nH:i<L:=by
    refine DY λhge=>?_;rcases M3 i hil with y|y;·exact hge y
    ·have :=A R (y R hk0);rw[Z]at this;cases this
   have M:c.getD i false=false:=by
    have :i<c.size:=zB;simp only[Array.getD,this,Aq]at oW ⊢;exact oW
   refine QZ ?_ (hop i nH f a w H (λk g=>(n.new k (n.front k (A k g)) (A k g)).1) (λk s g u=>(n.new k (n.front k (A k g)) (A k g)).2 s u) (λs u=>n.old s λk g=>?_))
   ·rintro a' w'⟨v,rfl,hp,hr⟩;have F:∀k,(c.setIfInBounds i true).getD k false=true->k=i\/(k≠i/\c.getD k false=true):=λk g=>by
     by_cases q:k=i;·exact .inl q
     ·refine .inr ⟨q,?_⟩;rwa[sI false (sJ q)]at g
    refine ih (λk=>if k=i then v else f k) _ _ _ (by simpa using z) ?_ (hinv _ _ H hr) ⟨?_,?_,λs u=>?_,λk g hl=>?_,λk g=>?_⟩
    ·have J:c.toList[i]?=some false:=by
      have I:i<c.size:=zB;simp only[Array.getD,I,Aq]at M;rw[nP,qD I];exact congrArg some M
     have U:∀(l:List Bool)(i:Nat),l[i]?=some false->((l.set i true).filter (· ==false)).length+1=(l.filter (· ==false)).length:=by intro l;induction l with|nil=>intro i h;simp at h|cons b r ihr=>intro i h;cases i with|zero=>simp only[yx,bW]at h;subst h;simp|succ i=>have :=ihr i (by simpa using h);cases b<;>simp_all
     have h5:=U _ _ J;rw[V7];omega
    ·unfold Act.put;split<;>exact n.defers
    ·unfold Act.put;split<;>simp[n.size]
    ·have y:aY ops i≠some s:=u i (by rw[F6,DX zB];rfl);rw[show(a.put (aY ops i) v).tmps[s]?=a.tmps[s]? by unfold Act.put;cases hdi:aY ops i with|none=>rfl|some d=>simp only;rw[BS (by rintro rfl;exact y hdi)]];refine n.old s λk g=>u k ?_;by_cases q:i=k;·subst q;rw[M]at g;cases g
     ·rwa[sI false q]
    ·rcases F k hl with rfl|⟨q,K⟩;·simp only[if_true];refine⟨hp,λs u=>?_⟩;unfold Act.put;rw[u];simp only;rw[DX (by rw[n.size];exact hlt k s g u)]
     ·simp only[O q];obtain⟨y,J⟩:=n.new k g K;refine⟨hst _ _ _ _ y hr,λs u=>?_⟩;unfold Act.put;cases hdi:aY ops i with|none=>exact J s u|some d=>simp only;rw[BS (by rintro rfl;exact q (yI k i _ g nH hdi u))];exact J s u
    ·rcases F k g with rfl|⟨_,K⟩;·exact nH
     ·exact n.front k K
   ·intro hks;unfold sQ at u;simp only[oP,mh,Jg]at u;exact u k (n.front k g) hks
def yJ{i:Nat}{fuel:Nat}{b:Array Bool}{a:Act}{w:World}(d:Region.ready .any ops b=[i])(h:wpOp P ops Q i (wpAny P .any ops Q fuel (b.setIfInBounds i true)) a w):wpAny P .any ops Q (fuel+1) b a w:=⟨λh0=>(by rw[d]at h0;cases h0),λj c=>(by rw[d]at c;simp only[iX]at c;subst c;exact h)⟩
def wpAny_all{b:Array Bool}{a:Act}{w:World}(c:Region.ready .any ops b=[])(h:Q .normal a w):∀fuel,wpAny P .any ops Q fuel b a w|0=>⟨c,h⟩|_+1=>⟨λ_=>h,by rw[c];simp⟩
def Rq{q:Nat}(L:Nat){b:Act}{j:World}{Inv:World->Prop}{Po:Nat->Value->World->Prop}{Rl:World->World->Prop}(r:P.follows .mixedOrders=true)(ht:Rp ops L=true)(u:Em ops L b.tmps.size=true)(n:vO ops=true)(B:Inv j.drew)(l:∀i v w w',Po i v w->Rl w w'->Po i v w')(g:∀w w',Inv w->Rl w w'->Inv w')(m:∀i o,(ops.toList.take L)[i]?=some o->∀(f:Nat->Value)(a:Act)(w:World),Inv w->(∀k,waits ops i k=true->Po k (f k) w)->(∀k s,waits ops i k=true->aY ops k=some s->a.tmps[s]?=some (f k))->(∀s,sQ ops L s=true->a.tmps[s]?=b.tmps[s]?)->(Region.wanted o (yielded ops a.tmps)=true/\ay P a.eval o w (λv w'=>Po i v w'/\Rl w w'))\/(Region.wanted o (yielded ops a.tmps)=false/\Po i undef w/\Rl w w))(h:∀(f:Nat->Value)(w:World),Inv w->(∀i,i<L->Po i (f i) w)->wpAny P .any ops Q (ops.size - L) (List.replicate L true++List.replicate (ops.size - L) false).toArray ⟨je f 0 (ops.toList.take L) b.tmps,b.defers⟩ w):(Code.region q ops true).wp P Q b j:=by
 have d:∀k,(Array.replicate ops.size false).getD k false=false:=λk=>by simp only[F6,adx];split<;>rfl
 have C:L<=ops.size:=by unfold Rp at ht;simp only[ko,qE]at ht;exact ht.1
 refine WA r (aod ht u l g (λi t f a w A z y x=>?_) h n ops.size (λ_=>undef) (Array.replicate ops.size false) b j.drew zh ?_ B ⟨rfl,rfl,λ_ _=>rfl,λk _ c=>?_,λk c=>?_⟩)
 ·have e:i<ops.size:=zB;exact Ro (qD e) (m i _ (by rw[rz t,nP,qD e]) f a w A z y x)
 ·simp
 ·rw[d]at c;cases c
 ·rw[d]at c;cases c
end
def Eo:oU Tryz.prog 56 112 3 32:= .mk' (z:= .agg #[.int .i64 0,.int .i64 0,.string .empty]) Tryz.underlying56 zP rfl zB zB
def kC:oU Tryz.prog 57 3 1 8:= .mk' (z:= .int .i64 0) Tryz.underlying57 zP rfl zB zB
def aoe{P:Program}(w:World)(t d e:TypeId)(i:TypeInfo)(ht:P.underlying t=some (.slice e))(g:P.info? e=some i)(a b:Option Addr)(n cap c:Nat)(f:n<=cap):(Builtin.append_ #[t,t] d #[.slice a n cap,.slice b 0 c]).run P w= .ok (.slice a n cap) w:=by cases a<;>cases b<;>simp[Builtin.append_,Jf ht,sizeOf,typeInfo,g,Builtin.lenOf,Builtin.firstCells,loadCells,loadCellsFrom,storeCells,f]
section
variable {α : Type}
def grownBy_refl(w:World)(row:Option Nat):w.grownBy w row:=⟨rfl,rfl,rfl,zL _,λ_ _ _=>rfl⟩
def aeC{P:Program}(w:World)(base:Nat)(t n e:TypeId)(d bytes:Nat)(p:oU P t e d bytes){R:(Nat->Prop)->World->α->List Value->Prop}(S:iy R){A:Nat->Prop}(v:Value)(xs:List α)(f:az w base e d R A xs v)(x:Value)(h:List α)(K:ag d R (λb=>A b/\ownB v≠some b) w h x)(D:xs.length+h.length<=4194304)(j:base<=w):∃k w',(Builtin.append_ #[t,t] n #[v,x]).run P w= .ok k w'/\az w' base e d R A (xs++h) k/\jJ w w' v k:=by
 obtain⟨⟨i,z,s,u,J,W,V,U⟩,X,O⟩:=p;obtain⟨a,l,b,o,rfl,hl1,Z,Y,Q,N⟩:=K.at;by_cases r:h=[]
 ·subst r;obtain⟨F,q,rfl,qg⟩:=f.val;have E:xs.length<=q:=by
   obtain⟨B,_,M,_⟩:=f;rcases M.2 with⟨y,_,T⟩|⟨g,c,cur,y,T,h6,h7,h8,_⟩;·omega
   ·simp only[cK,dx]at y;omega
  refine⟨_,w,aoe w t n e i s u F a xs.length q l E,by simpa using f,grownBy_refl _ _,.inl rfl⟩
 ·have m:0<h.length:=adD.2 r;obtain⟨rfl,hA⟩:=Q m;have C:(xs.length+h.length)*bytes<=(xs.length+h.length)*256:=amZ _ O;obtain⟨k,w',L,I,H,G⟩:=adX (P:=P) w base t n e i z d bytes s u J W V U X S v xs f b o l h N (by simp only[maxLen];omega) zB j;exact⟨k,w',L,I,H,G⟩
def Xj{P:Program}{w:World}{g:Array Oper}{rest:List Oper}{o:Oper}{a:Act}{Q:Exit->Act->World->Prop}(p:o.guard=none)(s x:Operand)(t:TypeId)(B:o.op= .call {callee:= .builtin .append,args:=#[s,x],argTypes:=#[t,t]})(base:Nat)(e:TypeId)(c bytes:Nat)(n:oU P t e c bytes){R:(Nat->Prop)->World->α->List Value->Prop}(C:iy R){A:Nat->Prop}(v:Value)(xs:List α)(y:a.eval s=v)(i:az w base e c R A xs v)(l:Value)(m:a.eval x=l)(k:List α)(u:ag c R (λb=>A b/\ownB v≠some b) w k l)(j:xs.length+k.length<=4194304)(d:base<=w)(h:∀f w',az w' base e c R A (xs++k) f->jJ w w' v f->wpList P g Q rest (a.put o.dst f) w'):wpList P g Q (o::rest) a w:=by refine wpList_plain p λ_ D=>?_;obtain⟨f,w',z,r,q⟩:=aeC (P:=P) w base t o.type e c bytes n C v xs i l k u j d;unfold Oper.wp execOp;simp only[B,resolve,invoke,builtin,Sem.run_bind,Sem.run_pure,ani,anf,sH,D8,y,m,z];exact D _ _ (h f w' r q)
end
section
variable {α : Type}
def Rs{f:α->List Value}{a:Nat}(d:∀x,(f x).length=a)(l:List α):(l.flatMap f).length=l.length*a:=by induction l with|nil=>simp|cons x r c=>rw[Cb,bB,d,c,bn,oQ];omega
def aeD{f:α->List Value}{a:Nat}(b:∀x,(f x).length=a):∀(l:List α)(i j:Nat)(d:i<l.length),j<a->(l.flatMap f)[i*a+j]?=(f l[i])[j]?|x::l,0,j,d,c=>by rw[Cb,D7,qH,vG (by rw[b];exact c)];rfl|x::l,i+1,j,d,c=>by rw[Cb,yw (by rw[b,oQ];omega),b,show(i+1)*a+j - a=i*a+j by rw[oQ];omega];exact aeD b l i j (by simpa using d) c
def aeE{f:α->List Value}{a:Nat}(c:∀x,(f x).length=a)(y:α)(u:Value):∀(l:List α)(i j:Nat)(e:i<l.length),j<a->f y=(f l[i]).set j u->(l.flatMap f).set (i*a+j) u=(l.set i y).flatMap f|x::l,0,j,e,d,b=>by rw[Cb,D7,qH,List.set_append_left _ _ (by rw[c];exact d)];simp only[BV]at b;rw[Ca,Cb,b]|x::l,i+1,j,e,d,b=>by rw[Cb,List.set_append_right _ _ (by rw[c,oQ];omega),c,show(i+1)*a+j - a=i*a+j by rw[oQ];omega,Am,Cb];rw[aeE c y u l i j (by simpa using e) d (by simpa using b)]
def aeF{f:α->List Value}{a:Nat}(b:∀x,(f x).length=a):∀(l:List α)(k:Nat),k<=l.length->(l.flatMap f).take (k*a)=(l.take k).flatMap f|l,0,_=>by simp|x::l,k+1,h=>by rw[Cb,Al,Cb,List.take_append,b,kg (by rw[b,oQ];omega),show(k+1)*a - a=k*a by rw[oQ];omega];rw[aeF b l k (by simpa using h)]
def I(f:α->List Value)(ok:α->Prop)(E:TypeId)(a:Nat)(w:World)(base:Nat)(l:List α)(v:Value):Prop:=Own w base E a v l.length (l.flatMap f)/\∀x∈l,ok x
variable {f : α → List Value} {ok : α → Prop} {E : TypeId} {size : Nat} {w : World} {base : Nat} {l : List α} {v : Value}
def I.nil:I f ok E size w base [] (.slice none 0 0):=⟨Own.nil w base E size,λx h=>by simp at h⟩
def I.lt(h:I f ok E size w base l v):∀k,ownB v=some k->base<=k/\k<w:=h.1.lt
def I.kept(h:I f ok E size w base l v){w':World}(a:∀k,ownB v=some k->w'.heap[k]?=w.heap[k]?):I f ok E size w' base l v:=⟨h.1.kept a,h.2⟩
def I.below(h:I f ok E size w base l v){w':World}(a:Below w w w'):I f ok E size w' base l v:=⟨h.1.below a,h.2⟩
def I.sS(h:I f ok E size w base l v){base':Nat}(e:∀k,ownB v=some k->base'<=k):I f ok E size w base' l v:=by
 refine⟨⟨h.1.1,?_⟩,h.2⟩;rcases h.1.2 with i|⟨g,c,b,rfl,d,j,a⟩;·exact .inl i
 ·exact .inr ⟨g,c,b,rfl,d,e g (by simp[ownB,BZ.1 d]),a⟩
def I.gT(c:∀x,(f x).length=size)(h:I f ok E size w base l v)(A:Nat->Prop):az w base E size (Av f ok) A l v:=by refine⟨l.map f,zh,by rw[<-List.flatMap_def];exact h.1,λi x d b a=>?_⟩;rw[xg,b]at a;simp only[pW,bW]at a;subst a;exact⟨c x,h.2 x (Wh b),rfl⟩
def I.fJ{A:Nat->Prop}(h:az w base E size (Av f ok) A l v):I f ok E size w base l v:=by
 obtain⟨a,j,g,c⟩:=h;have e:a=l.map f:=by apply oN (by simp[j]);intro i m n;obtain⟨_,_,k⟩:=c i _ _ (aJ zB) (aJ m);rw[k,QT]
 subst e;refine⟨by rw[List.flatMap_def];exact g,λx d=>?_⟩;obtain⟨i,b,rfl⟩:=vH.1 d;exact(c i _ _ (aJ b) (aJ (by simpa using b))).2.1
def I.val(h:I f ok E size w base l v):∃a cap,v= .slice a l.length cap/\l.length<=cap/\cap<=maxLen:=by
 rcases h.1.2 with⟨d,a,rfl⟩|⟨g,cap,e,rfl,j,k,i,b,c,_⟩;·exact⟨a,0,by rw[d],zB,by simp[maxLen]⟩
 ·exact⟨_,cap,rfl,b,c⟩
def I.at(q:∀x,(f x).length=size)(h:I f ok E size w base l v)(A:0<l.length):∃g cap,v= .slice (some (g,0)) l.length cap/\0<cap/\l.length<=cap/\cap<=maxLen/\ownB v=some g/\(∀o,w.frozen? ⟨g,o,none⟩=false)/\g<w/\base<=g/\∀i(n:i<l.length)j u,(f l[i])[j]?=some u->w.cell? (g,i*size+j)=some u:=by
 have e:=@Own.cells w base E size v l.length (l.flatMap f) h.1;rcases h.1.2 with⟨z,a,rfl⟩|⟨g,cap,y,rfl,b,s,p,c,d,t,k⟩;·omega
 ·refine⟨g,cap,rfl,b,c,d,by simp[ownB,BZ.1 b],λo=>by simp[World.frozen?,p],ax p,s,λi n j u m=>?_⟩;have r:j<size:=by have :=(jQ.1 m).1;rw[q]at this;exact this
  exact e rfl b _ u (by rw[aeD q l i j n r];exact m)
def I.set(p:∀x,(f x).length=size)(h:I f ok E size w base l v){g:Nat}(o:ownB v=some g){i j:Nat}(A:i<l.length)(z:j<size){y:α}{u:Value}(s:f y=(f l[i]).set j u)(c:ok y):I f ok E size (w.setCell (g,i*size+j) u) base (l.set i y) v:=by
 refine⟨⟨Rs p _,?_⟩,λx t=>?_⟩
 ·rw[yB];rcases h.1.2 with⟨r,a,rfl⟩|⟨C,n,D,rfl,q,B,e,d,m,k,b⟩;·omega
  ·simp only[ownB,BZ.1 q,if_false,bW]at o;subst o;refine .inr ⟨C,n,_,rfl,q,B,aX e _ u,d,m,by simpa using k,?_⟩;rw[<-aeE p y u l i j A z s,<-b,V7,List.take_set]
 ·rcases List.mem_or_eq_of_mem_set t with r|rfl;·exact h.2 x r
  ·exact c
def I.take(o:∀x,(f x).length=size){a:Option Addr}{cap:Nat}(h:I f ok E size w base l (.slice a l.length cap)){k:Nat}(n:k<=l.length):I f ok E size w base (l.take k) (.slice a k cap):=by
 have q:(l.take k).length=k:=by rw[dX];omega
 refine⟨⟨by rw[Rs o],?_⟩,λx p=>h.2 x (QP p)⟩;rw[q];rcases h.1.2 with⟨u,v,d⟩|⟨g,c,m,d,r,s,e,t,j,i,b⟩;·simp only[cK]at d;obtain⟨rfl, -,rfl⟩:=d;exact .inl ⟨zB,a,by rw[show k=0 by omega]⟩
 ·simp only[cK,dx]at d;obtain⟨rfl,rfl⟩:=d;refine .inr ⟨g,cap,m,rfl,r,s,e,zB,j,i,?_⟩;rw[<-aeF o l k n,<-b,Wz,Je (F8 _ n)]
def I.sl(c:∀x,(f x).length=size)(e:∀x,∀u∈f x,u.oneCell'=true)(h:I f ok E size w base l v)(a:l.length<=1048576){A:Nat->Prop}(d:∀b,ownB v=some b->A b):ag size (Av f ok) A w l v:=az.sl' (Ee e) (h.gT c A) a d
end
theorem Ce.lM(c:Ce):c.vals.length=3:=rfl
def Ce.Cr(c:Ce):∀u∈c.vals,u.oneCell'=true:=by simp[Ce.vals,Value.oneCell']
theorem eu(c:Int):(Ci c).length=1:=rfl
def Az(c:Int):∀u∈Ci c,u.oneCell'=true:=by simp[Ci,Value.oneCell']
theorem Cs(c:Bool):(ad9 c).length=1:=rfl
abbrev jM(w:World)(base:Nat)(l:List Ce)(v:Value):Prop:=I Ce.vals Ce.Ok 112 3 w base l v
abbrev dC(w:World)(base:Nat)(l:List Int)(v:Value):Prop:=I Ci ah 3 1 w base l v
abbrev gZ(w:World)(base:Nat)(l:List Bool)(v:Value):Prop:=I ad9 (fun _=>True) 4 1 w base l v
def dC.sl{w:World}{base:Nat}{l:List Int}{v:Value}(h:dC w base l v)(a:l.length<=1048576){A:Nat->Prop}(c:∀b,ownB v=some b->A b):gX A w l v:=I.sl eu Az h a c
