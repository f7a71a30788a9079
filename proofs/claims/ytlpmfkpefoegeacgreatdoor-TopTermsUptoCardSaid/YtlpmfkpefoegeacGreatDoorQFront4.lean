import Derived.Test.YtlpmfkpefoegeacGreatDoorQFront2
namespace Go.Proofs.YtlpmfkpefoegeacGreatDoor
set_option maxRecDepth 99999
set_option maxHeartbeats 0
set_option linter.all false
open Go.RowKit
section
variable {P : Program} {ops : Array Oper} {Q : Exit → Act → World → Prop}
def VU(ops:Array Oper)(L:Nat):Bool:=decide (L<=ops.size)&&(List.range ops.size).all fun i=>decide (i<L)||(List.range L).all fun k=>waits ops i k||(List.range L).any fun j=>decide (k<j)&&waits ops j k
def VV(ops:Array Oper)(listed:Array Bool):Prop:=∀m k,listed.getD m false=true->waits ops m k=true->listed.getD k false=true
theorem VV.set{ops:Array Oper}{listed:Array Bool}(h:VV ops listed){i:Nat}(hi:∀k,waits ops i k=true->listed.getD k false=true):VV ops (listed.setIfInBounds i true):=by
 have up:∀k,listed.getD k false=true->(listed.setIfInBounds i true).getD k false=true:=fun k hk=>by
  by_cases e:i=k
  ·subst e;simp only[F6]at hk ⊢;by_cases hl:i<listed.size;·rw[DX hl];rfl
   ·rw[Ai (by omega)]at hk;simp at hk
  ·rw[sI false e];exact hk
 intro m k hm hw;by_cases e:i=m;·subst e;exact up k (hi k hw)
 ·rw[sI false e]at hm;exact up k (h m k hm hw)
theorem azC{L:Nat}{ia:Nat}{D:Nat->Value->Value->World->Prop}{ps:Nat->Bool}{a0:Act}{Inv:World->Prop}{Po:Nat->Value->World->Prop}{Rl:World->World->Prop}(hia:ia<L/\ps ia=false)(hpD:∀p v u w,ps p=true->D p v u w)(ac4:∀i v u w w',D i v u w->Rl w w'->D i v u w')(ht:VU ops L=true)(hap:KV ops L ps=true)(hQ:∀c(a:Act)t w,Q (.panic c) ⟨t,a.defers⟩ w->Q (.panic c) a w)(hd:Em ops L a0.tmps.size=true)(hst:∀i v w w',Po i v w->Rl w w'->Po i v w')(hinv:∀w w',Inv w->Rl w w'->Inv w')(zx:∀i o,i<L->ps i=true->ops[i]?=some o->∀(f:Nat->Value)(a:Act)(w:World),Inv w->(∀k,waits ops i k=true->Po k (f k) w)->(∀k s,waits ops i k=true->aY ops k=some s->a.tmps[s]?=some (f k))->(∀s,sQ ops L s=true->a.tmps[s]?=a0.tmps[s]?)->∃v,Yields P ops o v a/\Po i v w)(hop:∀i,i<L->ps i=false->∀(f:Nat->Value)(a:Act)(w:World),Inv w->(∀k,waits ops i k=true->Po k (f k) w)->(∀k s,waits ops i k=true->aY ops k=some s->a.tmps[s]?=some (f k))->(∀s,sQ ops L s=true->a.tmps[s]?=a0.tmps[s]?)->wpOp P ops Q i (fun a' w'=>∃v,a'=a.put (aY ops i) v/\Po i v w'/\Rl w w'/\(i≠ia->∀u,Po ia u w->(∀k,waits ops i k=true->k≠ia->D k (f k) u w)->D i v u w')/\(i=ia->∀k u,Po k u w->D k u v w')) a w)(hend:∀(f:Nat->Value)(w:World),Inv w->(∀i,i<L->Po i (f i) w)->(∀i,i<L->i≠ia->D i (f i) (f ia) w)->wpAny P .any ops Q (ops.size - L) (List.replicate L true++List.replicate (ops.size - L) false).toArray ⟨je f 0 (ops.toList.take L) a0.tmps,a0.defers⟩ w)(hbk:vO ops=true):∀(fuel:Nat)(f:Nat->Value)(listed:Array Bool)(a:Act)(w:World),listed.size=ops.size->(listed.toList.filter (· ==false)).length=fuel->Inv w->En ops L Po a0 f listed a w->(listed.getD ia false=true->∀k,k≠ia->listed.getD k false=true->D k (f k) (f ia) w)->VV ops listed->wpAny P .any ops Q fuel listed a w:=by
 obtain⟨hlt,yI⟩:=Xi hd;unfold VU at ht;simp only[ko,qE,oP,mh,yC,List.any_eq_true]at ht;obtain⟨hL,M3⟩:=ht;unfold KV at hap;simp only[ko]at hap;obtain⟨hsel,hap⟩:=hap;have close:∀(fuel:Nat)(f:Nat->Value)(listed:Array Bool)(a:Act)(w:World),listed.size=ops.size->(listed.toList.filter (· ==false)).length=fuel->Inv w->En ops L Po a0 f listed a w->(listed.getD ia false=true->∀k,k≠ia->listed.getD k false=true->D k (f k) (f ia) w)->(∀k,k<L->listed.getD k false=true)->wpAny P .any ops Q fuel listed a w:=by
  intro fuel f listed a w hls hn hw hc hP hall;have hl:listed=(List.replicate L true++List.replicate (ops.size - L) false).toArray:=by
   apply Array.ext;·simp;omega
   ·intro i h1 h2;have h3:listed.getD i false=listed[i]:=by simp[Array.getD,h1]
    by_cases hi:i<L;·have h4:=hall i hi;rw[h3]at h4;rw[h4];simp only[QQ];rw[F7 (by simpa using hi)];simp
    ·have h4:listed[i]=false:=by cases hx:listed[i]with|false=>rfl|true=>exact absurd (hc.front i (by rw[h3];exact hx)) hi
     rw[h4];simp only[QQ];rw[Ja (by simp;omega)];simp
  have hf:fuel=ops.size - L:=by rw[<-hn,hl];simp
  have :a=⟨je f 0 (ops.toList.take L) a0.tmps,a0.defers⟩:=by
   obtain⟨t,d⟩:=a;have h1:=hc.defers;have h2:=hc.size;simp only at h1 h2;subst h1;congr 1;refine adI fun s=>?_;have hto:∀(k:Nat)(o:Oper),(ops.toList.take L)[k]?=some o->k<L/\ops[k]?=some o:=fun k o hk=>by have hkl:=(jQ.1 hk).1;simp only[dX]at hkl;rw[rz (by omega),nP]at hk;exact⟨by omega,hk⟩
   by_cases hs:s<a0.tmps.size
   ·have hg:=MZ f s (ops.toList.take L) 0 a0.tmps hs;by_cases he:∃k,k<L/\aY ops k=some s
    ·obtain⟨k,jS,hk⟩:=he;have hkl:=Gv hk;have e1:=(hc.new k jS (hall k jS)).2 s hk;simp only at e1;rw[e1];have hko:ops[k]?=some ops[k]:=qD hkl;have hkd:ops[k].dst=some s:=by unfold aY at hk;rw[hko]at hk;simpa using hk
     rw[hg.2 k ops[k] (by rw[rz jS,nP];exact hko) hkd (fun j o' hj hd'=>by obtain⟨Gw,hj'⟩:=hto j o' hj;exact yI j k s Gw jS hk (by unfold aY;rw[hj'];simpa using hd'))];simp
    ·rw[hg.1 (fun k o hk hd'=>by obtain⟨jS,hk'⟩:=hto k o hk;exact he ⟨k,jS,by unfold aY;rw[hk'];simpa using hd'⟩)];exact hc.old s (fun k hkl hk=>he ⟨k,hc.front k hkl,hk⟩)
   ·rw[Ai (by omega),Ai (by rw[MX];omega)]
  rw[this,hl,hf];exact hend f w hw (fun i hi=>(hc.new i hi (hall i hi)).1) (fun i hi hn=>hP (hall _ hia.1) i hn (hall i hi))
 intro fuel;induction fuel with
  |zero=>
   intro f listed a w hls hn hw hc hP hC;refine close 0 f listed a w hls hn hw hc hP fun k hk=>?_;have h0:listed.toList.filter (· ==false)=[]:=Jb.1 hn;rw[ady]at h0;have h1:k<listed.size:=by omega
   have h3:=h0 listed[k] (by simp);simp[Array.getD,h1];simpa using h3
  |succ fuel ih=>
   intro f listed a w hls hn hw hc hP hC;by_cases hall:∀k,k<L->listed.getD k false=true;·exact close _ f listed a w hls hn hw hc hP hall
   have atm:∀k,listed.getD k false=true->k<ops.size:=fun k hk=>uB (hc.front k hk) hL;have step:∀(i:Nat)(v:Value)(w':World),i<L->listed.getD i false=false->Po i v w'->(∀k u,Po k u w->Po k u w')->En ops L Po a0 (fun k=>if k=i then v else f k) (listed.setIfInBounds i true) (a.put (aY ops i) v) w':=by
    intro i v w' nH hif hp hr;have hset:∀k,(listed.setIfInBounds i true).getD k false=true->k=i\/(k≠i/\listed.getD k false=true):=fun k hk=>by
     by_cases hki:k=i;·exact .inl hki
     ·refine .inr ⟨hki,?_⟩;rwa[sI false (sJ hki)]at hk
    refine⟨?_,?_,fun s hs=>?_,fun k hk hl=>?_,fun k hk=>?_⟩;·unfold Act.put;split<;>exact hc.defers
    ·unfold Act.put;split<;>simp[hc.size]
    ·have h1:aY ops i≠some s:=hs i (by rw[F6,DX (by omega)];rfl);rw[show(a.put (aY ops i) v).tmps[s]?=a.tmps[s]? by unfold Act.put;cases hdi:aY ops i with|none=>rfl|some d=>simp only;rw[BS (by rintro rfl;exact h1 hdi)]];refine hc.old s fun k hk=>hs k ?_;by_cases hki:i=k;·subst hki;rw[hif]at hk;cases hk
     ·rwa[sI false hki]
    ·rcases hset k hl with rfl|⟨hki,hk2⟩;·simp only[if_true];refine⟨hp,fun s hs=>?_⟩;unfold Act.put;rw[hs];simp only;rw[DX (by rw[hc.size];exact hlt k s hk hs)]
     ·simp only[O hki];obtain⟨h1,h2⟩:=hc.new k hk hk2;refine⟨hr k _ h1,fun s hs=>?_⟩;unfold Act.put;cases hdi:aY ops i with|none=>exact h2 s hs|some d=>simp only;rw[BS (by rintro rfl;exact hki (yI k i _ hk nH hdi hs))];exact h2 s hs
    ·rcases hset k hk with rfl|⟨_,hk2⟩;·exact nH
     ·exact hc.front k hk2
   have count:∀i,i<L->listed.getD i false=false->((listed.setIfInBounds i true).toList.filter (· ==false)).length=fuel:=by
    intro i nH hif;have h2:listed.toList[i]?=some false:=by
     have h3:i<listed.size:=by omega
     simp only[Array.getD,h3,Aq]at hif;rw[nP,qD h3];exact congrArg some hif
    have h4:∀(l:List Bool)(i:Nat),l[i]?=some false->((l.set i true).filter (· ==false)).length+1=(l.filter (· ==false)).length:=by intro l;induction l with|nil=>intro i h;simp at h|cons b r ihr=>intro i h;cases i with|zero=>simp only[yx,bW]at h;subst h;simp|succ i=>have :=ihr i (by simpa using h);cases b<;>simp_all
    have h5:=h4 _ _ h2;rw[V7];omega
   have known:∀i oi,ops[i]?=some oi->(∀e∈oi.after,Region.binds .any e=true->listed.getD e.on false=true)->∀k,waits ops i k=true->listed.getD k false=true:=by intro i oi hoi sP k hk;simp only[waits,hoi,pW,rC]at hk;obtain⟨e,he,hb⟩:=Mf.1 hk;simp only[ko,rE]at hb;rw[<-hb.2];exact sP e he hb.1
   have Ir:∀i,i<ops.size->listed.getD i true=false->listed.getD i false=false:=fun i hi oW=>by
    have :i<listed.size:=by omega
    simp only[Array.getD,this,Aq]at oW ⊢;exact oW
   by_cases hA:∃p,p<L/\ps p=true/\p∈Region.ready .any ops listed
   ·obtain⟨p,Dp,hps,hrd⟩:=hA;obtain⟨oW,oi,hoi,sP⟩:=mem_ready.1 hrd;have hpl:p<ops.size:=(wZ.1 hoi).1;have hif:=Ir p hpl oW;have hw1:=known p oi hoi sP;obtain⟨v,hy,hpo⟩:=zx p oi Dp hps hoi f a w hw (fun k hk=>(hc.new k (hc.front k (hw1 k hk)) (hw1 k hk)).1) (fun k s hk hs=>(hc.new k (hc.front k (hw1 k hk)) (hw1 k hk)).2 s hs) (fun s hs=>hc.old s fun k hk hks=>by unfold sQ at hs;simp only[oP,mh,Jg]at hs;exact hs k (hc.front k hk) hks);have hd':aY ops p=oi.dst:=by simp[aY,hoi]
    refine wpAny_first hoi (am4 hsel) (fun c a w h=>by unfold Act.put at h;split at h<;>first|exact hQ c a _ w h|exact h) fuel listed a w (fun j oj hoj hjp hjun hnw=>?_) hrd hy ?_
    ·have h1:=oP.1 hap p (mh.2 Dp);simp only[hps,adR,adS,oP,mh]at h1;have h2:=h1 j (wZ.1 hoj).1;simp only[yC,rE]at h2;rcases h2 with((h2|h2)|h2)|h2;·exact absurd h2 hjp
     ·exfalso;simp only[waits,hoj,pW,rC]at h2;obtain⟨e,he,hb⟩:=Mf.1 h2;simp only[ko,rE]at hb;exact hnw e he hb.1 hb.2
     ·exfalso;have h3:=hw1 j h2;have h4:=Ir j (wZ.1 hoj).1 hjun;rw[h4]at h3;cases h3
     ·rw[hoi,hoj]at h2;exact h2
    ·rw[<-hd'];exact ih (fun k=>if k=p then v else f k) _ _ _ (by simpa using hls) (count p Dp hif) hw (step p v w Dp hif hpo (fun k u h=>h)) (fun h1 k hk h2=>by
      have n2:ia≠p:=fun e=>by rw[<-e,hia.2]at hps;cases hps
      rw[sI false (sJ n2)]at h1;simp only[O n2];by_cases e:k=p;·subst e;exact hpD _ _ _ _ hps
      ·rw[sI false (sJ e)]at h2;simp only[O e];exact hP h1 k hk h2) (hC.set hw1)
   refine⟨fun hr=>?_,fun i hi=>?_⟩;·exfalso;refine hall fun k hk=>?_;exact Rn hbk listed hls hr k (by omega)
   obtain⟨oW,oi,hoi,sP⟩:=mem_ready.1 hi;have hil:i<ops.size:=(wZ.1 hoi).1;have hw1:=known i oi hoi sP;have hif:=Ir i hil oW;have nH:i<L:=by
    refine DY fun hge=>hall ?_;have key:∀n k,L - k=n->k<L->listed.getD k false=true:=by
     intro n;induction n using Nat.strongRecOn with
      |_ n ihn=>
       intro k hn hk;rcases M3 i hil with h1|h1;·exact absurd h1 hge
       ·rcases h1 k hk with h2|⟨j,hj,h2⟩;·exact hw1 k h2
        ·obtain⟨h3,h4⟩:=h2;exact hC j k (ihn (L - j) (by omega) j rfl hj) h4
    exact fun k hk=>key _ k rfl hk
   have aag:ps i=false:=by cases hps:ps i with|false=>rfl|true=>exact absurd ⟨i,nH,hps,hi⟩ hA
   refine QZ ?_ (hop i nH aag f a w hw (fun k hk=>(hc.new k (hc.front k (hw1 k hk)) (hw1 k hk)).1) (fun k s hk hs=>(hc.new k (hc.front k (hw1 k hk)) (hw1 k hk)).2 s hs) (fun s hs=>hc.old s fun k hk hks=>by unfold sQ at hs;simp only[oP,mh,Jg]at hs;exact hs k (hc.front k hk) hks));rintro a' w'⟨v,rfl,hp,hr,hD1,hD2⟩;exact ih (fun k=>if k=i then v else f k) _ _ _ (by simpa using hls) (count i nH hif) (hinv _ _ hw hr) (step i v w' nH hif hp (fun k u h=>hst k u _ _ h hr)) (fun h1 k hk h2=>by
    by_cases e1:ia=i;·have n2:k≠i:=fun e=>hk (e.trans e1.symm);rw[sI false (sJ n2)]at h2;simp only[G e1,O n2];exact hD2 e1.symm k _ (hc.new k (hc.front k h2) h2).1
    ·rw[sI false (sJ e1)]at h1;by_cases e2:k=i;·simp only[G e2,O e1];rw[e2];exact hD1 (sJ e1) _ (hc.new ia hia.1 h1).1 (fun k' hw hk'=>hP h1 k' hk' (hw1 k' hw))
     ·rw[sI false (sJ e2)]at h2;simp only[O e1,O e2];exact ac4 _ _ _ _ _ (hP h1 k hk h2) hr) (hC.set hw1)
theorem ame{id:Nat}(L:Nat)(ps:Nat->Bool)(ia:Nat){D:Nat->Value->Value->World->Prop}{a0:Act}{w0:World}{Inv:World->Prop}{Po:Nat->Value->World->Prop}{Rl:World->World->Prop}(hm:P.follows .mixedOrders=true)(hia:ia<L/\ps ia=false)(hpD:∀p v u w,ps p=true->D p v u w)(ac4:∀i v u w w',D i v u w->Rl w w'->D i v u w')(ht:VU ops L=true)(hap:KV ops L ps=true)(hQ:∀c(a:Act)t w,Q (.panic c) ⟨t,a.defers⟩ w->Q (.panic c) a w)(hd:Em ops L a0.tmps.size=true)(hbk:vO ops=true)(h0:Inv w0.drew)(hst:∀i v w w',Po i v w->Rl w w'->Po i v w')(hinv:∀w w',Inv w->Rl w w'->Inv w')(zx:∀i o,(ops.toList.take L)[i]?=some o->ps i=true->∀(f:Nat->Value)(a:Act)(w:World),Inv w->(∀k,waits ops i k=true->Po k (f k) w)->(∀k s,waits ops i k=true->aY ops k=some s->a.tmps[s]?=some (f k))->(∀s,sQ ops L s=true->a.tmps[s]?=a0.tmps[s]?)->∃v,Yields P ops o v a/\Po i v w)(hop:∀i o,(ops.toList.take L)[i]?=some o->ps i=false->∀(f:Nat->Value)(a:Act)(w:World),Inv w->(∀k,waits ops i k=true->Po k (f k) w)->(∀k s,waits ops i k=true->aY ops k=some s->a.tmps[s]?=some (f k))->(∀s,sQ ops L s=true->a.tmps[s]?=a0.tmps[s]?)->(Region.wanted o (yielded ops a.tmps)=true/\ay P a.eval o w (fun v w'=>Po i v w'/\Rl w w'/\(i≠ia->∀u,Po ia u w->(∀k,waits ops i k=true->k≠ia->D k (f k) u w)->D i v u w')/\(i=ia->∀k u,Po k u w->D k u v w')))\/(Region.wanted o (yielded ops a.tmps)=false/\Po i undef w/\Rl w w/\i≠ia/\∀u,Po ia u w->D i undef u w))(hend:∀(f:Nat->Value)(w:World),Inv w->(∀i,i<L->Po i (f i) w)->(∀i,i<L->i≠ia->D i (f i) (f ia) w)->wpAny P .any ops Q (ops.size - L) (List.replicate L true++List.replicate (ops.size - L) false).toArray ⟨je f 0 (ops.toList.take L) a0.tmps,a0.defers⟩ w):(Code.region id ops true).wp P Q a0 w0:=by
 have hno:∀k,(Array.replicate ops.size false).getD k false=false:=fun k=>by simp only[F6,adx];split<;>rfl
 have hL:L<=ops.size:=by have ht2:=ht;unfold VU at ht2;simp only[ko,qE]at ht2;exact ht2.1
 refine WA hm (azC hia hpD ac4 ht hap hQ hd hst hinv (fun i o hi hps ho f a w h1 h2 h3 h4=>zx i o (by rw[rz hi,nP];exact ho) hps f a w h1 h2 h3 h4) (fun i hi hps f a w h1 h2 h3 h4=>?_) hend hbk ops.size (fun _=>undef) (Array.replicate ops.size false) a0 w0.drew (by simp) ?_ h0 ⟨rfl,rfl,fun _ _=>rfl,fun k _ hk=>?_,fun k hk=>?_⟩ (fun h1 _ _ _=>by rw[hno]at h1;cases h1) (fun m k h1 _=>by rw[hno]at h1;cases h1))
 ·have hil:i<ops.size:=by omega
  exact Ro (qD hil) ((hop i _ (by rw[rz hi,nP,qD hil]) hps f a w h1 h2 h3 h4).imp (fun h=>h) (fun h=>⟨h.1,h.2.1,h.2.2.1,fun _ u hu _=>h.2.2.2.2 u hu,fun e=>absurd e h.2.2.2.1⟩))
 ·simp
 ·rw[hno]at hk;cases hk
 ·rw[hno]at hk;cases hk
end
