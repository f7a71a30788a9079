import Derived.Test.YtlpmfkpefoegeacQRen
import Derived.Test.YtlpmfkpefoegeacQCopy
import Derived.Test.YtlpmfkpefoegeacQNamed
import Derived.Test.YtlpmfkpefoegeacHLoad
import Derived.Test.YtlpmfkpefoegeacQIsHeap
namespace Go.Proofs.Ytlpmfkpefoegeac
set_option maxRecDepth 100000
set_option maxHeartbeats 16000000
set_option linter.all false
open Go.RowKit
section
variable {P : Program} {ops : Array Oper} {Q : Exit → Act → World → Prop}
def ZaF(ops:Array Oper)(k:Nat):Option Nat:=(ops[k]?).bind (·.dst)
def Zhb(ops:Array Oper)(i s:Nat):Bool:=(List.range ops.size).all fun k=>ZaF ops k != some s||waits ops k i
def Zf8(ops:Array Oper)(n:Nat):Bool:=(List.range ops.size).all fun k=>(match ZaF ops k with|some s=>decide (s<n)|none=>true)&&(List.range ops.size).all fun j=>j==k||ZaF ops j==none||ZaF ops j != ZaF ops k
theorem ZcW{k s:Nat}(h:ZaF ops k=some s):k<ops.size:=by unfold ZaF at h;cases hk:ops[k]? with|none=>rw[hk]at h;simp at h|some o=>exact(Array.getElem?_eq_some_iff.1 hk).1
theorem ZhW{n:Nat}(h:Zf8 ops n=true):(∀k s,ZaF ops k=some s->s<n)/\∀j k s,ZaF ops k=some s->ZaF ops j=some s->j=k:=by
 unfold Zf8 at h;simp only[List.all_eq_true,List.mem_range,Bool.and_eq_true,Bool.or_eq_true,beq_iff_eq,bne_iff_ne]at h;refine⟨fun k s hk=>?_,fun j k s hk hj=>?_⟩;·have :=(h k (ZcW hk)).1;rw[hk]at this;simpa using this
 ·have :=(h k (ZcW hk)).2 j (ZcW hj);rcases this with(h1|h1)|h1;·exact h1
  ·rw[hj]at h1;cases h1
  ·rw[hj,hk]at h1;exact absurd rfl h1
def ZbH(f:Nat->Value):Nat->List Oper->Array Value->Array Value|_,[],t=>t|i,o::r,t=>ZbH f (i+1) r (match o.dst with|some s=>t.setIfInBounds s (f i)|none=>t)
theorem ZcN(f:Nat->Value):∀(l:List Oper)(i:Nat)(t:Array Value),(ZbH f i l t).size=t.size|[],_,_=>rfl|o::r,i,t=>by unfold ZbH;rw[ZcN f r];cases o.dst<;>simp
theorem Zdd(f:Nat->Value)(s:Nat):∀(l:List Oper)(i:Nat)(t:Array Value),s<t.size->((∀(k:Nat)(o:Oper),l[k]?=some o->o.dst≠some s)->(ZbH f i l t)[s]?=t[s]?)/\(∀(k:Nat)(o:Oper),l[k]?=some o->o.dst=some s->(∀(j:Nat)(o':Oper),l[j]?=some o'->o'.dst=some s->j=k)->(ZbH f i l t)[s]?=some (f (i+k)))
 |[],_,_,_=>⟨fun _=>rfl,fun k o h=>by simp at h⟩
 |o::r,i,t,hs=>by
  unfold ZbH;have hs':s<(match o.dst with|some s=>t.setIfInBounds s (f i)|none=>t).size:=by cases o.dst<;>simpa using hs
  have ih:=Zdd f s r (i+1) _ hs';refine⟨fun h=>?_,fun k o' hk hd hu=>?_⟩;·rw[ih.1 (fun k o' hk=>h (k+1) o' (by simpa using hk))];have h0:=h 0 o (by simp);cases hd:o.dst with|none=>rfl|some d=>simp only;rw[Array.getElem?_setIfInBounds_ne (by rintro rfl;exact h0 hd)]
  ·cases k with|zero=>simp only[List.getElem?_cons_zero,Option.some.injEq]at hk;subst hk;rw[ih.1 (fun j o' hj hd'=>by have :=hu (j+1) o' (by simpa using hj) hd';omega)];simp only[hd,Nat.add_zero];rw[Array.getElem?_setIfInBounds_self_of_lt hs]|succ k=>rw[ih.2 k o' (by simpa using hk) hd (fun j o'' hj hd'=>by have :=hu (j+1) o'' (by simpa using hj) hd';omega)];congr 2;omega
def backs(ops:Array Oper):Bool:=(List.range ops.size).all fun i=>((ops[i]?).map fun o=>o.after.all fun e=>!Region.binds .any e||decide (e.on<i)).getD true
theorem Zec(h:backs ops=true)(listed:Array Bool)(hls:listed.size=ops.size)(hr:Region.ready .any ops listed=[]):∀k,k<ops.size->listed.getD k false=true:=by
 intro k;induction k using Nat.strongRecOn with
  |_ k ih=>
   intro hk;have hlk:k<listed.size:=by omega
   cases hb:listed.getD k false with
    |true=>rfl
    |false=>
     exfalso;have :k∈Region.ready .any ops listed:=by
      refine mem_ready.2 ⟨?_,ops[k],Array.getElem?_eq_getElem hk,fun e he hbi=>?_⟩;·simp only[Array.getD,hlk,dif_pos]at hb ⊢;exact hb
      ·have hlt:e.on<k:=by unfold backs at h;simp only[List.all_eq_true,List.mem_range]at h;have h1:=h k hk;rw[Array.getElem?_eq_getElem hk]at h1;simp only[Option.map_some,Option.getD_some,Array.all_eq_true_iff_forall_mem]at h1;have h2:=h1 e he;simp only[hbi,Bool.not_true,Bool.false_or,decide_eq_true_eq]at h2;exact h2
       exact ih e.on hlt (by omega)
     rw[hr]at this;cases this
structure Come (ops : Array Oper) (Po : Nat → Value → World → Prop) (a0 : Act) (f : Nat → Value) (listed : Array Bool) (a : Act) (w : World) : Prop where
  defers : a.defers = a0.defers
  size : a.tmps.size = a0.tmps.size
  old : ∀ s, (∀ k, listed.getD k false = true → ZaF ops k ≠ some s) → a.tmps[s]? = a0.tmps[s]?
  new : ∀ k, k < ops.size → listed.getD k false = true → Po k (f k) w ∧ ∀ s, ZaF ops k = some s → a.tmps[s]? = some (f k)
  closed : ∀ k j, listed.getD k false = true → waits ops k j = true → listed.getD j false = true
theorem ZhX{a0:Act}{Inv:World->Prop}{Po:Nat->Value->World->Prop}{Rl:Nat->World->World->Prop}(hd:Zf8 ops a0.tmps.size=true)(hst:∀i j v w w',i≠j->waits ops i j=false->Po i v w->Rl j w w'->Po i v w')(hinv:∀j w w',Inv w->Rl j w w'->Inv w')(hop:∀i,i<ops.size->∀(f:Nat->Value)(a:Act)(w:World),Inv w->(∀k,waits ops i k=true->Po k (f k) w)->(∀k s,waits ops i k=true->ZaF ops k=some s->a.tmps[s]?=some (f k))->(∀s,Zhb ops i s=true->a.tmps[s]?=a0.tmps[s]?)->wpOp P ops Q i (fun a' w'=>∃v,a'=a.put (ZaF ops i) v/\Po i v w'/\Rl i w w') a w)(hend:∀(f:Nat->Value)(w:World),Inv w->(∀i,i<ops.size->Po i (f i) w)->Q .normal ⟨ZbH f 0 ops.toList a0.tmps,a0.defers⟩ w)(hbk:backs ops=true):∀(fuel:Nat)(f:Nat->Value)(listed:Array Bool)(a:Act)(w:World),listed.size=ops.size->(listed.toList.filter (· ==false)).length<=fuel->Inv w->Come ops Po a0 f listed a w->wpAny P .any ops Q fuel listed a w:=by
 obtain⟨hlt,huniq⟩:=ZhW hd;have close:∀(f:Nat->Value)(listed:Array Bool)(a:Act)(w:World),listed.size=ops.size->Inv w->Come ops Po a0 f listed a w->Region.ready .any ops listed=[]->Q .normal a w:=by
  intro f listed a w hls hw hc hr;have hall:=Zec hbk listed hls hr;have :a=⟨ZbH f 0 ops.toList a0.tmps,a0.defers⟩:=by
   obtain⟨t,d⟩:=a;have h1:=hc.defers;have h2:=hc.size;simp only at h1 h2;subst h1;congr 1;refine Array.ext_getElem? fun s=>?_;by_cases hs:s<a0.tmps.size
   ·have hg:=Zdd f s ops.toList 0 a0.tmps hs;by_cases he:∃k,ZaF ops k=some s
    ·obtain⟨k,hk⟩:=he;have hkl:=ZcW hk;have e1:=(hc.new k hkl (hall k hkl)).2 s hk;simp only at e1;rw[e1];have hko:ops[k]?=some ops[k]:=Array.getElem?_eq_getElem hkl;have hkd:ops[k].dst=some s:=by unfold ZaF at hk;rw[hko]at hk;simpa using hk
     rw[hg.2 k ops[k] (by rw[Array.getElem?_toList];exact hko) hkd (fun j o' hj hd'=>huniq j k s hk (by unfold ZaF;rw[<-Array.getElem?_toList,hj];simpa using hd'))];simp
    ·rw[hg.1 (fun k o hk hd'=>he ⟨k,by unfold ZaF;rw[<-Array.getElem?_toList,hk];simpa using hd'⟩)];exact hc.old s (fun k _ hk=>he ⟨k,hk⟩)
   ·rw[Array.getElem?_eq_none (by omega),Array.getElem?_eq_none (by rw[ZcN];omega)]
  rw[this];exact hend f w hw fun i hi=>(hc.new i hi (hall i hi)).1
 intro fuel;induction fuel with
  |zero=>
   intro f listed a w hls hn hw hc;have hr:Region.ready .any ops listed=[]:=by
    refine List.eq_nil_iff_forall_not_mem.2 fun j hj=>?_;obtain⟨hjun,oj,hoj,_⟩:=mem_ready.1 hj;have hjl:j<listed.size:=by rw[hls];exact(Array.getElem?_eq_some_iff.1 hoj).1
    have :listed.toList.filter (· ==false)=[]:=List.length_eq_zero_iff.1 (by omega);rw[List.filter_eq_nil_iff]at this;have h3:=this listed[j] (by simp);simp[Array.getD,hjl]at hjun;simp[hjun]at h3
   exact⟨hr,close f listed a w hls hw hc hr⟩
  |succ fuel ih=>
   intro f listed a w hls hn hw hc;refine⟨close f listed a w hls hw hc,fun i hi=>?_⟩;obtain⟨hiun,oi,hoi,hdep⟩:=mem_ready.1 hi;have hil:i<ops.size:=(Array.getElem?_eq_some_iff.1 hoi).1;have hw1:∀k,waits ops i k=true->listed.getD k false=true:=fun k hk=>by simp only[waits,hoi,Option.map_some,Option.getD_some]at hk;obtain⟨e,he,hb⟩:=Array.any_eq_true'.1 hk;simp only[Bool.and_eq_true,beq_iff_eq]at hb;rw[<-hb.2];exact hdep e he hb.1
   have hkl:∀k,listed.getD k false=true->k<ops.size:=fun k hk=>by
    rw[<-hls];by_cases h:k<listed.size;·exact h
    ·simp[Array.getD,h]at hk
   have hif:listed.getD i false=false:=by
    have :i<listed.size:=by omega
    simp only[Array.getD,this,dif_pos]at hiun ⊢;exact hiun
   refine wpOp_mono ?_ (hop i hil f a w hw (fun k hk=>(hc.new k (hkl k (hw1 k hk)) (hw1 k hk)).1) (fun k s hk hs=>(hc.new k (hkl k (hw1 k hk)) (hw1 k hk)).2 s hs) (fun s hs=>hc.old s fun k hk=>?_))
   ·rintro a' w'⟨v,rfl,hp,hr⟩;have hset:∀k,(listed.setIfInBounds i true).getD k false=true->k=i\/(k≠i/\listed.getD k false=true):=fun k hk=>by
     by_cases hki:k=i;·exact .inl hki
     ·refine .inr ⟨hki,?_⟩;rwa[getD_set_ne false (Ne.symm hki)]at hk
    refine ih (fun k=>if k=i then v else f k) _ _ _ (by simpa using hls) ?_ (hinv _ _ _ hw hr) ⟨?_,?_,fun s hs=>?_,fun k hk hl=>?_,fun k j hk hj=>?_⟩
    ·have h1:i<listed.toList.length:=by simp;omega
     have h2:listed.toList[i]?=some false:=by
      have h3:i<listed.size:=by omega
      simp only[Array.getD,h3,dif_pos]at hif;rw[Array.getElem?_toList,Array.getElem?_eq_getElem h3];exact congrArg some hif
     have h4:∀(l:List Bool)(i:Nat),l[i]?=some false->((l.set i true).filter (· ==false)).length+1=(l.filter (· ==false)).length:=by intro l;induction l with|nil=>intro i h;simp at h|cons b r ihr=>intro i h;cases i with|zero=>simp only[List.getElem?_cons_zero,Option.some.injEq]at h;subst h;simp|succ i=>have :=ihr i (by simpa using h);cases b<;>simp_all
     have h5:=h4 _ _ h2;rw[Array.toList_setIfInBounds];omega
    ·unfold Act.put;split<;>exact hc.defers
    ·unfold Act.put;split<;>simp[hc.size]
    ·have h1:ZaF ops i≠some s:=hs i (by rw[Array.getD_eq_getD_getElem?,Array.getElem?_setIfInBounds_self_of_lt (by omega)];rfl);rw[show(a.put (ZaF ops i) v).tmps[s]?=a.tmps[s]? by unfold Act.put;cases hdi:ZaF ops i with|none=>rfl|some d=>simp only;rw[Array.getElem?_setIfInBounds_ne (by rintro rfl;exact h1 hdi)]];refine hc.old s fun k hk=>hs k ?_;by_cases hki:i=k;·subst hki;rw[hif]at hk;cases hk
     ·rwa[getD_set_ne false hki]
    ·rcases hset k hl with rfl|⟨hki,hk2⟩;·simp only[if_true];refine⟨hp,fun s hs=>?_⟩;unfold Act.put;rw[hs];simp only;rw[Array.getElem?_setIfInBounds_self_of_lt (by rw[hc.size];exact hlt k s hs)]
     ·simp only[if_neg hki];obtain⟨h1,h2⟩:=hc.new k hk hk2;have hnw:waits ops k i=false:=by cases hwk:waits ops k i with|false=>rfl|true=>have :=hc.closed k i hk2 hwk;rw[hif]at this;cases this
      refine⟨hst _ _ _ _ _ hki hnw h1 hr,fun s hs=>?_⟩;unfold Act.put;cases hdi:ZaF ops i with|none=>exact h2 s hs|some d=>simp only;rw[Array.getElem?_setIfInBounds_ne (by rintro rfl;exact hki (huniq k i _ hdi hs))];exact h2 s hs
    ·have hj':listed.getD j false=true:=by
      rcases hset k hk with rfl|⟨_,hk2⟩;·exact hw1 j hj
      ·exact hc.closed k j hk2 hj
     by_cases hji:i=j;·subst hji;rw[hif]at hj';cases hj'
     ·rw[getD_set_ne false hji];exact hj'
   ·intro hks;unfold Zhb at hs;simp only[List.all_eq_true,List.mem_range,bne_iff_ne,Bool.or_eq_true]at hs;rcases hs k (hkl k hk)with h1|h1;·exact h1 hks
    ·have :=hc.closed k i hk h1;rw[hif]at this;cases this
theorem Zfv{id:Nat}{a0:Act}{w0:World}{Inv:World->Prop}{Po:Nat->Value->World->Prop}{Rl:Nat->World->World->Prop}(hm:P.follows .mixedOrders=true)(hd:Zf8 ops a0.tmps.size=true)(hbk:backs ops=true)(h0:Inv w0.drew)(hst:∀i j v w w',i≠j->waits ops i j=false->Po i v w->Rl j w w'->Po i v w')(hinv:∀j w w',Inv w->Rl j w w'->Inv w')(hop:∀i,i<ops.size->∀(f:Nat->Value)(a:Act)(w:World),Inv w->(∀k,waits ops i k=true->Po k (f k) w)->(∀k s,waits ops i k=true->ZaF ops k=some s->a.tmps[s]?=some (f k))->(∀s,Zhb ops i s=true->a.tmps[s]?=a0.tmps[s]?)->wpOp P ops Q i (fun a' w'=>∃v,a'=a.put (ZaF ops i) v/\Po i v w'/\Rl i w w') a w)(hend:∀(f:Nat->Value)(w:World),Inv w->(∀i,i<ops.size->Po i (f i) w)->Q .normal ⟨ZbH f 0 ops.toList a0.tmps,a0.defers⟩ w):(Code.region id ops true).wp P Q a0 w0:=by
 have hno:∀k,(Array.replicate ops.size false).getD k false=false:=fun k=>by simp only[Array.getD_eq_getD_getElem?,Array.getElem?_replicate];split<;>rfl
 refine wp_region_any hm (ZhX hd hst hinv hop hend hbk ops.size (fun _=>undef) (Array.replicate ops.size false) a0 w0.drew (by simp) ?_ h0 ⟨rfl,rfl,fun _ _=>rfl,fun k _ hk=>?_,fun k j hk _=>?_⟩);·refine Nat.le_trans (List.length_filter_le _ _) (by simp)
 ·rw[hno]at hk;cases hk
 ·rw[hno]at hk;cases hk
def Ans(P:Program)(ev:Operand->Value)(o:Oper)(w:World)(R:Value->World->Prop):Prop:=match(execOp ev o).run P w with| .ok (.value v) w'=>R v w'| .ok .skip w'=>R undef w'| .ok (.enter f args) w'=>Calls P f args w' fun e w''=>∃v,e= .returned v/\R v w''| .ok (.row row args) w'=>Rows P row args w' fun v w''=>R v w''|_=>False
theorem Zfb{i:Nat}{o:Oper}{a:Act}{w:World}{R:Value->World->Prop}(hi:ops[i]?=some o)(h:(Region.wanted o (yielded ops a.tmps)=true/\Ans P a.eval o w R)\/(Region.wanted o (yielded ops a.tmps)=false/\R undef w)):wpOp P ops Q i (fun a' w'=>∃v,a'=a.put (ZaF ops i) v/\R v w') a w:=by
 have hd:ZaF ops i=o.dst:=by simp[ZaF,hi]
 unfold Go.wpOp;simp only[hi];rw[hd];rcases h with⟨hw,h⟩|⟨hw,h⟩
 ·rw[if_pos hw];left;unfold Oper.wp;unfold Ans at h;generalize(execOp a.eval o).run P w=r at*;cases r with
   |ok n w'=>
    cases n<;>simp only[Oper.upon]at h ⊢;case value v=>exact⟨v,rfl,h⟩
    case skip=>exact⟨_,rfl,h⟩
    case enter f args=>exact h.mono fun e w'' he=>by obtain⟨v,rfl,hr⟩:=he;exact⟨v,rfl,hr⟩
    case row row args=>exact Rows.mono h fun u w'' he=>⟨u,rfl,he⟩
   |halt x w'=>cases x<;>simp only at h
 ·rw[if_neg (by simp[hw])];exact⟨_,rfl,h⟩
theorem Zaq{o:Oper}{f:Nat->Option Bool}(h:o.guard=none):Region.wanted o f=true:=by simp[Region.wanted,h]
theorem Zde{id:Nat}{a0:Act}{w0:World}{Inv:World->Prop}{Po:Nat->Value->World->Prop}{Rl:Nat->World->World->Prop}(hm:P.follows .mixedOrders=true)(hd:Zf8 ops a0.tmps.size=true)(hbk:backs ops=true)(h0:Inv w0.drew)(hst:∀i j v w w',i≠j->waits ops i j=false->Po i v w->Rl j w w'->Po i v w')(hinv:∀j w w',Inv w->Rl j w w'->Inv w')(hop:∀i o,ops.toList[i]?=some o->∀(f:Nat->Value)(a:Act)(w:World),Inv w->(∀k,waits ops i k=true->Po k (f k) w)->(∀k s,waits ops i k=true->ZaF ops k=some s->a.tmps[s]?=some (f k))->(∀s,Zhb ops i s=true->a.tmps[s]?=a0.tmps[s]?)->(Region.wanted o (yielded ops a.tmps)=true/\Ans P a.eval o w (fun v w'=>Po i v w'/\Rl i w w'))\/(Region.wanted o (yielded ops a.tmps)=false/\Po i undef w/\Rl i w w))(hend:∀(f:Nat->Value)(w:World),Inv w->(∀i,i<ops.size->Po i (f i) w)->Q .normal ⟨ZbH f 0 ops.toList a0.tmps,a0.defers⟩ w):(Code.region id ops true).wp P Q a0 w0:=Zfv hm hd hbk h0 hst hinv (fun i hi f a w h1 h2 h3 h4=>Zfb (Array.getElem?_eq_getElem hi) (hop i _ (by rw[Array.getElem?_toList,Array.getElem?_eq_getElem hi]) f a w h1 h2 h3 h4)) hend
theorem ZdP{id:Nat}{a0:Act}{w0:World}{Inv:World->Prop}{Po:Nat->Value->World->Prop}{Rl:World->World->Prop}(hm:P.follows .mixedOrders=true)(hd:Zf8 ops a0.tmps.size=true)(hbk:backs ops=true)(h0:Inv w0.drew)(hst:∀i v w w',Po i v w->Rl w w'->Po i v w')(hinv:∀w w',Inv w->Rl w w'->Inv w')(hop:∀i o,ops.toList[i]?=some o->∀(f:Nat->Value)(a:Act)(w:World),Inv w->(∀k,waits ops i k=true->Po k (f k) w)->(∀k s,waits ops i k=true->ZaF ops k=some s->a.tmps[s]?=some (f k))->(∀s,Zhb ops i s=true->a.tmps[s]?=a0.tmps[s]?)->(Region.wanted o (yielded ops a.tmps)=true/\Ans P a.eval o w (fun v w'=>Po i v w'/\Rl w w'))\/(Region.wanted o (yielded ops a.tmps)=false/\Po i undef w/\Rl w w))(hend:∀(f:Nat->Value)(w:World),Inv w->(∀i,i<ops.size->Po i (f i) w)->Q .normal ⟨ZbH f 0 ops.toList a0.tmps,a0.defers⟩ w):(Code.region id ops true).wp P Q a0 w0:=Zde (Rl:=fun _=>Rl) hm hd hbk h0 (fun i _ v w w' _ _=>hst i v w w') (fun _=>hinv) hop hend
end
section
variable {P : Program} {ops : Array Oper} {Q : Exit → Act → World → Prop}
def ZiM(ops:Array Oper)(L:Nat):Bool:=decide (L<=ops.size)&&(List.range ops.size).all fun i=>decide (i<L)||(List.range L).all fun k=>waits ops i k
def Zco(ops:Array Oper)(L s:Nat):Bool:=(List.range L).all fun k=>ZaF ops k != some s
def Zdf(ops:Array Oper)(L n:Nat):Bool:=(List.range L).all fun k=>(match ZaF ops k with|some s=>decide (s<n)|none=>true)&&(List.range L).all fun j=>j==k||ZaF ops j==none||ZaF ops j != ZaF ops k
theorem Zdg{L n:Nat}(h:Zdf ops L n=true):(∀k s,k<L->ZaF ops k=some s->s<n)/\∀j k s,j<L->k<L->ZaF ops k=some s->ZaF ops j=some s->j=k:=by
 unfold Zdf at h;simp only[List.all_eq_true,List.mem_range,Bool.and_eq_true,Bool.or_eq_true,beq_iff_eq,bne_iff_ne]at h;refine⟨fun k s hkL hk=>?_,fun j k s hjL hkL hk hj=>?_⟩;·have :=(h k hkL).1;rw[hk]at this;simpa using this
 ·have :=(h k hkL).2 j hjL;rcases this with(h1|h1)|h1;·exact h1
  ·rw[hj]at h1;cases h1
  ·rw[hj,hk]at h1;exact absurd rfl h1
structure ComeL (ops : Array Oper) (L : Nat) (Po : Nat → Value → World → Prop) (a0 : Act) (f : Nat → Value) (listed : Array Bool) (a : Act) (w : World) : Prop where
  defers : a.defers = a0.defers
  size : a.tmps.size = a0.tmps.size
  old : ∀ s, (∀ k, listed.getD k false = true → ZaF ops k ≠ some s) → a.tmps[s]? = a0.tmps[s]?
  new : ∀ k, k < L → listed.getD k false = true → Po k (f k) w ∧ ∀ s, ZaF ops k = some s → a.tmps[s]? = some (f k)
  front : ∀ k, listed.getD k false = true → k < L
theorem ZhY{L:Nat}{a0:Act}{Inv:World->Prop}{Po:Nat->Value->World->Prop}{Rl:World->World->Prop}(ht:ZiM ops L=true)(hd:Zdf ops L a0.tmps.size=true)(hst:∀i v w w',Po i v w->Rl w w'->Po i v w')(hinv:∀w w',Inv w->Rl w w'->Inv w')(hop:∀i,i<L->∀(f:Nat->Value)(a:Act)(w:World),Inv w->(∀k,waits ops i k=true->Po k (f k) w)->(∀k s,waits ops i k=true->ZaF ops k=some s->a.tmps[s]?=some (f k))->(∀s,Zco ops L s=true->a.tmps[s]?=a0.tmps[s]?)->wpOp P ops Q i (fun a' w'=>∃v,a'=a.put (ZaF ops i) v/\Po i v w'/\Rl w w') a w)(hend:∀(f:Nat->Value)(w:World),Inv w->(∀i,i<L->Po i (f i) w)->wpAny P .any ops Q (ops.size - L) (List.replicate L true++List.replicate (ops.size - L) false).toArray ⟨ZbH f 0 (ops.toList.take L) a0.tmps,a0.defers⟩ w)(hbk:backs ops=true):∀(fuel:Nat)(f:Nat->Value)(listed:Array Bool)(a:Act)(w:World),listed.size=ops.size->(listed.toList.filter (· ==false)).length=fuel->Inv w->ComeL ops L Po a0 f listed a w->wpAny P .any ops Q fuel listed a w:=by
 obtain⟨hlt,huniq⟩:=Zdg hd;unfold ZiM at ht;simp only[Bool.and_eq_true,decide_eq_true_eq,List.all_eq_true,List.mem_range,Bool.or_eq_true]at ht;obtain⟨hL,htail⟩:=ht;have close:∀(fuel:Nat)(f:Nat->Value)(listed:Array Bool)(a:Act)(w:World),listed.size=ops.size->(listed.toList.filter (· ==false)).length=fuel->Inv w->ComeL ops L Po a0 f listed a w->(∀k,k<L->listed.getD k false=true)->wpAny P .any ops Q fuel listed a w:=by
  intro fuel f listed a w hls hn hw hc hall;have hl:listed=(List.replicate L true++List.replicate (ops.size - L) false).toArray:=by
   apply Array.ext;·simp;omega
   ·intro i h1 h2;have h3:listed.getD i false=listed[i]:=by simp[Array.getD,h1]
    by_cases hi:i<L;·have h4:=hall i hi;rw[h3]at h4;rw[h4];simp only[List.getElem_toArray];rw[List.getElem_append_left (by simpa using hi)];simp
    ·have h4:listed[i]=false:=by cases hx:listed[i]with|false=>rfl|true=>exact absurd (hc.front i (by rw[h3];exact hx)) hi
     rw[h4];simp only[List.getElem_toArray];rw[List.getElem_append_right (by simp;omega)];simp
  have hf:fuel=ops.size - L:=by rw[<-hn,hl];simp
  have :a=⟨ZbH f 0 (ops.toList.take L) a0.tmps,a0.defers⟩:=by
   obtain⟨t,d⟩:=a;have h1:=hc.defers;have h2:=hc.size;simp only at h1 h2;subst h1;congr 1;refine Array.ext_getElem? fun s=>?_;have hto:∀(k:Nat)(o:Oper),(ops.toList.take L)[k]?=some o->k<L/\ops[k]?=some o:=fun k o hk=>by have hkl:=(List.getElem?_eq_some_iff.1 hk).1;simp only[List.length_take]at hkl;rw[List.getElem?_take_of_lt (by omega),Array.getElem?_toList]at hk;exact⟨by omega,hk⟩
   by_cases hs:s<a0.tmps.size
   ·have hg:=Zdd f s (ops.toList.take L) 0 a0.tmps hs;by_cases he:∃k,k<L/\ZaF ops k=some s
    ·obtain⟨k,hkL,hk⟩:=he;have hkl:=ZcW hk;have e1:=(hc.new k hkL (hall k hkL)).2 s hk;simp only at e1;rw[e1];have hko:ops[k]?=some ops[k]:=Array.getElem?_eq_getElem hkl;have hkd:ops[k].dst=some s:=by unfold ZaF at hk;rw[hko]at hk;simpa using hk
     rw[hg.2 k ops[k] (by rw[List.getElem?_take_of_lt hkL,Array.getElem?_toList];exact hko) hkd (fun j o' hj hd'=>by obtain⟨hjL,hj'⟩:=hto j o' hj;exact huniq j k s hjL hkL hk (by unfold ZaF;rw[hj'];simpa using hd'))];simp
    ·rw[hg.1 (fun k o hk hd'=>by obtain⟨hkL,hk'⟩:=hto k o hk;exact he ⟨k,hkL,by unfold ZaF;rw[hk'];simpa using hd'⟩)];exact hc.old s (fun k hkl hk=>he ⟨k,hc.front k hkl,hk⟩)
   ·rw[Array.getElem?_eq_none (by omega),Array.getElem?_eq_none (by rw[ZcN];omega)]
  rw[this,hl,hf];exact hend f w hw fun i hi=>(hc.new i hi (hall i hi)).1
 intro fuel;induction fuel with
  |zero=>
   intro f listed a w hls hn hw hc;refine close 0 f listed a w hls hn hw hc fun k hk=>?_;have h0:listed.toList.filter (· ==false)=[]:=List.length_eq_zero_iff.1 hn;rw[List.filter_eq_nil_iff]at h0;have h1:k<listed.size:=by omega
   have h3:=h0 listed[k] (by simp);simp[Array.getD,h1];simpa using h3
  |succ fuel ih=>
   intro f listed a w hls hn hw hc;by_cases hall:∀k,k<L->listed.getD k false=true;·exact close _ f listed a w hls hn hw hc hall
   have hex:∃k0,k0<L/\listed.getD k0 false=false:=by refine Classical.byContradiction fun hne=>hall fun k hk=>?_;cases hx:listed.getD k false with|true=>rfl|false=>exact absurd ⟨k,hk,hx⟩ hne
   obtain⟨k0,hk0,hun0⟩:=hex;refine⟨fun hr=>?_,fun i hi=>?_⟩;·have :=Zec hbk listed hls hr k0 (by omega);rw[hun0]at this;cases this
   obtain⟨hiun,oi,hoi,hdep⟩:=mem_ready.1 hi;have hil:i<ops.size:=(Array.getElem?_eq_some_iff.1 hoi).1;have hw1:∀k,waits ops i k=true->listed.getD k false=true:=fun k hk=>by simp only[waits,hoi,Option.map_some,Option.getD_some]at hk;obtain⟨e,he,hb⟩:=Array.any_eq_true'.1 hk;simp only[Bool.and_eq_true,beq_iff_eq]at hb;rw[<-hb.2];exact hdep e he hb.1
   have hiL:i<L:=by
    refine Classical.byContradiction fun hge=>?_;rcases htail i hil with h1|h1;·exact hge h1
    ·have :=hw1 k0 (h1 k0 hk0);rw[hun0]at this;cases this
   have hif:listed.getD i false=false:=by
    have :i<listed.size:=by omega
    simp only[Array.getD,this,dif_pos]at hiun ⊢;exact hiun
   refine wpOp_mono ?_ (hop i hiL f a w hw (fun k hk=>(hc.new k (hc.front k (hw1 k hk)) (hw1 k hk)).1) (fun k s hk hs=>(hc.new k (hc.front k (hw1 k hk)) (hw1 k hk)).2 s hs) (fun s hs=>hc.old s fun k hk=>?_))
   ·rintro a' w'⟨v,rfl,hp,hr⟩;have hset:∀k,(listed.setIfInBounds i true).getD k false=true->k=i\/(k≠i/\listed.getD k false=true):=fun k hk=>by
     by_cases hki:k=i;·exact .inl hki
     ·refine .inr ⟨hki,?_⟩;rwa[getD_set_ne false (Ne.symm hki)]at hk
    refine ih (fun k=>if k=i then v else f k) _ _ _ (by simpa using hls) ?_ (hinv _ _ hw hr) ⟨?_,?_,fun s hs=>?_,fun k hk hl=>?_,fun k hk=>?_⟩
    ·have h2:listed.toList[i]?=some false:=by
      have h3:i<listed.size:=by omega
      simp only[Array.getD,h3,dif_pos]at hif;rw[Array.getElem?_toList,Array.getElem?_eq_getElem h3];exact congrArg some hif
     have h4:∀(l:List Bool)(i:Nat),l[i]?=some false->((l.set i true).filter (· ==false)).length+1=(l.filter (· ==false)).length:=by intro l;induction l with|nil=>intro i h;simp at h|cons b r ihr=>intro i h;cases i with|zero=>simp only[List.getElem?_cons_zero,Option.some.injEq]at h;subst h;simp|succ i=>have :=ihr i (by simpa using h);cases b<;>simp_all
     have h5:=h4 _ _ h2;rw[Array.toList_setIfInBounds];omega
    ·unfold Act.put;split<;>exact hc.defers
    ·unfold Act.put;split<;>simp[hc.size]
    ·have h1:ZaF ops i≠some s:=hs i (by rw[Array.getD_eq_getD_getElem?,Array.getElem?_setIfInBounds_self_of_lt (by omega)];rfl);rw[show(a.put (ZaF ops i) v).tmps[s]?=a.tmps[s]? by unfold Act.put;cases hdi:ZaF ops i with|none=>rfl|some d=>simp only;rw[Array.getElem?_setIfInBounds_ne (by rintro rfl;exact h1 hdi)]];refine hc.old s fun k hk=>hs k ?_;by_cases hki:i=k;·subst hki;rw[hif]at hk;cases hk
     ·rwa[getD_set_ne false hki]
    ·rcases hset k hl with rfl|⟨hki,hk2⟩;·simp only[if_true];refine⟨hp,fun s hs=>?_⟩;unfold Act.put;rw[hs];simp only;rw[Array.getElem?_setIfInBounds_self_of_lt (by rw[hc.size];exact hlt k s hk hs)]
     ·simp only[if_neg hki];obtain⟨h1,h2⟩:=hc.new k hk hk2;refine⟨hst _ _ _ _ h1 hr,fun s hs=>?_⟩;unfold Act.put;cases hdi:ZaF ops i with|none=>exact h2 s hs|some d=>simp only;rw[Array.getElem?_setIfInBounds_ne (by rintro rfl;exact hki (huniq k i _ hk hiL hdi hs))];exact h2 s hs
    ·rcases hset k hk with rfl|⟨_,hk2⟩;·exact hiL
     ·exact hc.front k hk2
   ·intro hks;unfold Zco at hs;simp only[List.all_eq_true,List.mem_range,bne_iff_ne]at hs;exact hs k (hc.front k hk) hks
theorem Zbc{i:Nat}{fuel:Nat}{listed:Array Bool}{a:Act}{w:World}(hr:Region.ready .any ops listed=[i])(h:wpOp P ops Q i (wpAny P .any ops Q fuel (listed.setIfInBounds i true)) a w):wpAny P .any ops Q (fuel+1) listed a w:=⟨fun h0=>(by rw[hr]at h0;cases h0),fun j hj=>(by rw[hr]at hj;simp only[List.mem_singleton]at hj;subst hj;exact h)⟩
theorem Zcp{listed:Array Bool}{a:Act}{w:World}(hr:Region.ready .any ops listed=[])(h:Q .normal a w):∀fuel,wpAny P .any ops Q fuel listed a w|0=>⟨hr,h⟩|_+1=>⟨fun _=>h,by rw[hr];simp⟩
theorem ZbL{id:Nat}(L:Nat){a0:Act}{w0:World}{Inv:World->Prop}{Po:Nat->Value->World->Prop}{Rl:World->World->Prop}(hm:P.follows .mixedOrders=true)(ht:ZiM ops L=true)(hd:Zdf ops L a0.tmps.size=true)(hbk:backs ops=true)(h0:Inv w0.drew)(hst:∀i v w w',Po i v w->Rl w w'->Po i v w')(hinv:∀w w',Inv w->Rl w w'->Inv w')(hop:∀i o,(ops.toList.take L)[i]?=some o->∀(f:Nat->Value)(a:Act)(w:World),Inv w->(∀k,waits ops i k=true->Po k (f k) w)->(∀k s,waits ops i k=true->ZaF ops k=some s->a.tmps[s]?=some (f k))->(∀s,Zco ops L s=true->a.tmps[s]?=a0.tmps[s]?)->(Region.wanted o (yielded ops a.tmps)=true/\Ans P a.eval o w (fun v w'=>Po i v w'/\Rl w w'))\/(Region.wanted o (yielded ops a.tmps)=false/\Po i undef w/\Rl w w))(hend:∀(f:Nat->Value)(w:World),Inv w->(∀i,i<L->Po i (f i) w)->wpAny P .any ops Q (ops.size - L) (List.replicate L true++List.replicate (ops.size - L) false).toArray ⟨ZbH f 0 (ops.toList.take L) a0.tmps,a0.defers⟩ w):(Code.region id ops true).wp P Q a0 w0:=by
 have hno:∀k,(Array.replicate ops.size false).getD k false=false:=fun k=>by simp only[Array.getD_eq_getD_getElem?,Array.getElem?_replicate];split<;>rfl
 have hL:L<=ops.size:=by unfold ZiM at ht;simp only[Bool.and_eq_true,decide_eq_true_eq]at ht;exact ht.1
 refine wp_region_any hm (ZhY ht hd hst hinv (fun i hi f a w h1 h2 h3 h4=>?_) hend hbk ops.size (fun _=>undef) (Array.replicate ops.size false) a0 w0.drew (by simp) ?_ h0 ⟨rfl,rfl,fun _ _=>rfl,fun k _ hk=>?_,fun k hk=>?_⟩)
 ·have hil:i<ops.size:=by omega
  exact Zfb (Array.getElem?_eq_getElem hil) (hop i _ (by rw[List.getElem?_take_of_lt hi,Array.getElem?_toList,Array.getElem?_eq_getElem hil]) f a w h1 h2 h3 h4)
 ·simp
 ·rw[hno]at hk;cases hk
 ·rw[hno]at hk;cases hk
end
theorem Zdh:ElemTy Try.prog 51 95 3 32:= .mk' (z:= .agg #[.int .i64 0,.int .i64 0,.string ByteArray.empty]) Try.underlying51 (by kernel_rfl) rfl (by omega) (by omega)
theorem Za1:ElemTy Try.prog 37 3 1 8:= .mk' (z:= .int .i64 0) Try.underlying37 (by kernel_rfl) rfl (by omega) (by omega)
theorem Zhc{P:Program}(w:World)(t ty e:TypeId)(i:TypeInfo)(ht:P.underlying t=some (.slice e))(hi:P.info? e=some i)(a b:Option Addr)(n cap c:Nat)(hn:n<=cap):(Builtin.append_ #[t,t] ty #[.slice a n cap,.slice b 0 c]).run P w= .ok (.slice a n cap) w:=by cases a<;>cases b<;>simp[Builtin.append_,run_underlying ht,sizeOf,typeInfo,hi,Builtin.lenOf,Builtin.firstCells,loadCells,loadCellsFrom,storeCells,hn]
section
variable {α : Type}
theorem Zhd(w:World)(row:Option Nat):w.grownBy w row:=⟨rfl,rfl,rfl,zL _,fun _ _ _=>rfl⟩
theorem ZiN{P:Program}(w:World)(base:Nat)(t ty e:TypeId)(size bytes:Nat)(hty:ElemTy P t e size bytes){R:(Nat->Prop)->World->α->List Value->Prop}(hR:Lasts R){A:Nat->Prop}(v:Value)(xs:List α)(hown:OwnR w base e size R A xs v)(x:Value)(ys:List α)(hx:SlR size R (fun b=>A b/\Zai v≠some b) w ys x)(hlen:xs.length+ys.length<=4194304)(hbase:base<=w.heap.size):∃v' w',(Builtin.append_ #[t,t] ty #[v,x]).run P w= .ok v' w'/\OwnR w' base e size R A (xs++ys) v'/\Grew w w' v v':=by
 obtain⟨⟨i,z,ht,hi,hz,h1,h2,h3⟩,h0,hb⟩:=hty;obtain⟨a,cap,b,off,rfl,hl1,hl2,hl3,ha,he⟩:=hx.at;by_cases hy:ys=[]
 ·subst hy;obtain⟨va,vc,rfl,hvm⟩:=hown.val;have hvc:xs.length<=vc:=by
   obtain⟨vals,_,ho,_⟩:=hown;rcases ho.2 with⟨h4,_,h5⟩|⟨g,c,cur,h4,h5,h6,h7,h8,_⟩;·omega
   ·simp only[Value.slice.injEq,true_and]at h4;omega
  refine⟨_,w,Zhc w t ty e i ht hi va a xs.length vc cap hvc,by simpa using hown,Zhd _ _,.inl rfl⟩
 ·have hpos:0<ys.length:=List.length_pos_iff.2 hy;obtain⟨rfl,hA⟩:=ha hpos;have hmul:(xs.length+ys.length)*bytes<=(xs.length+ys.length)*256:=Nat.mul_le_mul_left _ hb;obtain⟨v',w',hr,k1,k2,k3⟩:=Ziy (P:=P) w base t ty e i z size bytes ht hi hz h1 h2 h3 h0 hR v xs hown b off cap ys he (by simp only[maxLen];omega) (by omega) hbase;exact⟨v',w',hr,k1,k2,k3⟩
theorem ZdV{P:Program}{w:World}{ops:Array Oper}{rest:List Oper}{o:Oper}{a:Act}{Q:Exit->Act->World->Prop}(hgd:o.guard=none)(s x:Operand)(t:TypeId)(ho:o.op= .call {callee:= .builtin .append,args:=#[s,x],argTypes:=#[t,t]})(base:Nat)(e:TypeId)(size bytes:Nat)(hty:ElemTy P t e size bytes){R:(Nat->Prop)->World->α->List Value->Prop}(hR:Lasts R){A:Nat->Prop}(v:Value)(xs:List α)(hs:a.eval s=v)(hown:OwnR w base e size R A xs v)(xv:Value)(hxv:a.eval x=xv)(ys:List α)(hx:SlR size R (fun b=>A b/\Zai v≠some b) w ys xv)(hlen:xs.length+ys.length<=4194304)(hbase:base<=w.heap.size)(h:∀v' w',OwnR w' base e size R A (xs++ys) v'->Grew w w' v v'->wpList P ops Q rest (a.put o.dst v') w'):wpList P ops Q (o::rest) a w:=by refine wpList_plain hgd fun _ hK=>?_;obtain⟨v',w',hr,k1,k2⟩:=ZiN (P:=P) w base t o.type e size bytes hty hR v xs hown xv ys hx hlen hbase;unfold Oper.wp execOp;simp only[ho,resolve,invoke,builtin,Sem.run_bind,Sem.run_pure,Result.andThen_ok,List.map_toArray,List.map_cons,List.map_nil,hs,hxv,hr];exact hK _ _ (h v' w' k1 k2)
end
/-! ### slices of one's own, of elements that lead nowhere -/
section
variable {α : Type}
theorem ZcX{f:α->List Value}{size:Nat}(hf:∀x,(f x).length=size)(l:List α):(l.flatMap f).length=l.length*size:=by induction l with|nil=>simp|cons x r ih=>rw[List.flatMap_cons,List.length_append,hf,ih,List.length_cons,Nat.add_mul];omega
theorem Zfw{f:α->List Value}{size:Nat}(hf:∀x,(f x).length=size):∀(l:List α)(i j:Nat)(hi:i<l.length),j<size->(l.flatMap f)[i*size+j]?=(f l[i])[j]?|x::l,0,j,hi,hj=>by rw[List.flatMap_cons,Nat.zero_mul,Nat.zero_add,List.getElem?_append_left (by rw[hf];exact hj)];rfl|x::l,i+1,j,hi,hj=>by rw[List.flatMap_cons,List.getElem?_append_right (by rw[hf,Nat.add_mul];omega),hf,show(i+1)*size+j - size=i*size+j by rw[Nat.add_mul];omega];exact Zfw hf l i j (by simpa using hi) hj
theorem Zfx{f:α->List Value}{size:Nat}(hf:∀x,(f x).length=size)(y:α)(u:Value):∀(l:List α)(i j:Nat)(hi:i<l.length),j<size->f y=(f l[i]).set j u->(l.flatMap f).set (i*size+j) u=(l.set i y).flatMap f|x::l,0,j,hi,hj,hy=>by rw[List.flatMap_cons,Nat.zero_mul,Nat.zero_add,List.set_append_left _ _ (by rw[hf];exact hj)];simp only[List.getElem_cons_zero]at hy;rw[List.set_cons_zero,List.flatMap_cons,hy]|x::l,i+1,j,hi,hj,hy=>by rw[List.flatMap_cons,List.set_append_right _ _ (by rw[hf,Nat.add_mul];omega),hf,show(i+1)*size+j - size=i*size+j by rw[Nat.add_mul];omega,List.set_cons_succ,List.flatMap_cons];rw[Zfx hf y u l i j (by simpa using hi) hj (by simpa using hy)]
theorem ZeU{f:α->List Value}{size:Nat}(hf:∀x,(f x).length=size):∀(l:List α)(k:Nat),k<=l.length->(l.flatMap f).take (k*size)=(l.take k).flatMap f|l,0,_=>by simp|x::l,k+1,h=>by rw[List.flatMap_cons,List.take_succ_cons,List.flatMap_cons,List.take_append,hf,List.take_of_length_le (by rw[hf,Nat.add_mul];omega),show(k+1)*size - size=k*size by rw[Nat.add_mul];omega];rw[ZeU hf l k (by simpa using h)]
def OwnF(f:α->List Value)(ok:α->Prop)(E:TypeId)(size:Nat)(w:World)(base:Nat)(l:List α)(v:Value):Prop:=Own w base E size v l.length (l.flatMap f)/\∀x∈l,ok x
variable {f : α → List Value} {ok : α → Prop} {E : TypeId} {size : Nat} {w : World} {base : Nat} {l : List α} {v : Value}
theorem OwnF.nil:OwnF f ok E size w base [] (.slice none 0 0):=⟨Own.nil w base E size,fun x h=>by simp at h⟩
theorem OwnF.lt(h:OwnF f ok E size w base l v):∀k,Zai v=some k->base<=k/\k<w.heap.size:=h.1.lt
theorem OwnF.kept(h:OwnF f ok E size w base l v){w':World}(hk:∀k,Zai v=some k->w'.heap[k]?=w.heap[k]?):OwnF f ok E size w' base l v:=⟨h.1.kept hk,h.2⟩
theorem OwnF.below(h:OwnF f ok E size w base l v){w':World}(hk:Below w.heap.size w w'):OwnF f ok E size w' base l v:=⟨h.1.below hk,h.2⟩
theorem OwnF.rebase(h:OwnF f ok E size w base l v){base':Nat}(hb:∀k,Zai v=some k->base'<=k):OwnF f ok E size w base' l v:=by
 refine⟨⟨h.1.1,?_⟩,h.2⟩;rcases h.1.2 with h1|⟨g,cap,cur,rfl,hc,hbg,rest⟩;·exact .inl h1
 ·exact .inr ⟨g,cap,cur,rfl,hc,hb g (by simp[Zai,Nat.pos_iff_ne_zero.1 hc]),rest⟩
theorem OwnF.ownR(hf:∀x,(f x).length=size)(h:OwnF f ok E size w base l v)(A:Nat->Prop):OwnR w base E size (Zjw f ok) A l v:=by refine⟨l.map f,by simp,by rw[<-List.flatMap_def];exact h.1,fun i x vs hx hv=>?_⟩;rw[List.getElem?_map,hx]at hv;simp only[Option.map_some,Option.some.injEq]at hv;subst hv;exact⟨hf x,h.2 x (List.mem_of_getElem? hx),rfl⟩
theorem OwnF.of_ownR{A:Nat->Prop}(h:OwnR w base E size (Zjw f ok) A l v):OwnF f ok E size w base l v:=by
 obtain⟨vals,hl,ho,he⟩:=h;have e:vals=l.map f:=by apply List.ext_getElem (by simp[hl]);intro i h1 h2;obtain⟨_,_,h3⟩:=he i _ _ (List.getElem?_eq_getElem (by omega)) (List.getElem?_eq_getElem h1);rw[h3,List.getElem_map]
 subst e;refine⟨by rw[List.flatMap_def];exact ho,fun x hx=>?_⟩;obtain⟨i,hi,rfl⟩:=List.mem_iff_getElem.1 hx;exact(he i _ _ (List.getElem?_eq_getElem hi) (List.getElem?_eq_getElem (by simpa using hi))).2.1
theorem OwnF.val(h:OwnF f ok E size w base l v):∃a cap,v= .slice a l.length cap/\l.length<=cap/\cap<=maxLen:=by
 rcases h.1.2 with⟨h0,a,rfl⟩|⟨g,cap,cur,rfl,hc,hb,hg,hnc,hcm,_⟩;·exact⟨a,0,by rw[h0],by omega,by simp[maxLen]⟩
 ·exact⟨_,cap,rfl,hnc,hcm⟩
theorem OwnF.at(hf:∀x,(f x).length=size)(h:OwnF f ok E size w base l v)(h0:0<l.length):∃g cap,v= .slice (some ⟨g,0,none⟩) l.length cap/\0<cap/\l.length<=cap/\cap<=maxLen/\Zai v=some g/\(∀o,w.frozen? ⟨g,o,none⟩=false)/\g<w.heap.size/\base<=g/\∀i(hi:i<l.length)j u,(f l[i])[j]?=some u->w.cell? ⟨g,i*size+j,none⟩=some u:=by
 have hcl:=@Own.cells w base E size v l.length (l.flatMap f) h.1;rcases h.1.2 with⟨h1,a,rfl⟩|⟨g,cap,cur,rfl,hc,hb,hg,hnc,hcm,hcs,htake⟩;·omega
 ·refine⟨g,cap,rfl,hc,hnc,hcm,by simp[Zai,Nat.pos_iff_ne_zero.1 hc],fun o=>by simp[World.frozen?,hg],Zag hg,hb,fun i hi j u hu=>?_⟩;have hj:j<size:=by have :=(List.getElem?_eq_some_iff.1 hu).1;rw[hf]at this;exact this
  exact hcl rfl hc _ u (by rw[Zfw hf l i j hi hj];exact hu)
theorem OwnF.set(hf:∀x,(f x).length=size)(h:OwnF f ok E size w base l v){g:Nat}(hg:Zai v=some g){i j:Nat}(hi:i<l.length)(hj:j<size){y:α}{u:Value}(hy:f y=(f l[i]).set j u)(hok:ok y):OwnF f ok E size (w.setCell ⟨g,i*size+j,none⟩ u) base (l.set i y) v:=by
 refine⟨⟨ZcX hf _,?_⟩,fun x hx=>?_⟩
 ·rw[List.length_set];rcases h.1.2 with⟨h1,a,rfl⟩|⟨g',cap,cur,rfl,hc,hb,hgg,hnc,hcm,hcs,htake⟩;·omega
  ·simp only[Zai,Nat.pos_iff_ne_zero.1 hc,if_false,Option.some.injEq]at hg;subst hg;refine .inr ⟨g',cap,_,rfl,hc,hb,Zal hgg _ u,hnc,hcm,by simpa using hcs,?_⟩;rw[<-Zfx hf y u l i j hi hj hy,<-htake,Array.toList_setIfInBounds,List.take_set]
 ·rcases List.mem_or_eq_of_mem_set hx with h1|rfl;·exact h.2 x h1
  ·exact hok
theorem OwnF.take(hf:∀x,(f x).length=size){a:Option Addr}{cap:Nat}(h:OwnF f ok E size w base l (.slice a l.length cap)){k:Nat}(hk:k<=l.length):OwnF f ok E size w base (l.take k) (.slice a k cap):=by
 have hl:(l.take k).length=k:=by rw[List.length_take];omega
 refine⟨⟨by rw[ZcX hf],?_⟩,fun x hx=>h.2 x (List.mem_of_mem_take hx)⟩;rw[hl];rcases h.1.2 with⟨h1,a',h2⟩|⟨g,c,cur,h2,hc,hb,hgg,hnc,hcm,hcs,htake⟩;·simp only[Value.slice.injEq]at h2;obtain⟨rfl, -,rfl⟩:=h2;exact .inl ⟨by omega,a,by rw[show k=0 by omega]⟩
 ·simp only[Value.slice.injEq,true_and]at h2;obtain⟨rfl,rfl⟩:=h2;refine .inr ⟨g,cap,cur,rfl,hc,hb,hgg,by omega,hcm,hcs,?_⟩;rw[<-ZeU hf l k hk,<-htake,List.take_take,Nat.min_eq_left (Nat.mul_le_mul_right _ hk)]
theorem OwnF.sl(hf:∀x,(f x).length=size)(h1:∀x,∀u∈f x,u.oneCell'=true)(h:OwnF f ok E size w base l v)(hl:l.length<=1048576){A:Nat->Prop}(hA:∀b,Zai v=some b->A b):SlR size (Zjw f ok) A w l v:=OwnR.sl' (ZbY h1) (h.ownR hf A) hl hA
end
theorem Ce.vals_len(c:Ce):c.vals.length=3:=rfl
theorem Ce.vals_one(c:Ce):∀u∈c.vals,u.oneCell'=true:=by simp[Ce.vals,Value.oneCell']
theorem Zaw(c:Int):(Zln c).length=1:=rfl
theorem Zb4(c:Int):∀u∈Zln c,u.oneCell'=true:=by simp[Zln,Value.oneCell']
theorem ZbM(c:Bool):(Zno c).length=1:=rfl
abbrev OwnC(w:World)(base:Nat)(l:List Ce)(v:Value):Prop:=OwnF Ce.vals Ce.Ok 95 3 w base l v
abbrev OwnN(w:World)(base:Nat)(l:List Int)(v:Value):Prop:=OwnF Zln I64 3 1 w base l v
abbrev OwnB(w:World)(base:Nat)(l:List Bool)(v:Value):Prop:=OwnF Zno (fun _=>True) 4 1 w base l v
theorem OwnN.sl{w:World}{base:Nat}{l:List Int}{v:Value}(h:OwnN w base l v)(hl:l.length<=1048576){A:Nat->Prop}(hA:∀b,Zai v=some b->A b):Zbv A w l v:=OwnF.sl Zaw Zb4 h hl hA
def ZnS{α:Type}(f:α->List Value)(ok:α->Prop)(E:TypeId)(size:Nat)(base:Nat)(l:List α)(r:Value)(w':World):Prop:=OwnF f ok E size w' base l r
theorem Zed(l:List Ce)(A:Nat->Prop)(w:World)(v:Value)(hv:SlR 3 Ce.rep A w l v):Calls Try.prog 35 #[v] w (Pure w (ZnS Ce.vals Ce.Ok 95 3 w.heap.size l)):=by
 obtain⟨a,cap,b,off,rfl,hlc,hcm,hlb,ha,he⟩:=hv.at;have HV:=zh hv;clear hv he;have qT:∀(w:World)(a:Option Addr)(n c:Nat),(binOp .eql 51 (.slice a n c) (.slice none 0 0)).run Try.prog w= .ok (.bool a.isNone) w:=fun w a n c=>Lib.run_eql_slice_nil w _ _ a n c _ _ Try.underlying51;cases a with
  |none=>
   have h0:l=[]:=by cases l with|nil=>rfl|cons x r=>have :=(ha (by simp)).1;cases this
   subst h0;go_enter Try.func35,Try.ntmps35;go_wp2_with fail;go_ret;exact⟨_,rfl,zB _ _,OwnF.nil⟩
  |some p=>have HA:=zh ha;clear ha;have HSL:Hd (∀w',Below w.heap.size w w'->∀g,w.heap.size<=g->SlR 3 Ce.rep (fun b=>True/\Zai (.slice (some ⟨g,0,none⟩) 0 0)≠some b) w' l (.slice (some p) l.length cap)):=fun w' hb g hg=>SlR.mono Ce.rep_lasts (by omega) (SlR.keeps Ce.rep_lasts HV.o (Keeps.ob hb)) (fun b _ _=>⟨trivial,by simp[Zai]⟩);go_enter Try.func35,Try.ntmps35;go_wp2_with(at_builtin;refine ZdV rfl (.tmp 5) (.tmp 6) 51 rfl w.heap.size 95 3 32 Zdh Ce.rep_lasts (A:=fun _=>True) (.slice (some ⟨w.heap.size,0,none⟩) 0 0) [] rfl ((OwnF.ownR Ce.vals_len (ok:=Ce.Ok) (l:=[]) ⟨⟨by simp,.inl ⟨rfl,_,rfl⟩⟩,fun x h=>by simp at h⟩ _)) _ rfl l (HSL.o _ ((zB _ _).alloc (zL _) _) _ (zL _)) (by simp;omega) (by simp) ?_;intro v2 w2 hown hgrew);go_ret;exact⟨_,rfl,hgrew.below ((zB _ _).alloc (zL _) _) (by simp) (fun k h=>by simp[Zai]at h),OwnF.of_ownR hown⟩
theorem Zfy(l:List Int)(A:Nat->Prop)(w:World)(v:Value)(hv:SlR 1 Zg0 A w l v):Calls Try.prog 71 #[v] w (Pure w (ZnS Zln I64 3 1 w.heap.size l)):=by
 obtain⟨a,cap,b,off,rfl,hlc,hcm,hlb,ha,he⟩:=hv.at;have HV:=zh hv;clear hv he;have qT:∀(w:World)(a:Option Addr)(n c:Nat),(binOp .eql 37 (.slice a n c) (.slice none 0 0)).run Try.prog w= .ok (.bool a.isNone) w:=fun w a n c=>Lib.run_eql_slice_nil w _ _ a n c _ _ Try.underlying37;cases a with
  |none=>
   have h0:l=[]:=by cases l with|nil=>rfl|cons x r=>have :=(ha (by simp)).1;cases this
   subst h0;go_enter Try.func71,Try.ntmps71;go_wp2_with fail;go_ret;exact⟨_,rfl,zB _ _,OwnF.nil⟩
  |some p=>have HA:=zh ha;clear ha;have HSL:Hd (∀w',Below w.heap.size w w'->∀g,w.heap.size<=g->SlR 1 Zg0 (fun b=>True/\Zai (.slice (some ⟨g,0,none⟩) 0 0)≠some b) w' l (.slice (some p) l.length cap)):=fun w' hb g hg=>SlR.mono Zae (by omega) (SlR.keeps Zae HV.o (Keeps.ob hb)) (fun b _ _=>⟨trivial,by simp[Zai]⟩);go_enter Try.func71,Try.ntmps71;go_wp2_with(at_builtin;refine ZdV rfl (.tmp 5) (.tmp 6) 37 rfl w.heap.size 3 1 8 Za1 Zae (A:=fun _=>True) (.slice (some ⟨w.heap.size,0,none⟩) 0 0) [] rfl ((OwnF.ownR Zaw (ok:=I64) (l:=[]) ⟨⟨by simp,.inl ⟨rfl,_,rfl⟩⟩,fun x h=>by simp at h⟩ _)) _ rfl l (HSL.o _ ((zB _ _).alloc (zL _) _) _ (zL _)) (by simp;omega) (by simp) ?_;intro v2 w2 hown hgrew);go_ret;exact⟨_,rfl,hgrew.below ((zB _ _).alloc (zL _) _) (by simp) (fun k h=>by simp[Zai]at h),OwnF.of_ownR hown⟩
def HpNE(A:Nat->Prop)(x:Hp×Int×Int)(r:Value)(w':World):Prop:=∃us,r= .tuple #[.agg us.toArray,.int .i64 x.2.1,.int .i64 x.2.2]/\Hp.rep A w' x.1 us
theorem Hp.rep_block{A:Nat->Prop}{w:World}{bl:List Ce}{v:Value}(hv:CesR A w bl v):Hp.rep A w ⟨bl,[]⟩ [v,.slice none 0 0]:=⟨v,_,rfl,hv,SlR.nil ..⟩
theorem Pure.mk{w w':World}{R:Value->World->Prop}{v:Value}(hb:Below w.heap.size w w')(hr:R v w'):Pure w R (.returned v) w':=⟨v,rfl,hb,hr⟩
theorem Zcb{w:World}{g:Nat}{E:TypeId}{v0 v1:Value}(h:w.heap[g]?=some (.cells #[v0,v1] E (0,0))):w.cell? ⟨g,0,none⟩=some v0/\w.cell? ⟨g,1,none⟩=some v1/\∀o,w.frozen? ⟨g,o,none⟩=false:=⟨(Zax h 0).trans rfl,(Zax h 1).trans rfl,fun o=>by simp[World.frozen?,h]⟩
theorem HpNE.old{A:Nat->Prop}{w w':World}{h:Hp}{vs:List Value}{n e:Int}(hh:Hp.rep A w h vs)(hb:Below w.heap.size w w'):HpNE (fun b=>A b\/New w b) (h,n,e) (.tuple #[.agg vs.toArray,.int .i64 n,.int .i64 e]) w':=⟨vs,rfl,Hp.rep.mono (Hp.rep.keeps hh (Keeps.ob hb)) (fun _ _ h=> .inl h)⟩
theorem OwnR.val'{α:Type}{w:World}{base:Nat}{E:TypeId}{size:Nat}{R:(Nat->Prop)->World->α->List Value->Prop}{A:Nat->Prop}{xs:List α}{v:Value}(h:OwnR w base E size R A xs v):∃a cap,v= .slice a xs.length cap/\xs.length<=cap/\cap<=maxLen:=by
 obtain⟨vals,hl,ho,he⟩:=h;rcases ho.2 with⟨h0,a,rfl⟩|⟨g,cap,cur,rfl,hc,hb,hg,hnc,hcm,_⟩;·exact⟨a,0,by rw[h0],by omega,by simp[maxLen]⟩
 ·exact⟨_,cap,rfl,hnc,hcm⟩
theorem OwnC.val'{w:World}{base:Nat}{l:List Ce}{v:Value}(h:OwnC w base l v):∃a cap,v= .slice a l.length cap/\l.length<=cap/\cap<=maxLen:=OwnF.val h
def Zn9(w:World)(base:Nat)(X1 X2:Obj)(l:List Ce)(v:Value)(wr:World):Prop:=Below w.heap.size w wr/\wr.heap[w.heap.size]?=some X1/\wr.heap[w.heap.size+1]?=some X2/\OwnC wr base l v
theorem CesR.sl_of{w:World}{base:Nat}{l:List Ce}{v:Value}{A:Nat->Prop}(h:OwnC w base l v)(hl:l.length<=1048576)(hA:∀b,Zai v=some b->A b):CesR A w l v:=OwnF.sl Ce.vals_len Ce.vals_one h hl hA
theorem ZhZ(h:Hp)(bl:List Ce)(A:Nat->Prop)(w:World)(vs:List Value)(v:Value)(hh:Hp.rep A w h vs)(hv:CesR A w bl v):Calls Try.prog 16 #[.agg vs.toArray,v] w (Pure w (HpNE (fun b=>A b\/New w b) (Zbs h bl))):=by
 obtain⟨a,cap,b,tap,rfl,hc1,hc2,hc3,ht1,ht2,ht3,hc,ht⟩:=Hp.rep2 hh;obtain⟨a',cap',b',off',rfl,hlc',hcm',hlb', -, -⟩:=hv.at;have HH:=zh hh;have HC:=zh hc;have HV:=zh hv;have HG1:=zh (fun w'(hk:Keeps A w w')=>Zc9 h A w' _ (Hp.rep.keeps hh hk));have HG2:=zh (fun w'(hk:Keeps A w w')=>Zc9 ⟨bl,[]⟩ A w' _ (Hp.rep.keeps (Hp.rep_block hv) hk));have HTR:=zh ht;clear hh hv hc ht;go_enter Try.func16,Try.ntmps16;go_wp2_with fail;refine(HG1.o _ ((Keeps.alloc _ _ _).trans (Keeps.alloc _ _ _))).mono ?_;rintro e w1⟨v,rfl,hb1,t,rfl,ht⟩;have h2:=Zcv w (.cells #[.slice a h.cells.length cap,.slice b h.trail.length tap] 53) (.cells #[.slice none 0 0,.slice none 0 0] 53);have HX1:=zh (Zac h2.1 hb1);have HX2:=zh (Zac h2.2 hb1);have HB:=zh (show Below w.heap.size w w1 from Zas (Zas (hb1.mono (by simp))));have hz:w.heap.size+1<w1.heap.size:=by have :=hb1.size;simp at this;omega
 have hz':w.heap.size<w1.heap.size:=by omega
 have HT:=zh ht;have hcs:=Zak;clear h2 hb1 ht;obtain⟨x0,x1,xf⟩:=Zcb HX1.o;obtain⟨y0,y1,yf⟩:=Zcb HX2.o;cases t with
  |false=>
   go_wp2_with fail;refine bodyPost_ret (v:= .tuple #[.agg #[.slice a h.cells.length cap,.slice b h.trail.length tap],.int .i64 0,.int .i64 1]) (by simp[results,Try.results16,go_sem,hcs,x0,x1,y0,y1]) rfl ?_;have hg:¬(h.Good/\Hp.Good ⟨bl,[]⟩):=fun hg=>by have :=HT.o.2 hg.1;cases this
   have hb:Below w.heap.size w ((w1.setCell ⟨w.heap.size+1,0,none⟩ (.slice a h.cells.length cap)).setCell ⟨w.heap.size+1,1,none⟩ (.slice b h.trail.length tap)):=Below.setCell (Below.setCell HB.o (by simp) _) (by simp) _;rw[Zbs,if_pos hg];exact Pure.mk hb (HpNE.old HH.o hb)
  |true=>
   have HT1:=zh (HT.o.1 rfl);clear HT;go_wp2_with fail;refine(HG2.o _ (Keeps.ob HB.o)).mono ?_;rintro e w2⟨v,rfl,hb2,t,rfl,ht⟩;have HX1':=zh (Zac HX1.o hb2);have HX2':=zh (Zac HX2.o hb2);have HB':=zh (show Below w.heap.size w w2 from HB.o.trans (hb2.mono (by omega)));have hz2:w.heap.size+1<w2.heap.size:=by have :=hb2.size;omega
   have hz2':w.heap.size<w2.heap.size:=by omega
   have HT':=zh ht;clear ht x0 x1 xf y0 y1 yf hb2;obtain⟨x0,x1,xf⟩:=Zcb HX1'.o;obtain⟨y0,y1,yf⟩:=Zcb HX2'.o;cases t with
    |false=>
     go_wp2_with fail;refine bodyPost_ret (v:= .tuple #[.agg #[.slice a h.cells.length cap,.slice b h.trail.length tap],.int .i64 0,.int .i64 1]) (by simp[results,Try.results16,go_sem,hcs,x0,x1,y0,y1]) rfl ?_;have hg:¬(h.Good/\Hp.Good ⟨bl,[]⟩):=fun hg=>by have :=HT'.o.2 hg.2;cases this
     have hb:Below w.heap.size w ((w2.setCell ⟨w.heap.size+1,0,none⟩ (.slice a h.cells.length cap)).setCell ⟨w.heap.size+1,1,none⟩ (.slice b h.trail.length tap)):=Below.setCell (Below.setCell HB'.o (by simp) _) (by simp) _;rw[Zbs,if_pos hg];exact Pure.mk hb (HpNE.old HH.o hb)
    |true=>
     have hg:h.Good/\Hp.Good ⟨bl,[]⟩:=⟨HT1.o,HT'.o.1 rfl⟩;have HG:=zh hg;have hl1:h.cells.length<=65536:=hg.1.2.2.1;have hl2:bl.length<=65536:=hg.2.2.2.1;clear hg;by_cases hbig:65536<h.cells.length+bl.length
     ·have hbig':(65536:Int)<h.cells.length+bl.length:=by omega
      go_wp2_with fail;refine bodyPost_ret (v:= .tuple #[.agg #[.slice a h.cells.length cap,.slice b h.trail.length tap],.int .i64 0,.int .i64 3]) (by simp[results,Try.results16,go_sem,hcs,x0,x1,y0,y1]) rfl ?_;have hb:Below w.heap.size w ((w2.setCell ⟨w.heap.size+1,0,none⟩ (.slice a h.cells.length cap)).setCell ⟨w.heap.size+1,1,none⟩ (.slice b h.trail.length tap)):=Below.setCell (Below.setCell HB'.o (by simp) _) (by simp) _;rw[Zbs,if_neg (not_not_intro HG.o),if_pos hbig];exact Pure.mk hb (HpNE.old HH.o hb)
     ·have hbig':(h.cells.length:Int)+bl.length<=65536:=by omega
      go_wp2_with fail;refine(Zed h.cells A _ _ (SlR.keeps Ce.rep_lasts HC.o (Keeps.ob HB'.o))).mono ?_;rintro e w3⟨v,rfl,hb3,hown⟩;obtain⟨ca,cc,rfl,hcl,hcm⟩:=OwnC.val' hown;have HX1'':=zh (Zac HX1'.o hb3);have HX2'':=zh (Zac HX2'.o hb3);have HB'':=zh (show Below w.heap.size w w3 from HB'.o.trans (hb3.mono (by omega)));have hz3:w2.heap.size<=w3.heap.size:=hb3.size;have HO:=zh (OwnF.ownR Ce.vals_len hown (fun _=>True));have HSL:Hd (CesR (fun b=>True/\Zai (.slice ca h.cells.length cc)≠some b) w3 bl (.slice a' bl.length cap')):=by have h1:=SlR.mono (A':=fun b=>A b/\b<w.heap.size) Ce.rep_lasts (by omega) HV.o (fun b hb h=>⟨h,hb⟩);exact SlR.mono Ce.rep_lasts (by omega) (SlR.keeps Ce.rep_lasts h1 (Keeps.ob HB''.o)) (fun b _ hb=>⟨trivial,fun e=>by have :=(OwnF.lt hown b e).1;omega⟩)
      clear hown hb3 x0 x1 xf y0 y1 yf;obtain⟨x0,x1,xf⟩:=Zcb HX1''.o;obtain⟨y0,y1,yf⟩:=Zcb HX2''.o;go_wp2_with(at_builtin;refine ZdV rfl (.tmp 31) (.tmp 32) 51 rfl w2.heap.size 95 3 32 Zdh Ce.rep_lasts (A:=fun _=>True) (.slice ca h.cells.length cc) h.cells rfl HO.o _ rfl bl HSL.o (by omega) hz3 ?_;intro v2 w4 hown hgrew;obtain⟨va,vc,hv2,hvl,hvm⟩:=OwnR.val' hown;rw[List.length_append]at hv2 hvl;subst hv2;have HO4:=zh (OwnF.of_ownR hown);have HG4:=zh hgrew;have hz4:=hgrew.size;clear hown hgrew);have hbb:h.cells.length<=(h.cells++bl).length:=by simp
      have HGC:=zh HG.o.2.1;have HLen:=zh (show(h.cells++bl).length=h.cells.length+bl.length from List.length_append);have hN:(h.cells++bl).length<=65536:=by rw[HLen.o];omega
      have hBW4:Below w.heap.size w w4:=HG4.o.below HB''.o (by omega) (fun k hk=>by have :=(OwnF.lt (OwnF.of_ownR HO.o) k hk).1;omega);have hkeep:∀k,k<w2.heap.size->w4.heap[k]?=w3.heap[k]?:=fun k hk=>HG4.o.grown.block k (by omega) (fun e=>by have :=(OwnF.lt (OwnF.of_ownR HO.o) k e.symm).1;omega);have HX14:=zh ((hkeep _ hz2').trans HX1''.o);have HX24:=zh ((hkeep _ hz2).trans HX2''.o);have HBW4:=zh hBW4;clear hBW4 hkeep x0 x1 xf y0 y1 yf;go_loopw[9](fun i wr=>∃j:Nat,h.cells.length<=j/\j<=h.cells.length+bl.length/\i= .int .i64 j/\Zn9 w w2.heap.size (.cells #[.slice a h.cells.length cap,.slice b h.trail.length tap] 53) (.cells #[.slice none 0 0,.slice none 0 0] 53) (Zf7 h.cells.length (h.cells++bl) j) (.slice va (h.cells.length+bl.length) vc) wr)(fun i _=>h.cells.length+bl.length - (intOf i).toNat);case atStart=>exact⟨h.cells.length,zL _,by omega,rfl,HBW4.o,HX14.o,HX24.o,by rw[ZjA];exact HO4.o⟩
      case round=>
       obtain⟨j,hj0,hj,rfl,hinv⟩:=hrel;have HI:=zh hinv;obtain⟨hib,hi1,hi2,hio⟩:=hinv;have hsz5:w.heap.size+1<wr.heap.size:=Zag hi2;clear hib hi1 hi2;by_cases hlt:j<h.cells.length+bl.length
       ·have hlj:j<(h.cells++bl).length:=by rw[HLen.o];exact hlt
        have hsl:(Zf7 h.cells.length (h.cells++bl) j).length=h.cells.length+bl.length:=by rw[Zfa,HLen.o]
        obtain⟨g,gc,hve,hgc0,hgc1,hgc2,hob,hfz,hgl,hgb,hcell⟩:=OwnF.at Ce.vals_len hio (by omega);rw[hsl]at hve;simp only[Value.slice.injEq,true_and]at hve;obtain⟨rfl,rfl⟩:=hve;have hjl:j<(Zf7 h.cells.length (h.cells++bl) j).length:=by rw[Zfa];exact hlj
        obtain⟨c,hc⟩:∃c,c=(h.cells++bl)[j]:=⟨_,rfl⟩;have hcj:(Zf7 h.cells.length (h.cells++bl) j)[j]'hjl=c:=by rw[ZdC,if_neg (by omega),hc]
        have c0:=hcell j hjl 0 (.int .i64 c.kind) (by rw[hcj];rfl);have c1:=hcell j hjl 1 (.int .i64 c.n) (by rw[hcj];rfl);simp only[Nat.add_zero]at c0;have hbj:j - h.cells.length<bl.length:=by omega
        have hcb:c=bl[j - h.cells.length]:=hc.trans (List.getElem_append_right hj0);have hok:=HGC.o (j - h.cells.length) hbj;simp only at hok;rw[<-hcb]at hok;have hI64:c.Ok:=hio.2 c (by rw[<-hcj];exact List.getElem_mem _);have HCC:=zh hc;clear hc;have HOK:=zh hI64;have HCJ:=zh hcj;have HSL:=zh hsl;have HOB:=zh hob;have HIO:=zh hio;clear hcell hcb hcj hI64 hsl hob hio;have hi0':(0:Int)<=(j:Int):=zN _;have hi1':(j:Int)<(h.cells.length:Int)+bl.length:=by omega
        by_cases hk:c.kind=0
        ·have hn:0<=c.n/\c.n<65536:=by unfold Ce.OkAt at hok;omega
         obtain⟨hn0,hn1⟩:=hn;have HK:=zh hk;rw[hk]at c0;clear hk hok;go_wp2_with fail;go_roundw;case rel=>
          refine⟨j+1,by omega,by omega,by go_num,Below.setCell HI.o.1 (by simp only;omega) _,?_,?_,?_⟩;·rw[Below.heap_setCell _ _ _ _ (by simp;omega)];exact HI.o.2.1
          ·rw[Below.heap_setCell _ _ _ _ (by simp;omega)];exact HI.o.2.2.1
          ·rw[Zha _ _ _ hj0 hlj,<-HCC.o];refine OwnF.set Ce.vals_len HIO.o HOB.o (by rw[HSL.o];exact hlt) (by omega) ?_ ?_;·rw[HCJ.o,shC,if_pos HK.o];rfl
           ·rw[shC,if_pos HK.o];obtain⟨o1,o2,o3⟩:=HOK.o;exact⟨o1,by unfold I64;simp only;omega,o3⟩
         case measure=>simp[intOf];omega
        ·have hk':(c.kind==0)=false:=by simpa using hk
         have HK:=zh hk;clear hk hok;go_wp2_with fail;go_roundw;case rel=>refine⟨j+1,by omega,by omega,by go_num,HI.o.1,HI.o.2.1,HI.o.2.2.1,?_⟩;rw[Zko _ _ _ hj0 hlj (by rw[<-HCC.o];exact HK.o)];exact HIO.o
         case measure=>simp[intOf];omega
       ·have hje:j=h.cells.length+bl.length:=by omega
        have HJE:=zh hje;have hib:=HI.o.2.1;have hic:=HI.o.2.2.1;obtain⟨x0,x1,xf⟩:=Zcb hib;obtain⟨y0,y1,yf⟩:=Zcb hic;have HIO:=zh hio;clear hib hic hje hio;go_wp2_with fail;refine bodyPost_ret (v:= .tuple #[.agg #[.slice va (h.cells.length+bl.length) vc,.slice b h.trail.length tap],.int .i64 h.cells.length,.int .i64 0]) (by simp[results,Try.results16,go_sem,hcs,x0,x1,y0,y1]) rfl ?_;have hb:Below w.heap.size w ((wr.setCell ⟨w.heap.size+1,0,none⟩ (.slice va (h.cells.length+bl.length) vc)).setCell ⟨w.heap.size+1,1,none⟩ (.slice b h.trail.length tap)):=Below.setCell (Below.setCell HI.o.1 (by simp) _) (by simp) _;rw[Zbs,if_neg (not_not_intro HG.o),if_neg hbig];refine Pure.mk hb ⟨_,rfl,_,_,rfl,?_,?_⟩
        ·have h6:=HIO.o;rw[HJE.o]at h6;rw[show Zf7 h.cells.length (h.cells++bl) (h.cells.length+bl.length)=h.cells++bl.map (shC h.cells.length)from by rw[<-HLen.o];exact Zlz _ _]at h6;refine CesR.sl_of (OwnF.kept h6 fun k hk=>?_) (by simp;omega) (fun k hk=>?_);·have :=(h6.lt k hk).1;rw[Below.heap_setCell _ _ _ _ (by simp;omega),Below.heap_setCell _ _ _ _ (by simp;omega)]
         ·have :=(h6.lt k hk).1;exact .inr (by unfold New;omega)
        ·exact SlR.mono Zae (by omega) (SlR.keeps Zae HTR.o (Keeps.ob hb)) (fun _ _ h=> .inl h)
def Zkp(n:Int)(r:Value)(_:World):Prop:=r= .int .i64 n
theorem ZnT{A:Nat->Prop}{w:World}{h:Hp}{vs:List Value}(hh:Hp.rep A w h vs):∃a cap b tap cb coff tb toff,vs=[.slice a h.cells.length cap,.slice b h.trail.length tap]/\h.cells.length<=cap/\cap<=maxLen/\h.cells.length<=1048576/\h.trail.length<=tap/\tap<=maxLen/\h.trail.length<=1048576/\Hd (0<h.cells.length->a=some ⟨cb,coff,none⟩/\A cb)/\Hd (Elems A w 3 Ce.rep h.cells cb coff)/\Hd (0<h.trail.length->b=some ⟨tb,toff,none⟩/\A tb)/\Hd (Elems A w 1 Zg0 h.trail tb toff):=by obtain⟨a,cap,b,tap,rfl,hc1,hc2,hc3,ht1,ht2,ht3,hc,ht⟩:=Hp.rep2 hh;obtain⟨_,_,cb,coff,e, -, -, -,ha,he⟩:=hc.at;simp only[Value.slice.injEq,true_and]at e;obtain⟨rfl,rfl⟩:=e;obtain⟨_,_,tb,toff,e, -, -, -,hb,hf⟩:=ht.at;simp only[Value.slice.injEq,true_and]at e;obtain⟨rfl,rfl⟩:=e;exact⟨a,cap,b,tap,cb,coff,tb,toff,rfl,hc1,hc2,hc3,ht1,ht2,ht3,zh ha,zh he,zh hb,zh hf⟩
def Znr(l:List Ce)(a0:Int)(i:Nat)(a:Int):Prop:=Zc5 l (l.length+1 - i) a=look l a0/\I64 a
theorem Zfz(h:Hp)(a:Int)(ha:I64 a)(A:Nat->Prop)(w:World)(vs:List Value)(hh:Hp.rep A w h vs):Calls Try.prog 70 #[.agg vs.toArray,.int .i64 a] w (Pure w (Zkp (look h.cells a))):=by
 obtain⟨va,cap,vb,tap,cb,coff,tb,toff,rfl,hc1,hc2,hc3,ht1,ht2,ht3,HA,HE,HA',HE'⟩:=ZnT hh;have HI:=zh ha;clear hh ha;go_enter Try.func70,Try.ntmps70;go_wp2_with fail;go_loopw[1,10](fun x i wr=>∃(j:Nat)(b:Int),j<=h.cells.length+1/\i= .int .i64 j/\x= .int .i64 b/\Below (w.heap.size+1) (w.alloc (.cells #[.slice va h.cells.length cap,.slice vb h.trail.length tap] 53)) wr/\Znr h.cells a j b)(fun _ i _=>h.cells.length+1 - (intOf i).toNat);case atStart=>exact⟨0,a,Nat.zero_le _,rfl,rfl,zB _ _,rfl,HI.o⟩
 case round=>
  obtain⟨j,b,hj,rfl,rfl,hb,hst⟩:=hrel;have HB:=zh hb;have HS:=zh hst.1;have hz:=hb.size;simp only[World.size_alloc]at hz;have hz':w.heap.size<wr.heap.size:=hz;have f0:wr.cell? ⟨w.heap.size,0,none⟩=some (.slice va h.cells.length cap):=by rw[hb.cell (by simp)];simp
  have hbi:=hst.2;clear hb hst;by_cases hlt:j<h.cells.length+1
  ·have hlt':(j:Int)<(h.cells.length:Int)+1:=by omega
   have HK:=zh (show h.cells.length+1 - j=(h.cells.length - j)+1 by omega);by_cases hin:Inb h.cells b
   ·obtain⟨v,rfl,hv,hcv⟩:=ZaR hin;have HCV:=zh hcv;obtain⟨rfl,hAb⟩:=HA.o (by omega);have hk2:Keeps A w wr:=(Keeps.alloc _ _ _).trans (Keeps.ob (HB.o.mono (by simp)));obtain⟨c0,c1,c2,i0,i1,i2⟩:=ZbJ HE.o hAb hk2 hv;have hlb:cb<wr.heap.size:=World.block_lt_of_cell? wr _ c0;have hv0:(0:Int)<=(v:Int):=zN _;have hv1:(v:Int)<(h.cells.length:Int):=by omega
    have HIN:=zh hin;clear hk2 hcv hin;by_cases hs:Stop h.cells (v:Int)
    ·have hres:look h.cells a=(v:Int):=by have :=HS.o;rw[HK.o,Zc5,if_neg (not_not_intro HIN.o),if_pos hs]at this;exact this.symm
     have HRES:=zh hres;unfold Stop at hs;rw[HCV.o]at hs;have HST:=zh hs;clear hres hs;by_cases hk:h.cells[v].kind=0;·have hn:h.cells[v].n=v:=HST.o.resolve_left (not_not_intro hk);rw[hk]at c0;rw[hn]at c1;clear hk hn;go_wp2_with fail;go_ret;exact⟨_,rfl,Zas ((HB.o.alloc hz _).mono (by simp)),by unfold Zkp;rw[HRES.o];rfl⟩
     ·have hk':(h.cells[v].kind != 0)=true:=by simpa using hk
      clear hk;go_wp2_with fail;go_ret;exact⟨_,rfl,Zas ((HB.o.alloc hz _).mono (by simp)),by unfold Zkp;rw[HRES.o];rfl⟩
    ·have hnx:Zc5 h.cells (h.cells.length - j) h.cells[v].n=look h.cells a:=by have :=HS.o;rw[HK.o,Zc5,if_neg (not_not_intro HIN.o),if_neg hs,HCV.o]at this;exact this
     have HNX:=zh hnx;unfold Stop at hs;rw[HCV.o]at hs;have hk:h.cells[v].kind=0:=Decidable.not_not.1 fun e=>hs (.inl e);have hn:¬h.cells[v].n=v:=fun e=>hs (.inr e);have hn':(h.cells[v].n==(v:Int))=false:=by simpa using hn
     rw[hk]at c0;clear hs hk hn hnx;go_wp2_with fail;go_roundw;case rel=>refine⟨j+1,h.cells[v].n,by omega,by go_num,rfl,HB.o.alloc hz _,?_,i1⟩;rw[show h.cells.length+1 - (j+1)=h.cells.length - j by omega];exact HNX.o
     case measure=>simp[intOf];omega
   ·have hres:look h.cells a= -1:=by have :=HS.o;rw[HK.o,Zc5,if_pos hin]at this;exact this.symm
    have HRES:=zh hres;unfold Inb at hin;clear hres;go_wp2_with fail;all_goals first|(exfalso;omega)|(go_ret;exact⟨_,rfl,Zas (HB.o.mono (by simp)),by unfold Zkp;rw[HRES.o];rfl⟩)|go_ways
  ·have hres:look h.cells a= -1:=by have :=HS.o;rw[show h.cells.length+1 - j=0 by omega,Zc5]at this;exact this.symm
   have HRES:=zh hres;clear hres;have hje:j=h.cells.length+1:=by omega
   subst hje;go_wp2_with fail;go_ret;exact⟨_,rfl,Zas (HB.o.mono (by simp)),by unfold Zkp;rw[HRES.o];rfl⟩
def IsV(u:Value):Value->World->Prop:=fun v _=>v=u
def Zns(base:Nat)(l:List Ce):Value->World->Prop:=fun v w=>OwnC w base l v
def Zh0(base:Nat)(l:List Int):Value->World->Prop:=fun v w=>OwnN w base l v
def Stays(R:Value->World->Prop):Prop:=∀v w w',R v w->Below w.heap.size w w'->R v w'
theorem ZcD(u:Value):Stays (IsV u):=fun _ _ _ h _=>h
theorem ZcY(base:Nat)(l:List Ce):Stays (Zns base l):=fun v w w' h hb=>OwnF.below h hb
theorem Zcy(base:Nat)(l:List Int):Stays (Zh0 base l):=fun v w w' h hb=>OwnF.below h hb
def posts(ps:List (Value->World->Prop))(i:Nat):Value->World->Prop:=ps.getD i fun _ _=>True
theorem Zbo{ps:List (Value->World->Prop)}(h:∀R∈ps,Stays R)(i:Nat)(v:Value)(w w':World)(hp:posts ps i v w)(hb:Below w.heap.size w w'):posts ps i v w':=by
 unfold posts at*;by_cases hi:i<ps.length
 ·have e:ps.getD i (fun _ _=>True)=ps[i]:=by simp[List.getD,hi]
  rw[e]at hp ⊢;exact h _ (List.getElem_mem hi) v w w' hp hb
 ·simp[List.getD,hi]
theorem ZaS{α β:Type}{f:α->List Value}{ok:α->Prop}{f':β->List Value}{ok':β->Prop}{E E':TypeId}{size size' base base':Nat}{w:World}{l:List α}{l':List β}{v v':Value}(hE:E≠E')(h:OwnF f ok E size w base l v)(h':OwnF f' ok' E' size' w base' l' v'):∀k,Zai v=some k->Zai v'≠some k:=by
 intro k hk hk';have key:∀{α:Type}{f:α->List Value}{ok:α->Prop}{E:TypeId}{size base:Nat}{l:List α}{v:Value},OwnF f ok E size w base l v->Zai v=some k->∃c,w.heap[k]?=some (.cells c E (0,0)):=by
  intro α f ok E size base l v h hk;rcases h.1.2 with⟨_,a,rfl⟩|⟨g,cap,cur,rfl,hc,hb,hg,_⟩;·cases a<;>simp[Zai]at hk
  ·simp only[Zai,Nat.pos_iff_ne_zero.1 hc,if_false,Option.some.injEq]at hk;subst hk;exact⟨cur,hg⟩
 obtain⟨c,h1⟩:=key h hk;obtain⟨c',h2⟩:=key h' hk';rw[h1]at h2;simp only[Option.some.injEq,Obj.cells.injEq]at h2;exact hE h2.2.1
def ZnU(w:World)(base:Nat)(h:Hp)(vs:List Value):Prop:=∃c t,vs=[c,t]/\OwnC w base h.cells c/\OwnN w base h.trail t
def ZmP(base:Nat)(h:Hp):Value->World->Prop:=fun v w=>∃us,v= .agg us.toArray/\ZnU w base h us
theorem Zkq(base:Nat)(h:Hp):Stays (ZmP base h):=fun v w w'⟨us,e,c,t,e2,h1,h2⟩hb=>⟨us,e,c,t,e2,OwnF.below h1 hb,OwnF.below h2 hb⟩
theorem OwnF.ne_box{α:Type}{f:α->List Value}{ok:α->Prop}{E E':TypeId}{size base:Nat}{w:World}{l:List α}{v:Value}{g:Nat}{c:Array Value}{fr:Nat×Nat}(h:OwnF f ok E size w base l v)(hb:w.heap[g]?=some (.cells c E' fr))(hE:E≠E'):Zai v≠some g:=by
 intro hk;rcases h.1.2 with⟨_,a,rfl⟩|⟨g',cap,cur,rfl,hc,hb',hg,_⟩;·cases a<;>simp[Zai]at hk
 ·simp only[Zai,Nat.pos_iff_ne_zero.1 hc,if_false,Option.some.injEq]at hk;subst hk;rw[hg]at hb;simp only[Option.some.injEq,Obj.cells.injEq]at hb;exact hE hb.2.1
theorem Zc3{w:World}{g:Nat}{E:TypeId}{v0 v1 v2:Value}(h:w.heap[g]?=some (.cells #[v0,v1,v2] E (0,0))):w.cell? ⟨g,0,none⟩=some v0/\w.cell? ⟨g,1,none⟩=some v1/\w.cell? ⟨g,2,none⟩=some v2/\∀o,w.frozen? ⟨g,o,none⟩=false:=⟨(Zax h 0).trans rfl,(Zax h 1).trans rfl,(Zax h 2).trans rfl,fun o=>by simp[World.frozen?,h]⟩
def UInv(g base:Nat)(cv tv:Value)(l:List Ce)(t:List Int)(k:Int)(w:World):Prop:=w.heap[g]?=some (.cells #[cv,tv,.int .i64 k] 139 (0,0))/\OwnC w base l cv/\OwnN w base t tv/\base<=g/\l.length<=65536/\(t.length:Int)+k<=70000/\ -1<=k/\k<=400
section
variable {g base : Nat} {cv tv : Value} {l : List Ce} {t : List Int} {k : Int} {w : World}
theorem UInv.lt(h:UInv g base cv tv l t k w):g<w.heap.size/\base<=g/\base<=w.heap.size:=by obtain⟨h1,_,_,h2,_⟩:=h;have :=Zag h1;omega
theorem UInv.keeps{w':World}(h:UInv g base cv tv l t k w)(hg:w'.heap[g]?=w.heap[g]?)(hc:∀b,Zai cv=some b->w'.heap[b]?=w.heap[b]?)(ht:∀b,Zai tv=some b->w'.heap[b]?=w.heap[b]?):UInv g base cv tv l t k w':=by obtain⟨h1,h2,h3,h4⟩:=h;exact⟨hg.trans h1,h2.kept hc,h3.kept ht,h4⟩
theorem UInv.below{w':World}(h:UInv g base cv tv l t k w)(hb:Below w.heap.size w w'):UInv g base cv tv l t k w':=h.keeps (hb.block _ h.lt.1) (fun b e=>hb.block _ (h.2.1.lt b e).2) (fun b e=>hb.block _ (h.2.2.1.lt b e).2)
theorem UInv.vals(h:UInv g base cv tv l t k w):∃ca cc ta tc,cv= .slice ca l.length cc/\tv= .slice ta t.length tc/\l.length<=cc/\cc<=maxLen/\t.length<=tc/\tc<=maxLen:=by obtain⟨h1,h2,h3,h4⟩:=h;obtain⟨ca,cc,rfl,e1,e2⟩:=OwnF.val h2;obtain⟨ta,tc,rfl,e3,e4⟩:=OwnF.val h3;exact⟨ca,cc,ta,tc,rfl,rfl,e1,e2,e3,e4⟩
theorem UInv.rep(h:UInv g base cv tv l t k w):Hp.rep (fun _=>True) w ⟨l,t⟩ [cv,tv]:=by obtain⟨h1,h2,h3,h4,h5,h6,h7,h8⟩:=h;exact⟨cv,tv,rfl,OwnF.sl Ce.vals_len Ce.vals_one h2 (by omega) (fun _ _=>trivial),OwnF.sl Zaw Zb4 h3 (by omega) (fun _ _=>trivial)⟩
theorem UInv.turn{k':Int}(h:UInv g base cv tv l t k w)(h1: -1<=k')(h2:k'<=k):UInv g base cv tv l t k' (w.setCell ⟨g,2,none⟩ (.int .i64 k')):=by
 obtain⟨e1,e2,e3,e4,e5,e6,e7,e8⟩:=h;refine⟨(Zal e1 2 _).trans rfl,e2.kept fun b hb=>?_,e3.kept fun b hb=>?_,e4,e5,by omega,by omega,by omega⟩;·exact Below.heap_setCell _ _ _ _ (fun e=>OwnF.ne_box e2 e1 (by decide) (hb.trans (congrArg some e)))
 ·exact Below.heap_setCell _ _ _ _ (fun e=>OwnF.ne_box e3 e1 (by decide) (hb.trans (congrArg some e)))
end
theorem ZeV(g o:Nat)(w:World)(u:Value):Ch (fun b=>b=g) w (w.setCell ⟨g,o,none⟩ u):=(Ch.refl (fun b=>b=g) w).setCell (p:=⟨g,o,none⟩) (Or.inl (show g=g from rfl)) u
theorem Ch.set_box{w w':World}{g:Nat}(h:Ch (fun b=>b=g) w w')(o:Nat)(u:Value):Ch (fun b=>b=g) w (w'.setCell ⟨g,o,none⟩ u):=h.setCell (p:=⟨g,o,none⟩) (Or.inl (show g=g from rfl)) u
theorem OwnC.cell{w:World}{base:Nat}{l:List Ce}{ca:Option Addr}{cc:Nat}(h:OwnC w base l (.slice ca l.length cc)){i:Nat}(hi:i<l.length):∃b,ca=some ⟨b,0,none⟩/\Zai (.slice ca l.length cc)=some b/\w.cell? ⟨b,i*3,none⟩=some (.int .i64 l[i].kind)/\w.cell? ⟨b,i*3+1,none⟩=some (.int .i64 l[i].n)/\w.cell? ⟨b,i*3+2,none⟩=some (.string l[i].s)/\l[i].Ok/\(∀o,w.frozen? ⟨b,o,none⟩=false)/\b<w.heap.size/\base<=b:=by obtain⟨b,cap,e,h0,h1,h2,h3,h4,h5,h6,h7⟩:=OwnF.at Ce.vals_len h (by omega);simp only[Value.slice.injEq,true_and]at e;obtain⟨rfl,rfl⟩:=e;exact⟨b,rfl,h3,h7 i hi 0 _ rfl,h7 i hi 1 _ rfl,h7 i hi 2 _ rfl,h.2 _ (List.getElem_mem hi),h4,h5,h6⟩
def Still(r:Value)(w:World)(e:Ending)(w':World):Prop:=e= .returned r/\w=w'
theorem ZcE(g base:Nat)(cv tv:Value)(l:List Ce)(t:List Int)(k:Int)(w:World)(h:UInv g base cv tv l t k w)(i:Nat)(hi:i<l.length):Calls Try.prog 74 #[.pointer (some ⟨g,0,none⟩),.int .i64 (i:Int)] w (Still (.bool (l[i].kind==0)) w):=by
 obtain⟨ca,cc,ta,tc,rfl,rfl,e1,e2,e3,e4⟩:=h.vals;obtain⟨h1,h2,h3,h4,h5,h6,h7,h8⟩:=h;obtain⟨x0,x1,x2,xf⟩:=Zc3 h1;obtain⟨b,rfl, -,c0,c1,c2,hok, -⟩:=OwnC.cell h2 hi;have hi0:(0:Int)<=(i:Int):=zN _;have hi1:(i:Int)<(l.length:Int):=by omega
 clear h1 h2 h3 hok;go_enter Try.func74,Try.ntmps74;go_wp2_with fail;go_ret;exact⟨rfl,rfl⟩
def Znt(g base:Nat)(cv tv:Value)(l:List Ce)(t:List Int)(w:World)(p:Bool×Int)(e:Ending)(w':World):Prop:=e= .returned (.bool p.1)/\Ch (fun b=>b=g) w w'/\UInv g base cv tv l t p.2 w'
def ZnN(g base:Nat)(cv tv:Value)(l:List Ce)(t:List Int)(v:Int)(k:Nat):Prop:=∀(a:Int)(w:World),I64 a->UInv g base cv tv l t k w->Calls Try.prog 76 #[.pointer (some ⟨g,0,none⟩),.int .i64 v,.int .i64 a] w (Znt g base cv tv l t w (inL l v k [a]))
theorem ZmQ(g base:Nat)(cv tv:Value)(l:List Ce)(t:List Int)(v:Int):ZnN g base cv tv l t v 0:=by intro a w ha h;have HU:=zh h;obtain⟨ca,cc,ta,tc,rfl,rfl,e1,e2,e3,e4⟩:=h.vals;have hlt:=h.lt;obtain⟨h1,h2,h3,h4,h5,h6,h7,h8⟩:=h;obtain⟨x0,x1,x2,xf⟩:=Zc3 h1;have hcs:=Zak;clear h1 h2 h3;go_enter Try.func76,Try.ntmps76;go_wp2_with fail;go_ret;exact⟨rfl,ZeV _ _ _ _,HU.o.turn (k':= -1) (by decide) (by decide)⟩
theorem ZiO(l:List Ce)(v:Int)(w:Nat)(z:Int)(r:List Int):inL l v (w+1) (z::r)=if look l z<0 then(false, -1)else if(Zaa l (look l z)).kind=0 then(if look l z=v then(true,(w:Int))else inL l v w r)else if(Zaa l (look l z)).kind=3 then inL l v w (Zap (look l z) (Zaa l (look l z)).n++r)else inL l v w r:=rfl
theorem Zck(a n:Int)(j:Nat)(h:j<(Zap a n).length):(Zap a n)[j]=a+1+j:=by simp[Zap]
theorem ZmR(g base:Nat)(cv tv:Value)(l:List Ce)(t:List Int)(v:Int)(hv:I64 v)(k:Nat)(hg:GoodC l)(ih:∀m,m<=k->ZnN g base cv tv l t v m):ZnN g base cv tv l t v (k+1):=by
 intro a w ha h;have HU:=zh h;obtain⟨ca,cc,ta,tc,rfl,rfl,e1,e2,e3,e4⟩:=h.vals;have hlt:=h.lt;have HU1:=zh (HU.o.turn (k':=k) (by omega) (by omega));obtain⟨h1,h2,h3,h4,h5,h6,h7,h8⟩:=h;obtain⟨x0,x1,x2,xf⟩:=Zc3 h1;have hcs:=Zak;have hk400:(k:Int)<=400:=by omega
 have HI:=zh ha;have IH:=zh ih;have HG:=zh hg;have HV:=zh hv;have hk0:(0:Int)<=(k:Int):=zN _;rw[show((k+1:Nat):Int)=(k:Int)+1 by omega]at x2;clear h1 h2 h3 h6 h7 h8 ha ih hg hv;go_enter Try.func76,Try.ntmps76;go_wp2_with fail;refine(Zfz ⟨l,t⟩ a HI.o (fun _=>True) _ _ HU1.o.rep).mono ?_;rintro e w2⟨r,rfl,hb2,rfl⟩;have HU2:=zh (HU1.o.below hb2);have HC2:=zh (show Ch (fun b=>b=g) w w2 from(ZeV _ _ _ _).tb hb2);obtain⟨y0,y1,y2,yf⟩:=Zc3 HU2.o.1;have hz2:=hb2.size;simp only[World.size_setCell]at hz2;clear x0 x1 x2 xf hb2;have hge:=Zgu l a;by_cases hneg:look l a<0
 ·have hp:inL l v (k+1) [a]=(false, -1):=by rw[ZiO,if_pos hneg]
  have HP:=zh hp;clear hp;go_wp2_with fail;go_ret;rw[HP.o];exact⟨rfl,HC2.o.set_box _ _,HU2.o.turn (k':= -1) (by decide) (by omega)⟩
 ·obtain⟨x,hx,hxl,hcx⟩:=ZaR (Zd3 (l:=l) (a:=a) (by omega)).1;have hin:inL l v (k+1) [a]=if l[x].kind=0 then(if(x:Int)=v then(true,(k:Int))else(false,(k:Int)))else if l[x].kind=3 then inL l v k (Zap (x:Int) l[x].n)else(false,(k:Int)):=by rw[ZiO,if_neg hneg,hcx,hx,ZeA,List.append_nil]
  have hokc:=HG.o x hxl;have HIN:=zh hin;have HX:=zh hx;rw[hx];have hx0:(0:Int)<=(x:Int):=zN _;have hx1:(x:Int)<(l.length:Int):=by omega
  obtain⟨cb,rfl, -,c0,c1,c2,hok, -,hcb, -⟩:=OwnC.cell HU2.o.2.1 hxl;clear hin hcx hx hneg hge;go_wp2_with fail;refine(ZcE _ _ _ _ _ _ _ _ HU2.o x hxl).mono ?_;rintro e w3⟨rfl,rfl⟩;by_cases hk:l[x].kind=0
  ·rw[hk]at c0 ⊢;have HK:=zh hk;clear hk hokc;by_cases hxv:(x:Int)=v
   ·have hr:=zh (show inL l v (k+1) [a]=(true,(k:Int))by rw[HIN.o,if_pos HK.o,if_pos hxv]);have hq:((x:Int)==v)=true:=by simpa using hxv
    clear hxv;go_wp2_with fail;go_ret;rw[hr.out];exact⟨rfl,HC2.o,HU2.o⟩
   ·have hr:=zh (show inL l v (k+1) [a]=(false,(k:Int))by rw[HIN.o,if_pos HK.o,if_neg hxv]);have hq:((x:Int)==v)=false:=by simpa using hxv
    clear hxv;go_wp2_with fail;go_ret;rw[hr.out];exact⟨rfl,HC2.o,HU2.o⟩
  ·have hk':(l[x].kind==0)=false:=by simpa using hk
   rw[hk'];by_cases hk3:l[x].kind=3
   ·have hn:1<=l[x].n/\l[x].n<=4/\(x:Int)+l[x].n<l.length:=by unfold Ce.OkAt at hokc;omega
    obtain⟨hn1,hn4,hnl⟩:=hn;obtain⟨nn,hnn⟩:=Int.eq_ofNat_of_zero_le (show 0<=l[x].n by omega);have hr:=zh (show inL l v (k+1) [a]=inL l v k (Zap (x:Int) (nn:Int))by rw[HIN.o,if_neg hk,if_pos hk3,hnn]);have hal:(Zap (x:Int) (nn:Int)).length=nn:=by simp[Zap]
    rw[hnn]at c1 hn1 hn4 hnl;rw[hk3]at c0;have HAL:=zh hal;have hlb:cb<w2.heap.size:=hcb;have hn4':nn<=4:=by omega
    clear hk hk' hk3 hokc hal hnn;go_wp2_with fail;have HU3:=zh (HU2.o.below ((zB _ _).alloc (zL _) (.cells #[.int .i64 3,.int .i64 (nn:Int),.string l[x].s] 95)));have HC3:=zh (HC2.o.alloc (.cells #[.int .i64 3,.int .i64 (nn:Int),.string l[x].s] 95));have HB3:=zh (Zao w2 (.cells #[.int .i64 3,.int .i64 (nn:Int),.string l[x].s] 95));have hne:g≠w2.heap.size:=by omega
    clear c0 c1 c2 y0 y1 y2 yf;go_loopw[8](fun i wr=>∃j m:Nat,j<=nn/\i= .int .i64 ((j:Int)+1)/\m<=k/\inL l v k ((Zap (x:Int) (nn:Int)).take j)=(false,(m:Int))/\UInv g base (.slice (some ⟨cb,0,none⟩) l.length cc) (.slice ta t.length tc) l t m wr/\Ch (fun b=>b=g) w wr/\wr.heap[w2.heap.size]?=some (.cells #[.int .i64 3,.int .i64 (nn:Int),.string l[x].s] 95 (0,0)))(fun i _=>nn+1 - (intOf i).toNat);case atStart=>exact⟨0,k,Nat.zero_le _,rfl,zL _,by rw[List.take_zero,ZeA],HU3.o,HC3.o,HB3.o⟩
    case round=>
     obtain⟨j,m,hj,rfl,hm,htk,hu,hch,hbx⟩:=hrel;have HTK:=zh htk;have HU4:=zh hu;have HC4:=zh hch;have HB4:=zh hbx;obtain⟨z0,z1,z2,zf⟩:=Zc3 hbx;clear htk hu hch hbx;by_cases hlt:j<nn
     ·have hja:j<(Zap (x:Int) (nn:Int)).length:=by rw[HAL.o];exact hlt
      have hsplit:Zap (x:Int) (nn:Int)=(Zap (x:Int) (nn:Int)).take j++(((x:Int)+1+(j:Int))::(Zap (x:Int) (nn:Int)).drop (j+1)):=by
       conv=>lhs;rw[<-List.take_append_drop j (Zap (x:Int) (nn:Int))]
       rw[List.drop_eq_getElem_cons hja,Zck]
      have hnext:(Zap (x:Int) (nn:Int)).take (j+1)=(Zap (x:Int) (nn:Int)).take j++[(x:Int)+1+j]:=by rw[List.take_succ_eq_append_getElem hja,Zck]
      have HSP:=zh (show inL l v k (Zap (x:Int) (nn:Int))=inL l v m ([(x:Int)+1+j]++(Zap (x:Int) (nn:Int)).drop (j+1))by
       conv=>lhs;rw[hsplit]
       rw[Zfo,HTK.o,if_neg (by simp)];simp);have HNX:=zh (show inL l v k ((Zap (x:Int) (nn:Int)).take (j+1))=inL l v m [(x:Int)+1+j]by rw[hnext,Zfo,HTK.o,if_neg (by simp)];simp);clear hsplit hnext hja;go_wp2_with fail;rw[show(x:Int)+((j:Int)+1)=(x:Int)+1+j by omega];refine(IH.out m hm ((x:Int)+1+j) wr (by unfold I64;omega) HU4.o).mono ?_;rintro e w5⟨rfl,hch5,hu5⟩;have HU5:=zh hu5;have HC5:=zh hch5;have HB5:=zh ((hch5.block w2.heap.size (Zag HB4.o) (fun e=>hne e.symm)).trans HB4.o);obtain⟨q0,q1,q2,qf⟩:=Zc3 HU5.o.1;have hple:=Zf2 l v m [(x:Int)+1+j];have happ:=Zfo l v m [(x:Int)+1+j] ((Zap (x:Int) (nn:Int)).drop (j+1));have htru:=Zd4 l v m [(x:Int)+1+j];generalize inL l v m [(x:Int)+1+j]=p at*;obtain⟨pf,pw⟩:=p;simp only at hple happ htru q0 q1 q2;have HAPP:=zh happ;have HTRU:=zh htru;clear hu5 hch5 happ htru z0 z1 z2 zf;obtain⟨hp1,hp2⟩:=hple;cases pf with
       |true=>have hpw:0<=pw:=HTRU.o rfl;have hres:=zh (show inL l v (k+1) [a]=(true,pw)by rw[hr.out,HSP.o,HAPP.o,if_pos (.inl rfl)]);go_wp2_with fail;go_ret;rw[hres.o];exact⟨rfl,HC4.o.trans HC5.o (fun _ h=> .inl h),HU5.o⟩
       |false=>
        by_cases hpw:pw<0;·have hres:=zh (show inL l v (k+1) [a]=(false,pw)by rw[hr.out,HSP.o,HAPP.o,if_pos (.inr hpw)]);have hpd:=zh (decide_eq_false (show ¬(0:Int)<=pw by omega));go_wp2_with fail;go_ret;rw[hres.o];exact⟨congrArg Ending.returned (congrArg Value.bool hpd.out),HC4.o.trans HC5.o (fun _ h=> .inl h),HU5.o⟩
        ·obtain⟨pm,rfl⟩:=Int.eq_ofNat_of_zero_le (show 0<=pw by omega);go_wp2_with fail;go_roundw;case rel=>exact⟨j+1,pm,by omega,by go_num,by omega,HNX.o,HU5.o,HC4.o.trans HC5.o (fun _ h=> .inl h),HB5.o⟩
         case measure=>simp[intOf];omega
     ·have hje:j=nn:=by omega
      have hres:=zh (show inL l v (k+1) [a]=(false,(m:Int))by have :=HTK.o;rw[List.take_of_length_le (by rw[HAL.o];omega)]at this;rw[hr.out,this]);clear hje;go_wp2_with fail;go_ret;rw[hres.o];exact⟨rfl,HC4.o,HU4.o⟩
   ·have hr:=zh (show inL l v (k+1) [a]=(false,(k:Int))by rw[HIN.o,if_neg hk,if_neg hk3]);have hk3':(l[x].kind==3)=false:=by simpa using hk3
    have hlb:cb<w2.heap.size:=hcb;clear hk hk3 hokc;go_wp2_with fail;go_ret;rw[hr.out];exact⟨rfl,HC2.o.alloc _,HU2.o.below ((zB _ _).alloc (zL _) _)⟩
theorem Znu(g base:Nat)(cv tv:Value)(l:List Ce)(t:List Int)(v:Int)(hv:I64 v)(hg:GoodC l):∀k,ZnN g base cv tv l t v k:=by intro k;induction k using Nat.strongRecOn with|_ k ih=>cases k with|zero=>exact ZmQ g base cv tv l t v|succ k=>exact ZmR g base cv tv l t v hv k hg fun m hm=>ih m (by omega)
theorem Zkr{l:List Ce}{v:Nat}(a:Int)(h:v<l.length):Za8 l (v:Int) a=l.set v {l[v]with n:=a}:=by
 apply List.ext_getElem (by simp[Za8]);intro i h1 h2;simp only[Za8,Int.toNat_natCast,List.getElem_modify,List.getElem_set];by_cases e:v=i;·subst e;simp
 ·simp[e]
def UM(g:Nat)(cv tv:Value)(b:Nat):Prop:=b=g\/Zai cv=some b\/Zai tv=some b
def UStep(g base:Nat)(cv tv:Value)(w:World)(l:List Ce)(t:List Int)(k:Int)(w':World):Prop:=∃tv',UInv g base cv tv' l t k w'/\Ch (UM g cv tv) w w'/\(∀b,Zai tv'=some b->Zai tv=some b\/w.heap.size<=b)
theorem UStep.of_box{g base:Nat}{cv tv:Value}{w w':World}{l:List Ce}{t:List Int}{k:Int}(h:UInv g base cv tv l t k w')(hc:Ch (fun b=>b=g) w w'):UStep g base cv tv w l t k w':=⟨tv,h,hc.mono fun x _ e=> .inl e,fun b h=> .inl h⟩
theorem UStep.trans{g base:Nat}{cv tv tv':Value}{w w' w'':World}{l:List Ce}{t:List Int}{k:Int}(hc:Ch (UM g cv tv) w w')(ht:∀b,Zai tv'=some b->Zai tv=some b\/w.heap.size<=b)(h:UStep g base cv tv' w' l t k w''):UStep g base cv tv w l t k w'':=by
 obtain⟨tv2,h1,h2,h3⟩:=h;refine⟨tv2,h1,hc.trans h2 fun x hx=>?_,fun b hb=>?_⟩
 ·rcases hx with hx|hx|hx;·exact .inl (.inl hx)
  ·exact .inl (.inr (.inl hx))
  ·rcases ht x hx with hx|hx;·exact .inl (.inr (.inr hx))
   ·exact .inr hx
 ·rcases h3 b hb with h4|h4;·exact ht b h4
  ·exact .inr (Nat.le_trans hc.size h4)
def ZlA(g base:Nat)(cv tv:Value)(w:World)(l:List Ce)(t:List Int)(k:Int)(e:Ending)(w':World):Prop:=∃r,e= .returned r/\UStep g base cv tv w l t k w'
theorem Zgy(g base:Nat)(cv tv:Value)(l:List Ce)(t:List Int)(k:Int)(w:World)(h:UInv g base cv tv l t k w)(hk:(t.length:Int)+1+k<=70000)(v:Nat)(hv:v<l.length)(a:Int)(ha:I64 a):Calls Try.prog 75 #[.pointer (some ⟨g,0,none⟩),.int .i64 (v:Int),.int .i64 a] w (ZlA g base cv tv w (Za8 l (v:Int) a) (t++[(v:Int)]) k):=by
 have HU:=zh h;obtain⟨ca,cc,ta,tc,rfl,rfl,e1,e2,e3,e4⟩:=h.vals;have hlt:=h.lt;obtain⟨h1,h2,h3,h4,h5,h6,h7,h8⟩:=h;obtain⟨x0,x1,x2,xf⟩:=Zc3 h1;obtain⟨cb,rfl,hob,c0,c1,c2,hok,hfz,hcb,hcbase⟩:=OwnC.cell h2 hv;have hcg:cb≠g:=fun e=>OwnF.ne_box h2 h1 (by decide) (hob.trans (congrArg some e));have hcg':¬g=cb:=fun e=>hcg e.symm;have hcs:=Zak;have hi0:(0:Int)<=(v:Int):=zN _;have hi1:(v:Int)<(l.length:Int):=by omega
 have HB1:=zh ((Below.heap_setCell w ⟨cb,v*3+1,none⟩ (.int .i64 a) g (fun e=>hcg e.symm)).trans h1);have HT1:=zh (h3.kept (w':=w.setCell ⟨cb,v*3+1,none⟩ (.int .i64 a)) fun b hb=>Below.heap_setCell _ _ _ _ (fun e=>ZaS (by decide) h2 h3 cb hob (hb.trans (congrArg some e))));have HC1:=zh (OwnF.set (u:= .int .i64 a) Ce.vals_len h2 hob hv (j:=1) (by omega) (y:={l[v]with n:=a}) rfl ⟨hok.1,ha,hok.2.2⟩);have HOB:=zh hob;have HTG:=zh (OwnF.ne_box h3 h1 (by decide));have HTL:=zh (fun b=>h3.lt b);clear h1 h2 h3 hok hob;go_enter Try.func75,Try.ntmps75;go_wp2_with(at_builtin;go_must(refine Zau rfl (.tmp 20) (.tmp 22) 37 rfl base 3 1 8 Za1 Zae (A:=fun _=>True) (.slice ta t.length tc) t rfl (OwnF.ownR Zaw HT1.o _) (v:Int) [.int .i64 (v:Int)] (by simp only[World.size_setCell];rfl) rfl ⟨by unfold I64;omega,rfl⟩ ⟨by omega,by simp;omega⟩ ?_);go_must(intro v2 w2 hown hgrew;obtain⟨va2,vc2,hv2,hvl2,hvm2⟩:=OwnR.val' hown;rw[show(t++[(v:Int)]).length=t.length+1 by simp]at hv2;subst hv2;have HO2:=zh (OwnF.of_ownR hown);have HG2:=zh hgrew;have hz2:=hgrew.size;simp only[World.size_alloc,World.size_setCell]at hz2;have hB2:=(hgrew.grown.block g (by simp;omega) (fun e=>HTG.o e.symm)).trans (Zaf HB1.o _);have HB2:=zh hB2;obtain⟨y0,y1,y2,yf⟩:=Zc3 hB2;clear hown hgrew hB2));refine bodyPost_end (v:= .tuple #[]) (by simp[results,Try.results75,go_sem]) rfl ?_;have hcb2:w2.heap[cb]?=(w.setCell ⟨cb,v*3+1,none⟩ (.int .i64 a)).heap[cb]?:=(HG2.o.grown.block cb (by simp;omega) (fun e=>ZaS (by decide) HU.o.2.1 HU.o.2.2.1 cb HOB.o e.symm)).trans (Below.heap_alloc _ _ _ (by simpa using hcb));have ho2:=HO2.o;have hng:Zai (.slice va2 (t.length+1) vc2)≠some g:=OwnF.ne_box (by simpa using ho2) HB2.o (by decide);refine⟨_,rfl,.slice va2 (t.length+1) vc2,⟨(Zal HB2.o 1 _).trans rfl,?_,?_,h4,by rw[Zc7];exact h5,by simp;omega,h7,h8⟩,?_,fun b hb=>?_⟩;·rw[Zkr a hv];refine HC1.o.kept fun b hb=>?_;obtain rfl:cb=b:=zI (HOB.o.symm.trans hb);rw[Below.heap_setCell _ _ _ _ (fun e=>hcg e)];exact hcb2
 ·exact ho2.kept fun b hb=>Below.heap_setCell _ _ _ _ (fun e=>hng (hb.trans (congrArg some e)))
 ·refine Ch.setCell (p:=⟨g,1,none⟩) ?_ (.inl (.inl rfl)) _;refine HG2.o.ch ((Ch.setCell (p:=⟨cb,v*3+1,none⟩) (Ch.refl _ _) (.inl (.inr (.inl HOB.o))) _).alloc _) fun b hb=> .inl (.inr (.inr hb))
 ·rcases HG2.o.block with h9|h9;·exact .inl (h9.symm.trans hb)
  ·have :=h9 b hb;simp only[World.size_alloc,World.size_setCell]at this;exact .inr (by omega)
end Go.Proofs.Ytlpmfkpefoegeac
