import Derived.Test.YtlpmfkpefoegeacDoorQSolve1
namespace Go.Proofs.YtlpmfkpefoegeacDoor
set_option maxRecDepth 100000
set_option maxHeartbeats 16000000
set_option linter.all false
open Go.RowKit
section
variable {P : Program} {ops : Array Oper} {Q : Exit → Act → World → Prop}
def ZhH(ops:Array Oper)(L:Nat)(ps:Nat->Bool):Bool:=decide (L<=ops.size)&&(List.range ops.size).all fun i=>decide (i<L)||(List.range L).all fun k=>ps k||waits ops i k
def Zjj(ops:Array Oper)(L:Nat)(ps:Nat->Bool):Bool:=Region.noSelect ops&&(List.range L).all fun p=>!ps p||(List.range ops.size).all fun j=>j==p||waits ops j p||waits ops p j||(match ops[p]?,ops[j]? with|some oi,some oj=>oi.apart ops oj|_,_=>false)
theorem ZiA{L:Nat}{ps:Nat->Bool}{a0:Act}{Inv:World->Prop}{Po:Nat->Value->World->Prop}{Rl:World->World->Prop}(ht:ZhH ops L ps=true)(hap:Zjj ops L ps=true)(hQ:∀c(a:Act)t w,Q (.panic c) ⟨t,a.defers⟩ w->Q (.panic c) a w)(hd:Ze2 ops L a0.tmps.size=true)(hst:∀i v w w',Po i v w->Rl w w'->Po i v w')(hinv:∀w w',Inv w->Rl w w'->Inv w')(hpu:∀i o,i<L->ps i=true->ops[i]?=some o->∀(f:Nat->Value)(a:Act)(w:World),Inv w->(∀k,waits ops i k=true->Po k (f k) w)->(∀k s,waits ops i k=true->ZaN ops k=some s->a.tmps[s]?=some (f k))->(∀s,Zex ops L s=true->a.tmps[s]?=a0.tmps[s]?)->∃v,Yields P ops o v a/\Po i v w)(hop:∀i,i<L->ps i=false->∀(f:Nat->Value)(a:Act)(w:World),Inv w->(∀k,waits ops i k=true->Po k (f k) w)->(∀k s,waits ops i k=true->ZaN ops k=some s->a.tmps[s]?=some (f k))->(∀s,Zex ops L s=true->a.tmps[s]?=a0.tmps[s]?)->wpOp P ops Q i (fun a' w'=>∃v,a'=a.put (ZaN ops i) v/\Po i v w'/\Rl w w') a w)(hend:∀(f:Nat->Value)(w:World),Inv w->(∀i,i<L->Po i (f i) w)->wpAny P .any ops Q (ops.size - L) (List.replicate L true++List.replicate (ops.size - L) false).toArray ⟨Zcf f 0 (ops.toList.take L) a0.tmps,a0.defers⟩ w)(hbk:backs ops=true):∀(fuel:Nat)(f:Nat->Value)(listed:Array Bool)(a:Act)(w:World),listed.size=ops.size->(listed.toList.filter (· ==false)).length=fuel->Inv w->ComeL ops L Po a0 f listed a w->wpAny P .any ops Q fuel listed a w:=by
 obtain⟨hlt,huniq⟩:=Zfq hd;unfold ZhH at ht;simp only[Bool.and_eq_true,decide_eq_true_eq,List.all_eq_true,List.mem_range,Bool.or_eq_true]at ht;obtain⟨hL,htail⟩:=ht;unfold Zjj at hap;simp only[Bool.and_eq_true]at hap;obtain⟨hsel,hap⟩:=hap;have close:∀(fuel:Nat)(f:Nat->Value)(listed:Array Bool)(a:Act)(w:World),listed.size=ops.size->(listed.toList.filter (· ==false)).length=fuel->Inv w->ComeL ops L Po a0 f listed a w->(∀k,k<L->listed.getD k false=true)->wpAny P .any ops Q fuel listed a w:=by
  intro fuel f listed a w hls hn hw hc hall;have hl:listed=(List.replicate L true++List.replicate (ops.size - L) false).toArray:=by
   apply Array.ext;·simp;omega
   ·intro i h1 h2;have h3:listed.getD i false=listed[i]:=by simp[Array.getD,h1]
    by_cases hi:i<L;·have h4:=hall i hi;rw[h3]at h4;rw[h4];simp only[List.getElem_toArray];rw[List.getElem_append_left (by simpa using hi)];simp
    ·have h4:listed[i]=false:=by cases hx:listed[i]with|false=>rfl|true=>exact absurd (hc.front i (by rw[h3];exact hx)) hi
     rw[h4];simp only[List.getElem_toArray];rw[List.getElem_append_right (by simp;omega)];simp
  have hf:fuel=ops.size - L:=by rw[<-hn,hl];simp
  have :a=⟨Zcf f 0 (ops.toList.take L) a0.tmps,a0.defers⟩:=by
   obtain⟨t,d⟩:=a;have h1:=hc.defers;have h2:=hc.size;simp only at h1 h2;subst h1;congr 1;refine Array.ext_getElem? fun s=>?_;have hto:∀(k:Nat)(o:Oper),(ops.toList.take L)[k]?=some o->k<L/\ops[k]?=some o:=fun k o hk=>by have hkl:=(List.getElem?_eq_some_iff.1 hk).1;simp only[List.length_take]at hkl;rw[List.getElem?_take_of_lt (by omega),Array.getElem?_toList]at hk;exact⟨by omega,hk⟩
   by_cases hs:s<a0.tmps.size
   ·have hg:=Zew f s (ops.toList.take L) 0 a0.tmps hs;by_cases he:∃k,k<L/\ZaN ops k=some s
    ·obtain⟨k,hkL,hk⟩:=he;have hkl:=ZdS hk;have e1:=(hc.new k hkL (hall k hkL)).2 s hk;simp only at e1;rw[e1];have hko:ops[k]?=some ops[k]:=Array.getElem?_eq_getElem hkl;have hkd:ops[k].dst=some s:=by unfold ZaN at hk;rw[hko]at hk;simpa using hk
     rw[hg.2 k ops[k] (by rw[List.getElem?_take_of_lt hkL,Array.getElem?_toList];exact hko) hkd (fun j o' hj hd'=>by obtain⟨hjL,hj'⟩:=hto j o' hj;exact huniq j k s hjL hkL hk (by unfold ZaN;rw[hj'];simpa using hd'))];simp
    ·rw[hg.1 (fun k o hk hd'=>by obtain⟨hkL,hk'⟩:=hto k o hk;exact he ⟨k,hkL,by unfold ZaN;rw[hk'];simpa using hd'⟩)];exact hc.old s (fun k hkl hk=>he ⟨k,hc.front k hkl,hk⟩)
   ·rw[Array.getElem?_eq_none (by omega),Array.getElem?_eq_none (by rw[ZdT];omega)]
  rw[this,hl,hf];exact hend f w hw fun i hi=>(hc.new i hi (hall i hi)).1
 intro fuel;induction fuel with
  |zero=>
   intro f listed a w hls hn hw hc;refine close 0 f listed a w hls hn hw hc fun k hk=>?_;have h0:listed.toList.filter (· ==false)=[]:=List.length_eq_zero_iff.1 hn;rw[List.filter_eq_nil_iff]at h0;have h1:k<listed.size:=by omega
   have h3:=h0 listed[k] (by simp);simp[Array.getD,h1];simpa using h3
  |succ fuel ih=>
   intro f listed a w hls hn hw hc;by_cases hall:∀k,k<L->listed.getD k false=true;·exact close _ f listed a w hls hn hw hc hall
   have hkfront:∀k,listed.getD k false=true->k<ops.size:=fun k hk=>Nat.lt_of_lt_of_le (hc.front k hk) hL;have step:∀(i:Nat)(v:Value)(w':World),i<L->listed.getD i false=false->Po i v w'->(∀k u,Po k u w->Po k u w')->ComeL ops L Po a0 (fun k=>if k=i then v else f k) (listed.setIfInBounds i true) (a.put (ZaN ops i) v) w':=by
    intro i v w' hiL hif hp hr;have hset:∀k,(listed.setIfInBounds i true).getD k false=true->k=i\/(k≠i/\listed.getD k false=true):=fun k hk=>by
     by_cases hki:k=i;·exact .inl hki
     ·refine .inr ⟨hki,?_⟩;rwa[getD_set_ne false (Ne.symm hki)]at hk
    refine⟨?_,?_,fun s hs=>?_,fun k hk hl=>?_,fun k hk=>?_⟩;·unfold Act.put;split<;>exact hc.defers
    ·unfold Act.put;split<;>simp[hc.size]
    ·have h1:ZaN ops i≠some s:=hs i (by rw[Array.getD_eq_getD_getElem?,Array.getElem?_setIfInBounds_self_of_lt (by omega)];rfl);rw[show(a.put (ZaN ops i) v).tmps[s]?=a.tmps[s]? by unfold Act.put;cases hdi:ZaN ops i with|none=>rfl|some d=>simp only;rw[Array.getElem?_setIfInBounds_ne (by rintro rfl;exact h1 hdi)]];refine hc.old s fun k hk=>hs k ?_;by_cases hki:i=k;·subst hki;rw[hif]at hk;cases hk
     ·rwa[getD_set_ne false hki]
    ·rcases hset k hl with rfl|⟨hki,hk2⟩;·simp only[if_true];refine⟨hp,fun s hs=>?_⟩;unfold Act.put;rw[hs];simp only;rw[Array.getElem?_setIfInBounds_self_of_lt (by rw[hc.size];exact hlt k s hk hs)]
     ·simp only[if_neg hki];obtain⟨h1,h2⟩:=hc.new k hk hk2;refine⟨hr k _ h1,fun s hs=>?_⟩;unfold Act.put;cases hdi:ZaN ops i with|none=>exact h2 s hs|some d=>simp only;rw[Array.getElem?_setIfInBounds_ne (by rintro rfl;exact hki (huniq k i _ hk hiL hdi hs))];exact h2 s hs
    ·rcases hset k hk with rfl|⟨_,hk2⟩;·exact hiL
     ·exact hc.front k hk2
   have count:∀i,i<L->listed.getD i false=false->((listed.setIfInBounds i true).toList.filter (· ==false)).length=fuel:=by
    intro i hiL hif;have h2:listed.toList[i]?=some false:=by
     have h3:i<listed.size:=by omega
     simp only[Array.getD,h3,dif_pos]at hif;rw[Array.getElem?_toList,Array.getElem?_eq_getElem h3];exact congrArg some hif
    have h4:∀(l:List Bool)(i:Nat),l[i]?=some false->((l.set i true).filter (· ==false)).length+1=(l.filter (· ==false)).length:=by intro l;induction l with|nil=>intro i h;simp at h|cons b r ihr=>intro i h;cases i with|zero=>simp only[List.getElem?_cons_zero,Option.some.injEq]at h;subst h;simp|succ i=>have :=ihr i (by simpa using h);cases b<;>simp_all
    have h5:=h4 _ _ h2;rw[Array.toList_setIfInBounds];omega
   have known:∀i oi,ops[i]?=some oi->(∀e∈oi.after,Region.binds .any e=true->listed.getD e.on false=true)->∀k,waits ops i k=true->listed.getD k false=true:=by intro i oi hoi hdep k hk;simp only[waits,hoi,Option.map_some,Option.getD_some]at hk;obtain⟨e,he,hb⟩:=Array.any_eq_true'.1 hk;simp only[Bool.and_eq_true,beq_iff_eq]at hb;rw[<-hb.2];exact hdep e he hb.1
   have hunl:∀i,i<ops.size->listed.getD i true=false->listed.getD i false=false:=fun i hi hiun=>by
    have :i<listed.size:=by omega
    simp only[Array.getD,this,dif_pos]at hiun ⊢;exact hiun
   by_cases hA:∃p,p<L/\ps p=true/\p∈Region.ready .any ops listed
   ·obtain⟨p,hpL,hps,hrd⟩:=hA;obtain⟨hiun,oi,hoi,hdep⟩:=mem_ready.1 hrd;have hpl:p<ops.size:=(Array.getElem?_eq_some_iff.1 hoi).1;have hif:=hunl p hpl hiun;have hw1:=known p oi hoi hdep;obtain⟨v,hy,hpo⟩:=hpu p oi hpL hps hoi f a w hw (fun k hk=>(hc.new k (hc.front k (hw1 k hk)) (hw1 k hk)).1) (fun k s hk hs=>(hc.new k (hc.front k (hw1 k hk)) (hw1 k hk)).2 s hs) (fun s hs=>hc.old s fun k hk hks=>by unfold Zex at hs;simp only[List.all_eq_true,List.mem_range,bne_iff_ne]at hs;exact hs k (hc.front k hk) hks);have hd':ZaN ops p=oi.dst:=by simp[ZaN,hoi]
    refine wpAny_first hoi (Region.noSelect_spec hsel) (fun c a w h=>by unfold Act.put at h;split at h<;>first|exact hQ c a _ w h|exact h) fuel listed a w (fun j oj hoj hjp hjun hnw=>?_) hrd hy ?_
    ·have h1:=List.all_eq_true.1 hap p (List.mem_range.2 hpL);simp only[hps,Bool.not_true,Bool.false_or,List.all_eq_true,List.mem_range]at h1;have h2:=h1 j (Array.getElem?_eq_some_iff.1 hoj).1;simp only[Bool.or_eq_true,beq_iff_eq]at h2;rcases h2 with((h2|h2)|h2)|h2;·exact absurd h2 hjp
     ·exfalso;simp only[waits,hoj,Option.map_some,Option.getD_some]at h2;obtain⟨e,he,hb⟩:=Array.any_eq_true'.1 h2;simp only[Bool.and_eq_true,beq_iff_eq]at hb;exact hnw e he hb.1 hb.2
     ·exfalso;have h3:=hw1 j h2;have h4:=hunl j (Array.getElem?_eq_some_iff.1 hoj).1 hjun;rw[h4]at h3;cases h3
     ·rw[hoi,hoj]at h2;exact h2
    ·rw[<-hd'];exact ih (fun k=>if k=p then v else f k) _ _ _ (by simpa using hls) (count p hpL hif) hw (step p v w hpL hif hpo (fun k u h=>h))
   refine⟨fun hr=>?_,fun i hi=>?_⟩;·exfalso;refine hall fun k hk=>?_;exact ZfY hbk listed hls hr k (by omega)
   obtain⟨hiun,oi,hoi,hdep⟩:=mem_ready.1 hi;have hil:i<ops.size:=(Array.getElem?_eq_some_iff.1 hoi).1;have hw1:=known i oi hoi hdep;have hif:=hunl i hil hiun;have hiL:i<L:=by
    refine Classical.byContradiction fun hge=>hall fun k=>?_;induction k using Nat.strongRecOn with
     |_ k ihk=>
      intro hk;cases hps:ps k with
       |false=>
        rcases htail i hil with h1|h1;·exact absurd h1 hge
        ·rcases h1 k hk with h2|h2;·rw[hps]at h2;cases h2
         ·exact hw1 k h2
       |true=>
        refine Classical.byContradiction fun hun=>hA ⟨k,hk,hps,?_⟩;have hko:ops[k]?=some (ops[k]'(by omega)):=Array.getElem?_eq_getElem (by omega);refine mem_ready.2 ⟨?_,_,hko,fun e he hb=>?_⟩
        ·have h3:k<listed.size:=by omega
         simp only[Array.getD,h3,dif_pos]at hun ⊢;simpa using hun
        ·have hlt':e.on<k:=by unfold backs at hbk;rw[List.all_eq_true]at hbk;have h1:=hbk k (List.mem_range.2 (by omega));rw[hko]at h1;simp only[Option.map_some,Option.getD_some,Array.all_eq_true_iff_forall_mem]at h1;have h2:=h1 e he;simp only[hb,Bool.not_true,Bool.false_or,decide_eq_true_eq]at h2;exact h2
         exact ihk e.on hlt' (by omega)
   have hnps:ps i=false:=by cases hps:ps i with|false=>rfl|true=>exact absurd ⟨i,hiL,hps,hi⟩ hA
   refine wpOp_mono ?_ (hop i hiL hnps f a w hw (fun k hk=>(hc.new k (hc.front k (hw1 k hk)) (hw1 k hk)).1) (fun k s hk hs=>(hc.new k (hc.front k (hw1 k hk)) (hw1 k hk)).2 s hs) (fun s hs=>hc.old s fun k hk hks=>by unfold Zex at hs;simp only[List.all_eq_true,List.mem_range,bne_iff_ne]at hs;exact hs k (hc.front k hk) hks));rintro a' w'⟨v,rfl,hp,hr⟩;exact ih (fun k=>if k=i then v else f k) _ _ _ (by simpa using hls) (count i hiL hif) (hinv _ _ hw hr) (step i v w' hiL hif hp (fun k u h=>hst k u _ _ h hr))
theorem ZfB{id:Nat}(L:Nat)(ps:Nat->Bool){a0:Act}{w0:World}{Inv:World->Prop}{Po:Nat->Value->World->Prop}{Rl:World->World->Prop}(hm:P.follows .mixedOrders=true)(ht:ZhH ops L ps=true)(hap:Zjj ops L ps=true)(hQ:∀c(a:Act)t w,Q (.panic c) ⟨t,a.defers⟩ w->Q (.panic c) a w)(hd:Ze2 ops L a0.tmps.size=true)(hbk:backs ops=true)(h0:Inv w0.drew)(hst:∀i v w w',Po i v w->Rl w w'->Po i v w')(hinv:∀w w',Inv w->Rl w w'->Inv w')(hpu:∀i o,(ops.toList.take L)[i]?=some o->ps i=true->∀(f:Nat->Value)(a:Act)(w:World),Inv w->(∀k,waits ops i k=true->Po k (f k) w)->(∀k s,waits ops i k=true->ZaN ops k=some s->a.tmps[s]?=some (f k))->(∀s,Zex ops L s=true->a.tmps[s]?=a0.tmps[s]?)->∃v,Yields P ops o v a/\Po i v w)(hop:∀i o,(ops.toList.take L)[i]?=some o->ps i=false->∀(f:Nat->Value)(a:Act)(w:World),Inv w->(∀k,waits ops i k=true->Po k (f k) w)->(∀k s,waits ops i k=true->ZaN ops k=some s->a.tmps[s]?=some (f k))->(∀s,Zex ops L s=true->a.tmps[s]?=a0.tmps[s]?)->(Region.wanted o (yielded ops a.tmps)=true/\Ans P a.eval o w (fun v w'=>Po i v w'/\Rl w w'))\/(Region.wanted o (yielded ops a.tmps)=false/\Po i undef w/\Rl w w))(hend:∀(f:Nat->Value)(w:World),Inv w->(∀i,i<L->Po i (f i) w)->wpAny P .any ops Q (ops.size - L) (List.replicate L true++List.replicate (ops.size - L) false).toArray ⟨Zcf f 0 (ops.toList.take L) a0.tmps,a0.defers⟩ w):(Code.region id ops true).wp P Q a0 w0:=by
 have hno:∀k,(Array.replicate ops.size false).getD k false=false:=fun k=>by simp only[Array.getD_eq_getD_getElem?,Array.getElem?_replicate];split<;>rfl
 have hL:L<=ops.size:=by have ht2:=ht;unfold ZhH at ht2;simp only[Bool.and_eq_true,decide_eq_true_eq]at ht2;exact ht2.1
 refine wp_region_any hm (ZiA ht hap hQ hd hst hinv (fun i o hi hps ho f a w h1 h2 h3 h4=>hpu i o (by rw[List.getElem?_take_of_lt hi,Array.getElem?_toList];exact ho) hps f a w h1 h2 h3 h4) (fun i hi hps f a w h1 h2 h3 h4=>?_) hend hbk ops.size (fun _=>undef) (Array.replicate ops.size false) a0 w0.drew (by simp) ?_ h0 ⟨rfl,rfl,fun _ _=>rfl,fun k _ hk=>?_,fun k hk=>?_⟩)
 ·have hil:i<ops.size:=by omega
  exact Zhk (Array.getElem?_eq_getElem hil) (hop i _ (by rw[List.getElem?_take_of_lt hi,Array.getElem?_toList,Array.getElem?_eq_getElem hil]) hps f a w h1 h2 h3 h4)
 ·simp
 ·rw[hno]at hk;cases hk
 ·rw[hno]at hk;cases hk
end
end Go.Proofs.YtlpmfkpefoegeacDoor
