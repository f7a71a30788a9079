import Derived.Test.YtlpmfkpefoegeacQCode
import Derived.Test.YtlpmfkpefoegeacQIsHeap
import Derived.Test.YtlpmfkpefoegeacHLoad
import Derived.Test.YtlpmfkpefoegeacHBack
namespace Go.Proofs.Ytlpmfkpefoegeac
set_option maxRecDepth 100000
set_option maxHeartbeats 16000000
set_option linter.all false
def Laid (L : List Ce) (g : Int → Int) : Int → Tm → Prop
  | a, .mk k n s l => ∃ x, Looks L a x ∧ ((k = 0 ∧ l = [] ∧ s = ByteArray.empty ∧ x = g n ∧ (Zaa L x).kind = 0) ∨ (k = 1 ∧ l = [] ∧ n = 0 ∧ Zaa L x = ⟨1, 0, s⟩) ∨ (k = 2 ∧ l = [] ∧ s = ByteArray.empty ∧ Zaa L x = ⟨2, n, ByteArray.empty⟩) ∨
      (k = 3 ∧ n = 0 ∧ Zaa L x = ⟨3, (l.length : Int), s⟩ ∧ LaidL L g (x + 1) l))
where LaidL (L : List Ce) (g : Int → Int) : Int → List Tm → Prop
  | _, [] => True
  | a, t :: r => Laid L g a t ∧ LaidL L g (a + 1) r
def Agree(L c:List Ce)(k lo hi:Nat)(m:Nat):Prop:=∀i,((k<=i/\i<k+m)\/lo<=i)->i<hi->L[i]?=c[i]?
theorem Zjc:∀(t:Tm)(c:List Ce)(k i:Nat),i<c.length->i≠k->(Zce c k t)[i]?=c[i]?:=by
 intro t;induction t using Tm.induct with
  |h kd n s l ih=>
   intro c k i hi hne;have hL:∀(r:List Tm),(∀t∈r,t∈l)->∀(c:List Ce)(k i:Nat),i<c.length->(i<k\/k+r.length<=i)->(Za5 c k r)[i]?=c[i]?:=by intro r;induction r with|nil=>intro _ c k i _ _;rfl|cons x r ihr=>intro hm c k i hi hne;simp only[Za5,List.length_cons]at hne ⊢;rw[ihr (fun t ht=>hm t (List.mem_cons_of_mem _ ht)) _ (k+1) i (by have :=(ZdW x c k).1;omega) (by omega)];exact ih x (hm x (List.mem_cons_self ..)) c k i hi (by omega)
   simp only[Zce];repeat' split
   ·exact List.getElem?_set_ne (Ne.symm hne)
   ·exact List.getElem?_set_ne (Ne.symm hne)
   ·exact List.getElem?_set_ne (Ne.symm hne)
   ·rw[hL l (fun _ h=>h) _ _ i (by simp;omega) (by omega),List.getElem?_append_left (by simpa using hi)];exact List.getElem?_set_ne (Ne.symm hne)
   ·rfl
theorem Zb7:∀(r:List Tm)(c:List Ce)(k i:Nat),i<c.length->(i<k\/k+r.length<=i)->(Za5 c k r)[i]?=c[i]?|[],_,_,_,_,_=>rfl|x::r,c,k,i,hi,hne=>by simp only[Za5,List.length_cons]at hne ⊢;rw[Zb7 r _ (k+1) i (by have :=(ZdW x c k).1;omega) (by omega)];exact Zjc x c k i hi (by omega)
def ZeZ(L:List Ce)(v:Nat):Prop:=∀i,i<v->L[i]?=some ⟨0,(i:Int),ByteArray.empty⟩
theorem Za4{L:List Ce}{i:Nat}{c:Ce}(h:L[i]?=some c):Zaa L (i:Int)=c/\Inb L (i:Int):=by have hl:i<L.length:=(List.getElem?_eq_some_iff.1 h).1;unfold Zaa Inb;rw[Int.toNat_natCast,h];exact⟨rfl,by omega,by omega⟩
theorem Zjd(v:Nat):∀(t:Tm)(c:List Ce)(k:Nat)(L:List Ce),t.Good (v:Int)->k<c.length->v<=k->ZeZ L v->Agree L (Zce c k t) k c.length (Zce c k t).length 1->Laid L id (k:Int) t:=by
 intro t;induction t using Tm.induct with
  |h kd n s l ih=>
   intro c k L hg hk hv hva hag;have hL:∀(r:List Tm),(∀t∈r,t∈l)->(∀t∈r,t.Good (v:Int))->∀(c:List Ce)(k:Nat),k+r.length<=c.length->v<=k->Agree L (Za5 c k r) k c.length (Za5 c k r).length r.length->Laid.LaidL L id (k:Int) r:=by
    intro r;induction r with
     |nil=>intro _ _ c k _ _ _;simp only[Laid.LaidL]
     |cons x r ihr=>
      intro hm hgr c k hkl hv hag;simp only[List.length_cons]at hkl hag;simp only[Za5]at hag;have h1:=ZdW x c k;have h2:=Zbz r (Zce c k x) (k+1);simp only[Laid.LaidL];refine⟨ih x (hm x (List.mem_cons_self ..)) c k L (hgr x (List.mem_cons_self ..)) (by omega) hv hva (fun i hi hil=>?_),?_⟩;·rw[hag i (by omega) (by omega)];exact Zb7 r _ _ i hil (by omega)
      ·have :=ihr (fun t ht=>hm t (List.mem_cons_of_mem _ ht)) (fun t ht=>hgr t (List.mem_cons_of_mem _ ht)) (Zce c k x) (k+1) (by omega) (by omega) (fun i hi hil=>hag i (by omega) (by omega));rw[show((k+1:Nat):Int)=(k:Int)+1 by omega]at this;exact this
   have hk0:=hag k (by omega) (by have :=(ZdW (.mk kd n s l) c k).1;omega);cases hg with
    |var _ h0 h1=>obtain⟨m,rfl⟩:=Int.eq_ofNat_of_zero_le h0;simp only[Zce,if_true]at hk0;rw[List.getElem?_set_self hk]at hk0;obtain⟨e1,e2⟩:=Za4 hk0;obtain⟨e3,e4⟩:=Za4 (hva m (by omega));rw[Laid];refine⟨(m:Int),.next e2 (fun hs=>?_) (by rw[e1];exact .stop e4 (.inr (by rw[e3]))),.inl ⟨rfl,rfl,rfl,rfl,by rw[e3]⟩⟩;unfold Stop at hs;rw[e1]at hs;simp at hs;omega
    |atom _ h=>simp[Zce]at hk0;rw[List.getElem?_set_self hk]at hk0;obtain⟨e1,e2⟩:=Za4 hk0;rw[Laid];exact⟨(k:Int),.stop e2 (.inl (by rw[e1];simp)),.inr (.inl ⟨rfl,rfl,rfl,e1⟩)⟩
    |int _ h0 h1=>simp[Zce]at hk0;rw[List.getElem?_set_self hk]at hk0;obtain⟨e1,e2⟩:=Za4 hk0;rw[Laid];exact⟨(k:Int),.stop e2 (.inl (by rw[e1];simp)),.inr (.inr (.inl ⟨rfl,rfl,rfl,e1⟩))⟩
    |comp _ _ h h1 h2 h3 h4=>
     have hp:Zce c k (.mk 3 0 s l)=Za5 (c.set k ⟨0,(c.length:Int),ByteArray.empty⟩++⟨3,(l.length:Int),s⟩::List.replicate l.length ⟨0,0,ByteArray.empty⟩) (c.length+1) l:=by simp[Zce]
     rw[hp]at hag hk0;have hlen:=Zbz l (c.set k ⟨0,(c.length:Int),ByteArray.empty⟩++⟨3,(l.length:Int),s⟩::List.replicate l.length ⟨0,0,ByteArray.empty⟩) (c.length+1);simp only[List.length_append,List.length_set,List.length_cons,List.length_replicate]at hlen;rw[Zb7 l _ _ k (by simp;omega) (by omega),List.getElem?_append_left (by simpa using hk),List.getElem?_set_self hk]at hk0;have hf0:=hag c.length (by omega) (by omega);rw[Zb7 l _ _ c.length (by simp) (by omega),List.getElem?_append_right (by simp)]at hf0;simp only[List.length_set,Nat.sub_self,List.getElem?_cons_zero]at hf0;obtain⟨e1,e2⟩:=Za4 hk0;obtain⟨e3,e4⟩:=Za4 hf0;rw[Laid];refine⟨(c.length:Int),.next e2 (fun hs=>?_) (by rw[e1];exact .stop e4 (.inl (by rw[e3];simp))),.inr (.inr (.inr ⟨rfl,rfl,e3,?_⟩))⟩;·unfold Stop at hs;rw[e1]at hs;simp at hs;omega
     ·have :=hL l (fun _ h=>h) h4 (c.set k ⟨0,(c.length:Int),ByteArray.empty⟩++⟨3,(l.length:Int),s⟩::List.replicate l.length ⟨0,0,ByteArray.empty⟩) (c.length+1) (by simp;omega) (by omega) (fun i hi hil=>hag i (by simp only[List.length_append,List.length_set,List.length_cons,List.length_replicate]at hi;omega) hil);rw[show((c.length+1:Nat):Int)=(c.length:Int)+1 by omega]at this;exact this
theorem Zhx(v:Nat)(L:List Ce)(hva:ZeZ L v):∀(r:List Tm)(c:List Ce)(k:Nat),(∀t∈r,t.Good (v:Int))->k+r.length<=c.length->v<=k->Agree L (Za5 c k r) k c.length (Za5 c k r).length r.length->Laid.LaidL L id (k:Int) r
 |[],_,_,_,_,_,_=>by simp only[Laid.LaidL]
 |x::r,c,k,hgr,hkl,hv,hag=>by
  simp only[List.length_cons]at hkl hag;simp only[Za5]at hag;have h1:=ZdW x c k;have h2:=Zbz r (Zce c k x) (k+1);simp only[Laid.LaidL];refine⟨Zjd v x c k L (hgr x (List.mem_cons_self ..)) (by omega) hv hva (fun i hi hil=>?_),?_⟩;·rw[hag i (by omega) (by omega)];exact Zb7 r _ _ i hil (by omega)
  ·have :=Zhx v L hva r (Zce c k x) (k+1) (fun t ht=>hgr t (List.mem_cons_of_mem _ ht)) (by omega) (by omega) (fun i hi hil=>hag i (by omega) (by omega));rw[show((k+1:Nat):Int)=(k:Int)+1 by omega]at this;exact this
theorem Zhy(t:Tm)(c:List Ce)(i:Nat)(hi:i<c.length):(ZaC c t)[i]?=c[i]?:=by
 unfold ZaC;split;·obtain⟨k,n,s,l⟩:=t;rw[Zc2,Zb7 l _ _ i (by simp;omega) (by omega),List.getElem?_append_left hi]
 ·rw[Zjc t _ _ i (by simp;omega) (by omega),List.getElem?_append_left hi]
theorem Zhz(v:Nat)(t:Tm)(c L:List Ce)(hg:t.Good (v:Int))(hv:v<=c.length)(hva:ZeZ L v)(hag:∀i,c.length<=i->i<(ZaC c t).length->L[i]?=(ZaC c t)[i]?):Laid L id (c.length:Int) t:=by
 by_cases h3:t.kind=3
 ·obtain⟨kd,n,s,l⟩:=t;simp only[Tm.kind]at h3;subst h3;have hp:ZaC c (.mk 3 n s l)=Za5 (c++⟨3,(l.length:Int),s⟩::List.replicate l.length ⟨0,0,ByteArray.empty⟩) (c.length+1) l:=by simp[ZaC,Tm.kind,Zc2]
  rw[hp]at hag;have hlen:=Zbz l (c++⟨3,(l.length:Int),s⟩::List.replicate l.length ⟨0,0,ByteArray.empty⟩) (c.length+1);simp only[List.length_append,List.length_cons,List.length_replicate]at hlen;have hf0:=hag c.length (zL _) (by omega);rw[Zb7 l _ _ c.length (by simp) (by omega),List.getElem?_append_right (zL _)]at hf0;simp only[Nat.sub_self,List.getElem?_cons_zero]at hf0;obtain⟨e3,e4⟩:=Za4 hf0;cases hg with|comp _ _ h h1 h2 h3 h4=>rw[Laid];refine⟨(c.length:Int),.stop e4 (.inl (by rw[e3];simp)),.inr (.inr (.inr ⟨rfl,rfl,e3,?_⟩))⟩;have :=Zhx v L hva l (c++⟨3,(l.length:Int),s⟩::List.replicate l.length ⟨0,0,ByteArray.empty⟩) (c.length+1) h4 (by simp;omega) (by omega) (fun i hi hil=>hag i (by simp only[List.length_append,List.length_cons,List.length_replicate]at hi;omega) hil);rw[show((c.length+1:Nat):Int)=(c.length:Int)+1 by omega]at this;exact this
 ·rw[ZaC,if_neg h3]at hag;refine Zjd v t (c++[⟨0,0,ByteArray.empty⟩]) c.length L hg (by simp) hv hva (fun i hi hil=>hag i (by simp only[List.length_append,List.length_singleton]at hi;omega) hil)
theorem Zcm:∀(l:List Tm)(c:List Ce)(i:Nat),i<c.length->(Zam c l).1[i]?=c[i]?|[],_,_,_=>rfl|x::r,c,i,hi=>by simp only[Zam];rw[Zcm r (ZaC c x) i (by have :=(Zdm x c).1;omega)];exact Zhy x c i hi
theorem ZeJ(v:Nat)(L:List Ce)(hva:ZeZ L v):∀(l:List Tm)(c:List Ce),(∀t∈l,t.Good (v:Int))->v<=c.length->(∀i,c.length<=i->i<(Zam c l).1.length->L[i]?=(Zam c l).1[i]?)->∀(j:Nat)(hj:j<l.length),∃a,(Zam c l).2[j]?=some a/\Laid L id a l[j]|[],_,_,_,_,j,hj=>by simp at hj|x::r,c,hg,hv,hag,j,hj=>by simp only[Zam]at hag ⊢;have h1:=Zdm x c;have h2:=Zbu r (ZaC c x);cases j with|zero=>refine⟨(c.length:Int),rfl,Zhz v x c L (hg x (List.mem_cons_self ..)) hv hva (fun i hi hil=>?_)⟩;rw[hag i hi (by omega)];exact Zcm r _ i hil|succ j=>obtain⟨a,e,ha⟩:=ZeJ v L hva r (ZaC c x) (fun t ht=>hg t (List.mem_cons_of_mem _ ht)) (by omega) (fun i hi hil=>hag i (by omega) hil) j (by simpa using hj);exact⟨a,by simpa using e,by simpa using ha⟩
section
variable {H F : List Ce}
theorem Zbi{a:Int}(h:Inb F a):Zaa (H++F.map (shC H.length)) (a+(H.length:Int))=shC H.length (Zaa F a)/\Inb (H++F.map (shC H.length)) (a+(H.length:Int)):=by
 obtain⟨h0,h1⟩:=h;obtain⟨k,rfl⟩:=Int.eq_ofNat_of_zero_le h0;have hk:k<F.length:=by omega
 have h2:(H++F.map (shC H.length))[H.length+k]?=some (shC H.length F[k]):=by rw[List.getElem?_append_right (by omega),List.getElem?_map,Nat.add_sub_cancel_left,List.getElem?_eq_getElem hk];rfl
 have h3:=Za4 h2;rw[show((H.length+k:Nat):Int)=(k:Int)+(H.length:Int)by omega]at h3;rw[ZaA hk];exact h3
theorem ZdF(b:Nat)(c:Ce):(shC b c).kind=c.kind:=by unfold shC;split<;>rfl
theorem Zch(b:Nat){c:Ce}(h:c.kind≠0):shC b c=c:=by unfold shC;rw[if_neg h]
theorem ZjX(b:Nat){c:Ce}(h:c.kind=0):(shC b c).n=c.n+b:=by unfold shC;rw[if_pos h]
theorem Zik{a x:Int}(h:Looks F a x):Looks (H++F.map (shC H.length)) (a+(H.length:Int)) (x+(H.length:Int)):=by
 induction h with
  |@stop a0 h1 h2=>
   obtain⟨e1,e2⟩:=Zbi (H:=H) h1;refine .stop e2 ?_;rcases h2 with h2|h2;·exact .inl (by rw[e1,ZdF];exact h2)
   ·by_cases hk:(Zaa F a0).kind=0;·exact .inr (by rw[e1,ZjX _ hk,h2])
    ·exact .inl (by rw[e1,ZdF];exact hk)
  |@next a0 x0 h1 h2 _ ih=>
   obtain⟨e1,e2⟩:=Zbi (H:=H) h1;have hk:(Zaa F a0).kind=0:=Classical.byContradiction fun hk=>h2 (.inl hk);refine .next e2 (fun hs=>h2 ?_) (by rw[e1,ZjX _ hk];exact ih);rcases hs with hs|hs;·rw[e1,ZdF]at hs;exact .inl hs
   ·rw[e1,ZjX _ hk]at hs;exact .inr (by omega)
theorem Zgd:∀(t:Tm)(a:Int),Laid F id a t->Laid (H++F.map (shC H.length)) (fun n=>n+(H.length:Int)) (a+(H.length:Int)) t:=by
 intro t;induction t using Tm.induct with
  |h k n s l ih=>
   intro a h;have hL:∀(r:List Tm),(∀t∈r,t∈l)->∀a,Laid.LaidL F id a r->Laid.LaidL (H++F.map (shC H.length)) (fun n=>n+(H.length:Int)) (a+(H.length:Int)) r:=by intro r;induction r with|nil=>intro _ a _;simp only[Laid.LaidL]|cons x r ihr=>intro hm a h;simp only[Laid.LaidL]at h ⊢;refine⟨ih x (hm x (List.mem_cons_self ..)) a h.1,?_⟩;have :=ihr (fun t ht=>hm t (List.mem_cons_of_mem _ ht)) _ h.2;rw[show a+1+(H.length:Int)=a+(H.length:Int)+1 by omega]at this;exact this
   rw[Laid]at h ⊢;obtain⟨x,hx,hc⟩:=h;obtain⟨e1,e2⟩:=Zbi (H:=H) hx.end_.1;refine⟨x+(H.length:Int),Zik hx,?_⟩;rcases hc with⟨h1,h2,h3,h4,h5⟩|⟨h1,h2,h3,h4⟩|⟨h1,h2,h3,h4⟩|⟨h1,h2,h3,h4⟩;·exact .inl ⟨h1,h2,h3,by rw[h4];rfl,by rw[e1,ZdF];exact h5⟩
   ·exact .inr (.inl ⟨h1,h2,h3,by rw[e1,Zch _ (by rw[h4];simp),h4]⟩)
   ·exact .inr (.inr (.inl ⟨h1,h2,h3,by rw[e1,Zch _ (by rw[h4];simp),h4]⟩))
   ·refine .inr (.inr (.inr ⟨h1,h2,by rw[e1,Zch _ (by rw[h3];simp),h3],?_⟩));have :=hL l (fun _ h=>h) _ h4;rw[show x+1+(H.length:Int)=x+(H.length:Int)+1 by omega]at this;exact this
end
/-! the block's cells are valid -/
def OkN(N:Nat)(c:List Ce):Prop:=∀(i:Nat)(x:Ce),c[i]?=some x->x.OkAt N i
theorem OkN.set{N:Nat}{c:List Ce}{k:Nat}{x:Ce}(h:OkN N c)(hx:x.OkAt N k):OkN N (c.set k x):=by
 intro i y hy;rw[List.getElem?_set]at hy;split at hy
 ·rename_i e;subst e;split at hy;·simp only[Option.some.injEq]at hy;subst hy;exact hx
  ·cases hy
 ·exact h i y hy
theorem OkN.append{N:Nat}{c d:List Ce}(h:OkN N c)(hd:∀(i:Nat)(x:Ce),d[i]?=some x->x.OkAt N (c.length+i)):OkN N (c++d):=by
 intro i y hy;rw[List.getElem?_append]at hy;split at hy;·exact h i y hy
 ·rename_i hl;have :=hd _ _ hy;rwa[show c.length+(i - c.length)=i by omega]at this
theorem ZbF:ByteArray.empty.toList=[]:=List.isEmpty_iff.1 (toList_nil.2 rfl)
theorem ZkV{N i:Nat}(h:0<N):(⟨0,0,ByteArray.empty⟩:Ce).OkAt N i:= .inl ⟨rfl,by simp,by simpa using h,ZbF⟩
theorem Zil{s:ByteArray}(h:Zfm s):s.toList≠[]:=by
 intro e;have h1:=toList_nil.1 (by rw[e];rfl);subst h1;rcases h with h|⟨h, -⟩;·exact absurd h (by decide)
 ·exact absurd h (by decide)
theorem Zel{N:Nat}{c:List Ce}{s:ByteArray}{n:Nat}(h:OkN N c)(hs:s.toList≠[])(h1:1<=n)(h4:n<=4)(hN:c.length+1+n<=N):OkN N (c++⟨3,(n:Int),s⟩::List.replicate n ⟨0,0,ByteArray.empty⟩):=by
 refine h.append fun i x hx=>?_;cases i with
  |zero=>simp only[List.getElem?_cons_zero,Option.some.injEq]at hx;subst hx;exact .inr (.inr (.inr ⟨rfl,by simp only;omega,by simp only;omega,by simp only;omega,hs⟩))
  |succ i=>
   simp only[List.getElem?_cons_succ,List.getElem?_replicate]at hx;split at hx;·simp only[Option.some.injEq]at hx;subst hx;exact ZkV (by omega)
   ·cases hx
theorem Zje{v N:Nat}(hvN:v<=N):∀(t:Tm)(c:List Ce)(k:Nat),t.Good (v:Int)->OkN N c->(Zce c k t).length<=N->OkN N (Zce c k t):=by
 intro t;induction t using Tm.induct with
  |h kd n s l ih=>
   intro c k hg hc hN;have hL:∀(r:List Tm),(∀t∈r,t∈l)->(∀t∈r,t.Good (v:Int))->∀(c:List Ce)(k:Nat),OkN N c->(Za5 c k r).length<=N->OkN N (Za5 c k r):=by intro r;induction r with|nil=>intro _ _ c k h _;exact h|cons x r ihr=>intro hm hgr c k h hN;simp only[Za5]at hN ⊢;have h2:=(Zbz r (Zce c k x) (k+1)).1;exact ihr (fun t ht=>hm t (List.mem_cons_of_mem _ ht)) (fun t ht=>hgr t (List.mem_cons_of_mem _ ht)) _ _ (ih x (hm x (List.mem_cons_self ..)) c k (hgr x (List.mem_cons_self ..)) h (by omega)) hN
   cases hg with
    |var _ h0 h1=>simp only[Zce,if_true];exact hc.set (.inl ⟨rfl,h0,by simp only;omega,ZbF⟩)
    |atom _ h=>simp[Zce];exact hc.set (.inr (.inl ⟨rfl,rfl,Zil h⟩))
    |int _ h0 h1=>simp[Zce];exact hc.set (.inr (.inr (.inl ⟨rfl,ZbF⟩)))
    |comp _ _ h h1 h2 h3 h4=>
     have hp:Zce c k (.mk 3 0 s l)=Za5 (c.set k ⟨0,(c.length:Int),ByteArray.empty⟩++⟨3,(l.length:Int),s⟩::List.replicate l.length ⟨0,0,ByteArray.empty⟩) (c.length+1) l:=by simp[Zce]
     rw[hp]at hN ⊢;have hlen:=(Zbz l (c.set k ⟨0,(c.length:Int),ByteArray.empty⟩++⟨3,(l.length:Int),s⟩::List.replicate l.length ⟨0,0,ByteArray.empty⟩) (c.length+1)).1;simp only[List.length_append,List.length_set,List.length_cons,List.length_replicate]at hlen;refine hL l (fun _ h=>h) h4 _ _ (Zel (hc.set (.inl ⟨rfl,by simp only;omega,by simp only;omega,ZbF⟩)) (Zil h) h2 h3 (by simp;omega)) hN
theorem ZhA{v N:Nat}(hvN:v<=N):∀(r:List Tm)(c:List Ce)(k:Nat),(∀t∈r,t.Good (v:Int))->OkN N c->(Za5 c k r).length<=N->OkN N (Za5 c k r)|[],_,_,_,h,_=>h|x::r,c,k,hgr,h,hN=>by simp only[Za5]at hN ⊢;have h2:=(Zbz r (Zce c k x) (k+1)).1;exact ZhA hvN r _ _ (fun t ht=>hgr t (List.mem_cons_of_mem _ ht)) (Zje hvN x c k (hgr x (List.mem_cons_self ..)) h (by omega)) hN
theorem ZhB{v N:Nat}(hvN:v<=N)(t:Tm)(c:List Ce)(hg:t.Good (v:Int))(hc:OkN N c)(hN:(ZaC c t).length<=N)(h0:0<N):OkN N (ZaC c t):=by
 by_cases h3:t.kind=3
 ·obtain⟨kd,n,s,l⟩:=t;simp only[Tm.kind]at h3;subst h3;have hp:ZaC c (.mk 3 n s l)=Za5 (c++⟨3,(l.length:Int),s⟩::List.replicate l.length ⟨0,0,ByteArray.empty⟩) (c.length+1) l:=by simp[ZaC,Tm.kind,Zc2]
  rw[hp]at hN ⊢;have hlen:=(Zbz l (c++⟨3,(l.length:Int),s⟩::List.replicate l.length ⟨0,0,ByteArray.empty⟩) (c.length+1)).1;simp only[List.length_append,List.length_cons,List.length_replicate]at hlen;cases hg with|comp _ _ h h1 h2 h3 h4=>exact ZhA hvN l _ _ h4 (Zel hc (Zil h) h2 h3 (by omega)) hN
 ·rw[ZaC,if_neg h3]at hN ⊢;refine Zje hvN t _ _ hg (hc.append fun i x hx=>?_) hN;cases i with|zero=>simp only[List.getElem?_cons_zero,Option.some.injEq]at hx;subst hx;exact ZkV h0|succ i=>simp at hx
theorem ZeK{v N:Nat}(hvN:v<=N)(h0:0<N):∀(l:List Tm)(c:List Ce),(∀t∈l,t.Good (v:Int))->OkN N c->(Zam c l).1.length<=N->OkN N (Zam c l).1|[],_,_,h,_=>h|x::r,c,hg,h,hN=>by simp only[Zam]at hN ⊢;have h2:=(Zbu r (ZaC c x)).1;exact ZeK hvN h0 r _ (fun t ht=>hg t (List.mem_cons_of_mem _ ht)) (ZhB hvN x c (hg x (List.mem_cons_self ..)) h (by omega) h0) hN
theorem ZkW{n N:Nat}(h:n<=N):OkN N (ZaM n):=by intro i x hx;have hi:=(List.getElem?_eq_some_iff.1 hx).1;rw[ZaL]at hi;simp only[ZaM,List.getElem?_map,List.getElem?_range hi,Option.map_some,Option.some.injEq]at hx;subst hx;exact .inl ⟨rfl,by simp,by simp only;omega,ZbF⟩
theorem ZhC(n:Nat):ZeZ (ZaM n) n:=fun i hi=>by simp[ZaM,List.getElem?_range hi]
end Go.Proofs.Ytlpmfkpefoegeac
