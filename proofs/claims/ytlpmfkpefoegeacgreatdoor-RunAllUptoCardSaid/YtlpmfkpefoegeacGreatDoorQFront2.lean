import Derived.Test.YtlpmfkpefoegeacGreatDoorPMMor
namespace Go.Proofs.YtlpmfkpefoegeacGreatDoor
set_option maxRecDepth 99999
set_option maxHeartbeats 0
set_option linter.all false
def Laid (L : List Ce) (g : Int → Int) : Int → Tm → Prop
  | a, .mk k n s l => ∃ x, Looks L a x ∧ ((k = 0 ∧ l = [] ∧ s = .empty ∧ x = g n ∧ (cellAt L x).kind = 0) ∨ (k = 1 ∧ l = [] ∧ n = 0 ∧ cellAt L x = ⟨1, 0, s⟩) ∨ (k = 2 ∧ l = [] ∧ s = .empty ∧ cellAt L x = ⟨2, n, .empty⟩) ∨
      (k = 3 ∧ n = 0 ∧ cellAt L x = ⟨3, (l.length : Int), s⟩ ∧ uu L g (x + 1) l))
where uu (L : List Ce) (g : Int → Int) : Int → List Tm → Prop
  | _, [] => True
  | a, t :: r => Laid L g a t ∧ uu L g (a + 1) r
def Agree(L c:List Ce)(k lo hi:Nat)(m:Nat):Prop:=∀i,((k<=i/\i<k+m)\/lo<=i)->i<hi->L[i]?=c[i]?
theorem aeX:∀(t:Tm)(c:List Ce)(k i:Nat),i<c.length->i≠k->(dS c k t)[i]?=c[i]?:=by
 intro t;induction t using Tm.induct with
  |h kd n s l ih=>
   intro c k i hi hne;have hL:∀(r:List Tm),(∀t∈r,t∈l)->∀(c:List Ce)(k i:Nat),i<c.length->(i<k\/k+r.length<=i)->(eU c k r)[i]?=c[i]?:=by intro r;induction r with|nil=>intro _ c k i _ _;rfl|cons x r ihr=>intro hm c k i hi hne;simp only[eU,cK]at hne ⊢;rw[ihr (fun t ht=>hm t (ni _ ht)) _ (k+1) i (by have :=(Et x c k).1;omega) (by omega)];exact ih x (hm x (nk ..)) c k i hi (by omega)
   simp only[dS];repeat' split
   ·exact Vg (tO hne)
   ·exact Vg (tO hne)
   ·exact Vg (tO hne)
   ·rw[hL l (fun _ h=>h) _ _ i (by simp;omega) (by omega),tH (by simpa using hi)];exact Vg (tO hne)
   ·rfl
theorem Dh:∀(r:List Tm)(c:List Ce)(k i:Nat),i<c.length->(i<k\/k+r.length<=i)->(eU c k r)[i]?=c[i]?|[],_,_,_,_,_=>rfl|x::r,c,k,i,hi,hne=>by simp only[eU,cK]at hne ⊢;rw[Dh r _ (k+1) i (by have :=(Et x c k).1;omega) (by omega)];exact aeX x c k i hi (by omega)
def Di(L:List Ce)(v:Nat):Prop:=∀i,i<v->L[i]?=some ⟨0,(i:Int),.empty⟩
theorem yO{L:List Ce}{i:Nat}{c:Ce}(h:L[i]?=some c):cellAt L (i:Int)=c/\Inb L (i:Int):=by have hl:i<L.length:=(gT.1 h).1;unfold cellAt Inb;rw[dG,h];exact⟨rfl,by omega,by omega⟩
theorem aeY(v:Nat):∀(t:Tm)(c:List Ce)(k:Nat)(L:List Ce),t.Good (v:Int)->k<c.length->v<=k->Di L v->Agree L (dS c k t) k c.length (dS c k t).length 1->Laid L id (k:Int) t:=by
 intro t;induction t using Tm.induct with
  |h kd n s l ih=>
   intro c k L hg hk hv hva hag;have hL:∀(r:List Tm),(∀t∈r,t∈l)->(∀t∈r,t.Good (v:Int))->∀(c:List Ce)(k:Nat),k+r.length<=c.length->v<=k->Agree L (eU c k r) k c.length (eU c k r).length r.length->Laid.uu L id (k:Int) r:=by
    intro r;induction r with
     |nil=>intro _ _ c k _ _ _;simp only[Laid.uu]
     |cons x r ihr=>
      intro hm hgr c k hkl hv hag;simp only[cK]at hkl hag;simp only[eU]at hag;have h1:=Et x c k;have h2:=wP r (dS c k x) (k+1);simp only[Laid.uu];refine⟨ih x (hm x (nk ..)) c k L (hgr x (nk ..)) (by omega) hv hva (fun i hi hil=>?_),?_⟩;·rw[hag i (by omega) (by omega)];exact Dh r _ _ i hil (by omega)
      ·have :=ihr (fun t ht=>hm t (ni _ ht)) (fun t ht=>hgr t (ni _ ht)) (dS c k x) (k+1) (by omega) (by omega) (fun i hi hil=>hag i (by omega) (by omega));rw[show((k+1:Nat):Int)=(k:Int)+1 by omega]at this;exact this
   have hk0:=hag k (by omega) (by have :=(Et (.mk kd n s l) c k).1;omega);cases hg with
    |var _ h0 h1=>obtain⟨m,rfl⟩:=dQ h0;simp only[dS,if_true]at hk0;rw[Vd hk]at hk0;obtain⟨e1,e2⟩:=yO hk0;obtain⟨e3,e4⟩:=yO (hva m (by omega));rw[Laid];refine⟨(m:Int),.next e2 (fun hs=>?_) (by rw[e1];exact .stop e4 (.inr (by rw[e3]))),.inl ⟨rfl,rfl,rfl,rfl,by rw[e3]⟩⟩;unfold Stop at hs;rw[e1]at hs;simp at hs;omega
    |atom _ h=>simp[dS]at hk0;rw[Vd hk]at hk0;obtain⟨e1,e2⟩:=yO hk0;rw[Laid];exact⟨(k:Int),.stop e2 (.inl (by rw[e1];simp)),.inr (.inl ⟨rfl,rfl,rfl,e1⟩)⟩
    |int _ h0 h1=>simp[dS]at hk0;rw[Vd hk]at hk0;obtain⟨e1,e2⟩:=yO hk0;rw[Laid];exact⟨(k:Int),.stop e2 (.inl (by rw[e1];simp)),.inr (.inr (.inl ⟨rfl,rfl,rfl,e1⟩))⟩
    |comp _ _ h h1 h2 h3 h4=>
     have hp:dS c k (.mk 3 0 s l)=eU (c.set k ⟨0,(c.length:Int),.empty⟩++⟨3,(l.length:Int),s⟩::List.replicate l.length ⟨0,0,.empty⟩) (c.length+1) l:=by simp[dS]
     rw[hp]at hag hk0;have hlen:=wP l (c.set k ⟨0,(c.length:Int),.empty⟩++⟨3,(l.length:Int),s⟩::List.replicate l.length ⟨0,0,.empty⟩) (c.length+1);simp only[bT,xL,cK,Au]at hlen;rw[Dh l _ _ k (by simp;omega) (by omega),tH (by simpa using hk),Vd hk]at hk0;have hf0:=hag c.length (by omega) (by omega);rw[Dh l _ _ c.length (by simp) (by omega),uN (by simp)]at hf0;simp only[xL,Nat.sub_self,uO]at hf0;obtain⟨e1,e2⟩:=yO hk0;obtain⟨e3,e4⟩:=yO hf0;rw[Laid];refine⟨(c.length:Int),.next e2 (fun hs=>?_) (by rw[e1];exact .stop e4 (.inl (by rw[e3];simp))),.inr (.inr (.inr ⟨rfl,rfl,e3,?_⟩))⟩;·unfold Stop at hs;rw[e1]at hs;simp at hs;omega
     ·have :=hL l (fun _ h=>h) h4 (c.set k ⟨0,(c.length:Int),.empty⟩++⟨3,(l.length:Int),s⟩::List.replicate l.length ⟨0,0,.empty⟩) (c.length+1) (by simp;omega) (by omega) (fun i hi hil=>hag i (by simp only[bT,xL,cK,Au]at hi;omega) hil);rw[show((c.length+1:Nat):Int)=(c.length:Int)+1 by omega]at this;exact this
theorem aeZ(v:Nat)(L:List Ce)(hva:Di L v):∀(r:List Tm)(c:List Ce)(k:Nat),(∀t∈r,t.Good (v:Int))->k+r.length<=c.length->v<=k->Agree L (eU c k r) k c.length (eU c k r).length r.length->Laid.uu L id (k:Int) r
 |[],_,_,_,_,_,_=>by simp only[Laid.uu]
 |x::r,c,k,hgr,hkl,hv,hag=>by
  simp only[cK]at hkl hag;simp only[eU]at hag;have h1:=Et x c k;have h2:=wP r (dS c k x) (k+1);simp only[Laid.uu];refine⟨aeY v x c k L (hgr x (nk ..)) (by omega) hv hva (fun i hi hil=>?_),?_⟩;·rw[hag i (by omega) (by omega)];exact Dh r _ _ i hil (by omega)
  ·have :=aeZ v L hva r (dS c k x) (k+1) (fun t ht=>hgr t (ni _ ht)) (by omega) (by omega) (fun i hi hil=>hag i (by omega) (by omega));rw[show((k+1:Nat):Int)=(k:Int)+1 by omega]at this;exact this
theorem ae0(t:Tm)(c:List Ce)(i:Nat)(hi:i<c.length):(bE c t)[i]?=c[i]?:=by
 unfold bE;split;·obtain⟨k,n,s,l⟩:=t;rw[wO,Dh l _ _ i (by simp;omega) (by omega),tH hi]
 ·rw[aeX t _ _ i (by simp;omega) (by omega),tH hi]
theorem ae1(v:Nat)(t:Tm)(c L:List Ce)(hg:t.Good (v:Int))(hv:v<=c.length)(hva:Di L v)(hag:∀i,c.length<=i->i<(bE c t).length->L[i]?=(bE c t)[i]?):Laid L id (c.length:Int) t:=by
 by_cases h3:t.kind=3
 ·obtain⟨kd,n,s,l⟩:=t;simp only[Tm.kind]at h3;subst h3;have hp:bE c (.mk 3 n s l)=eU (c++⟨3,(l.length:Int),s⟩::List.replicate l.length ⟨0,0,.empty⟩) (c.length+1) l:=by simp[bE,Tm.kind,wO]
  rw[hp]at hag;have hlen:=wP l (c++⟨3,(l.length:Int),s⟩::List.replicate l.length ⟨0,0,.empty⟩) (c.length+1);simp only[bT,cK,Au]at hlen;have hf0:=hag c.length (zL _) (by omega);rw[Dh l _ _ c.length (by simp) (by omega),uN (zL _)]at hf0;simp only[Nat.sub_self,uO]at hf0;obtain⟨e3,e4⟩:=yO hf0;cases hg with|comp _ _ h h1 h2 h3 h4=>rw[Laid];refine⟨(c.length:Int),.stop e4 (.inl (by rw[e3];simp)),.inr (.inr (.inr ⟨rfl,rfl,e3,?_⟩))⟩;have :=aeZ v L hva l (c++⟨3,(l.length:Int),s⟩::List.replicate l.length ⟨0,0,.empty⟩) (c.length+1) h4 (by simp;omega) (by omega) (fun i hi hil=>hag i (by simp only[bT,cK,Au]at hi;omega) hil);rw[show((c.length+1:Nat):Int)=(c.length:Int)+1 by omega]at this;exact this
 ·rw[bE,ag h3]at hag;refine aeY v t (c++[⟨0,0,.empty⟩]) c.length L hg (by simp) hv hva (fun i hi hil=>hag i (by simp only[bT,jr]at hi;omega) hil)
theorem Ie:∀(l:List Tm)(c:List Ce)(i:Nat),i<c.length->(aV c l).1[i]?=c[i]?|[],_,_,_=>rfl|x::r,c,i,hi=>by simp only[aV];rw[Ie r (bE c x) i (by have :=(Kt x c).1;omega)];exact ae0 x c i hi
theorem XA(v:Nat)(L:List Ce)(hva:Di L v):∀(l:List Tm)(c:List Ce),(∀t∈l,t.Good (v:Int))->v<=c.length->(∀i,c.length<=i->i<(aV c l).1.length->L[i]?=(aV c l).1[i]?)->∀(j:Nat)(hj:j<l.length),∃a,(aV c l).2[j]?=some a/\Laid L id a l[j]|[],_,_,_,_,j,hj=>by simp at hj|x::r,c,hg,hv,hag,j,hj=>by simp only[aV]at hag ⊢;have h1:=Kt x c;have h2:=CO r (bE c x);cases j with|zero=>refine⟨(c.length:Int),rfl,ae1 v x c L (hg x (nk ..)) hv hva (fun i hi hil=>?_)⟩;rw[hag i hi (by omega)];exact Ie r _ i hil|succ j=>obtain⟨a,e,ha⟩:=XA v L hva r (bE c x) (fun t ht=>hg t (ni _ ht)) (by omega) (fun i hi hil=>hag i (by omega) hil) j (by simpa using hj);exact⟨a,by simpa using e,by simpa using ha⟩
section
variable {H F : List Ce}
theorem Dj{a:Int}(h:Inb F a):cellAt (H++F.map (dA H.length)) (a+(H.length:Int))=dA H.length (cellAt F a)/\Inb (H++F.map (dA H.length)) (a+(H.length:Int)):=by
 obtain⟨h0,h1⟩:=h;obtain⟨k,rfl⟩:=dQ h0;have hk:k<F.length:=by omega
 have h2:(H++F.map (dA H.length))[H.length+k]?=some (dA H.length F[k]):=by rw[uN (by omega),Aw,Nat.add_sub_cancel_left,aT hk];rfl
 have h3:=yO h2;rw[show((H.length+k:Nat):Int)=(k:Int)+(H.length:Int)by omega]at h3;rw[jv hk];exact h3
theorem Ig(b:Nat)(c:Ce):(dA b c).kind=c.kind:=by unfold dA;split<;>rfl
theorem Bn(b:Nat){c:Ce}(h:c.kind≠0):dA b c=c:=by unfold dA;rw[ag h]
theorem Ih(b:Nat){c:Ce}(h:c.kind=0):(dA b c).n=c.n+b:=by unfold dA;rw[ai h]
theorem api{a x:Int}(h:Looks F a x):Looks (H++F.map (dA H.length)) (a+(H.length:Int)) (x+(H.length:Int)):=by
 induction h with
  |@stop a0 h1 h2=>
   obtain⟨e1,e2⟩:=Dj (H:=H) h1;refine .stop e2 ?_;rcases h2 with h2|h2;·exact .inl (by rw[e1,Ig];exact h2)
   ·by_cases hk:(cellAt F a0).kind=0;·exact .inr (by rw[e1,Ih _ hk,h2])
    ·exact .inl (by rw[e1,Ig];exact hk)
  |@next a0 x0 h1 h2 _ ih=>
   obtain⟨e1,e2⟩:=Dj (H:=H) h1;have hk:(cellAt F a0).kind=0:=F6 fun hk=>h2 (.inl hk);refine .next e2 (fun hs=>h2 ?_) (by rw[e1,Ih _ hk];exact ih);rcases hs with hs|hs;·rw[e1,Ig]at hs;exact .inl hs
   ·rw[e1,Ih _ hk]at hs;exact .inr (by omega)
theorem ae2:∀(t:Tm)(a:Int),Laid F id a t->Laid (H++F.map (dA H.length)) (fun n=>n+(H.length:Int)) (a+(H.length:Int)) t:=by
 intro t;induction t using Tm.induct with
  |h k n s l ih=>
   intro a h;have hL:∀(r:List Tm),(∀t∈r,t∈l)->∀a,Laid.uu F id a r->Laid.uu (H++F.map (dA H.length)) (fun n=>n+(H.length:Int)) (a+(H.length:Int)) r:=by intro r;induction r with|nil=>intro _ a _;simp only[Laid.uu]|cons x r ihr=>intro hm a h;simp only[Laid.uu]at h ⊢;refine⟨ih x (hm x (nk ..)) a h.1,?_⟩;have :=ihr (fun t ht=>hm t (ni _ ht)) _ h.2;rw[show a+1+(H.length:Int)=a+(H.length:Int)+1 by omega]at this;exact this
   rw[Laid]at h ⊢;obtain⟨x,hx,hc⟩:=h;obtain⟨e1,e2⟩:=Dj (H:=H) hx.end_.1;refine⟨x+(H.length:Int),api hx,?_⟩;rcases hc with⟨h1,h2,h3,h4,h5⟩|⟨h1,h2,h3,h4⟩|⟨h1,h2,h3,h4⟩|⟨h1,h2,h3,h4⟩;·exact .inl ⟨h1,h2,h3,by rw[h4];rfl,by rw[e1,Ig];exact h5⟩
   ·exact .inr (.inl ⟨h1,h2,h3,by rw[e1,Bn _ (by rw[h4];simp),h4]⟩)
   ·exact .inr (.inr (.inl ⟨h1,h2,h3,by rw[e1,Bn _ (by rw[h4];simp),h4]⟩))
   ·refine .inr (.inr (.inr ⟨h1,h2,by rw[e1,Bn _ (by rw[h3];simp),h3],?_⟩));have :=hL l (fun _ h=>h) _ h4;rw[show x+1+(H.length:Int)=x+(H.length:Int)+1 by omega]at this;exact this
end
def nR(N:Nat)(c:List Ce):Prop:=∀(i:Nat)(x:Ce),c[i]?=some x->x.fF N i
theorem nR.set{N:Nat}{c:List Ce}{k:Nat}{x:Ce}(h:nR N c)(hx:x.fF N k):nR N (c.set k x):=by
 intro i y hy;rw[List.getElem?_set]at hy;split at hy
 ·rename_i e;subst e;split at hy;·simp only[dm]at hy;subst hy;exact hx
  ·cases hy
 ·exact h i y hy
theorem nR.append{N:Nat}{c d:List Ce}(h:nR N c)(hd:∀(i:Nat)(x:Ce),d[i]?=some x->x.fF N (c.length+i)):nR N (c++d):=by
 intro i y hy;rw[List.getElem?_append]at hy;split at hy;·exact h i y hy
 ·rename_i hl;have :=hd _ _ hy;rwa[show c.length+(i - c.length)=i by omega]at this
theorem Ii:ByteArray.empty.toList=[]:=List.isEmpty_iff.1 (toList_nil.2 rfl)
theorem ae3{N i:Nat}(h:0<N):(⟨0,0,.empty⟩:Ce).fF N i:= .inl ⟨rfl,by simp,by simpa using h,Ii⟩
theorem XB{s:ByteArray}(h:nA s):s.toList≠[]:=by
 intro e;have h1:=toList_nil.1 (by rw[e];rfl);subst h1;rcases h with h|⟨h, -⟩;·exact absurd h (by decide)
 ·exact absurd h (by decide)
theorem ae4{N:Nat}{c:List Ce}{s:ByteArray}{n:Nat}(h:nR N c)(hs:s.toList≠[])(h1:1<=n)(h4:n<=4)(hN:c.length+1+n<=N):nR N (c++⟨3,(n:Int),s⟩::List.replicate n ⟨0,0,.empty⟩):=by
 refine h.append fun i x hx=>?_;cases i with
  |zero=>simp only[uO,dm]at hx;subst hx;exact .inr (.inr (.inr ⟨rfl,by simp only;omega,by simp only;omega,by simp only;omega,hs⟩))
  |succ i=>
   simp only[List.getElem?_cons_succ,Vb]at hx;split at hx;·simp only[dm]at hx;subst hx;exact ae3 (by omega)
   ·cases hx
theorem ae5{v N:Nat}(Bo:v<=N):∀(t:Tm)(c:List Ce)(k:Nat),t.Good (v:Int)->nR N c->(dS c k t).length<=N->nR N (dS c k t):=by
 intro t;induction t using Tm.induct with
  |h kd n s l ih=>
   intro c k hg hc hN;have hL:∀(r:List Tm),(∀t∈r,t∈l)->(∀t∈r,t.Good (v:Int))->∀(c:List Ce)(k:Nat),nR N c->(eU c k r).length<=N->nR N (eU c k r):=by intro r;induction r with|nil=>intro _ _ c k h _;exact h|cons x r ihr=>intro hm hgr c k h hN;simp only[eU]at hN ⊢;have h2:=(wP r (dS c k x) (k+1)).1;exact ihr (fun t ht=>hm t (ni _ ht)) (fun t ht=>hgr t (ni _ ht)) _ _ (ih x (hm x (nk ..)) c k (hgr x (nk ..)) h (by omega)) hN
   cases hg with
    |var _ h0 h1=>simp only[dS,if_true];exact hc.set (.inl ⟨rfl,h0,by simp only;omega,Ii⟩)
    |atom _ h=>simp[dS];exact hc.set (.inr (.inl ⟨rfl,rfl,XB h⟩))
    |int _ h0 h1=>simp[dS];exact hc.set (.inr (.inr (.inl ⟨rfl,Ii⟩)))
    |comp _ _ h h1 h2 h3 h4=>
     have hp:dS c k (.mk 3 0 s l)=eU (c.set k ⟨0,(c.length:Int),.empty⟩++⟨3,(l.length:Int),s⟩::List.replicate l.length ⟨0,0,.empty⟩) (c.length+1) l:=by simp[dS]
     rw[hp]at hN ⊢;have hlen:=(wP l (c.set k ⟨0,(c.length:Int),.empty⟩++⟨3,(l.length:Int),s⟩::List.replicate l.length ⟨0,0,.empty⟩) (c.length+1)).1;simp only[bT,xL,cK,Au]at hlen;refine hL l (fun _ h=>h) h4 _ _ (ae4 (hc.set (.inl ⟨rfl,by simp only;omega,by simp only;omega,Ii⟩)) (XB h) h2 h3 (by simp;omega)) hN
theorem ae6{v N:Nat}(Bo:v<=N):∀(r:List Tm)(c:List Ce)(k:Nat),(∀t∈r,t.Good (v:Int))->nR N c->(eU c k r).length<=N->nR N (eU c k r)|[],_,_,_,h,_=>h|x::r,c,k,hgr,h,hN=>by simp only[eU]at hN ⊢;have h2:=(wP r (dS c k x) (k+1)).1;exact ae6 Bo r _ _ (fun t ht=>hgr t (ni _ ht)) (ae5 Bo x c k (hgr x (nk ..)) h (by omega)) hN
theorem ae7{v N:Nat}(Bo:v<=N)(t:Tm)(c:List Ce)(hg:t.Good (v:Int))(hc:nR N c)(hN:(bE c t).length<=N)(h0:0<N):nR N (bE c t):=by
 by_cases h3:t.kind=3
 ·obtain⟨kd,n,s,l⟩:=t;simp only[Tm.kind]at h3;subst h3;have hp:bE c (.mk 3 n s l)=eU (c++⟨3,(l.length:Int),s⟩::List.replicate l.length ⟨0,0,.empty⟩) (c.length+1) l:=by simp[bE,Tm.kind,wO]
  rw[hp]at hN ⊢;have hlen:=(wP l (c++⟨3,(l.length:Int),s⟩::List.replicate l.length ⟨0,0,.empty⟩) (c.length+1)).1;simp only[bT,cK,Au]at hlen;cases hg with|comp _ _ h h1 h2 h3 h4=>exact ae6 Bo l _ _ h4 (ae4 hc (XB h) h2 h3 (by omega)) hN
 ·rw[bE,ag h3]at hN ⊢;refine ae5 Bo t _ _ hg (hc.append fun i x hx=>?_) hN;cases i with|zero=>simp only[uO,dm]at hx;subst hx;exact ae3 h0|succ i=>simp at hx
theorem XC{v N:Nat}(Bo:v<=N)(h0:0<N):∀(l:List Tm)(c:List Ce),(∀t∈l,t.Good (v:Int))->nR N c->(aV c l).1.length<=N->nR N (aV c l).1|[],_,_,h,_=>h|x::r,c,hg,h,hN=>by simp only[aV]at hN ⊢;have h2:=(CO r (bE c x)).1;exact XC Bo h0 r _ (fun t ht=>hg t (ni _ ht)) (ae7 Bo x c (hg x (nk ..)) h (by omega) h0) hN
theorem ae8{n N:Nat}(h:n<=N):nR N (aP n):=by intro i x hx;have hi:=(gT.1 hx).1;rw[kD]at hi;simp only[aP,Aw,ab2 hi,pq,dm]at hx;subst hx;exact .inl ⟨rfl,by simp,by simp only;omega,Ii⟩
theorem ae9(n:Nat):Di (aP n) n:=fun i hi=>by simp[aP,ab2 hi]
theorem Ce.fF.more{N M i:Nat}{c:Ce}(h:c.fF N i)(hM:N<=M):c.fF M i:=by
 rcases h with⟨h1,h2,h3,h4⟩|h|h|⟨h1,h2,h3,h4,h5⟩;·exact .inl ⟨h1,h2,by omega,h4⟩
 ·exact .inr (.inl h)
 ·exact .inr (.inr (.inl h))
 ·exact .inr (.inr (.inr ⟨h1,h2,h3,by omega,h5⟩))
theorem Ce.fF.moved{N i b:Nat}{c:Ce}(h:c.fF N i):(dA b c).fF (b+N) (b+i):=by
 rcases h with⟨h1,h2,h3,h4⟩|⟨h1,h2,h3⟩|⟨h1,h2⟩|⟨h1,h2,h3,h4,h5⟩
 ·refine .inl ⟨by rw[Ig];exact h1,?_,?_,?_⟩;·rw[Ih _ h1];omega
  ·rw[Ih _ h1];omega
  ·unfold dA;rw[ai h1];exact h4
 ·rw[Bn _ (by rw[h1];decide)];exact .inr (.inl ⟨h1,h2,h3⟩)
 ·rw[Bn _ (by rw[h1];decide)];exact .inr (.inr (.inl ⟨h1,h2⟩))
 ·rw[Bn _ (by rw[h1];decide)];exact .inr (.inr (.inr ⟨h1,h2,h3,by omega,h5⟩))
theorem XD{h:Hp}{F:List Ce}(hg:h.Good)(hF:gU F)(hl:h.cells.length+F.length<=65536):Hp.Good ⟨h.cells++F.map (dA h.cells.length),h.trail⟩:=by
 obtain⟨g1,g2,g3,g4⟩:=hg;refine⟨fun i hi=>?_,fun j hj=>?_,by simpa using hl,g4⟩
 ·simp only[bT,ny]at hi ⊢;rw[List.getElem_append];split;·rename_i hl2;exact(g1 i hl2).more (by omega)
  ·rename_i hl2;rw[PH];have :=(hF (i - h.cells.length) (by omega)).moved (b:=h.cells.length);rwa[show h.cells.length+(i - h.cells.length)=i by omega]at this
 ·obtain⟨v,e,hv,hk⟩:=g2 j hj;refine⟨v,e,by simp;omega,?_⟩;simp only;rw[Eb hv];exact hk
theorem Rj(t:Tm)(c:List Ce):c.length<(bE c t).length:=by
 unfold bE;split;·obtain⟨k,n,s,l⟩:=t;have h1:=(wP l (c++⟨3,(l.length:Int),s⟩::List.replicate l.length ⟨0,0,.empty⟩) (c.length+1)).1;simp only[bT,cK,Au]at h1;simp only[wO];omega
 ·rename_i h;rw[V6 h];simp
theorem afa{h:Tm}{l:List Tm}{n:Nat}(hg:(⟨h,l,(n:Int)⟩:Cl).Good)(F:List Ce)(hF:F=(aV (bE (aP n) h) l).1):F.length<=296/\gU F/\Laid F id (n:Int) h/\∀(j:Nat)(hj:j<l.length),∃a,(aV (bE (aP n) h) l).2[j]?=some a/\Laid F id a l[j]:=by
 obtain⟨⟨v0,v8,l5,lg⟩, -,hft, -⟩:=hg;simp only at v0 v8 l5 lg hft;have hnd:=Ku l (fun g hg=>(lg g hg).2.2);have h1:=Kt h (aP n);have h1p:=Rj h (aP n);have h2:=CO l (bE (aP n) h);rw[kD]at h1 h1p;have hh:=hft.2;rw[<-hF]at h2;have vH:∀t∈l,t.Good (n:Int):=fun t ht=>(lg t ht).2.1;have hva:Di F n:=fun i hi=>by rw[hF,Ie l _ i (by omega),ae0 h _ i (by rw[kD];exact hi)];exact ae9 n i hi
 refine⟨by omega,?_,?_,?_⟩;·have hok:=XC (v:=n) (N:=F.length) (by omega) (by omega) l (bE (aP n) h) vH (ae7 (v:=n) (by omega) h _ hft.1 (ae8 (by omega)) (by omega) (by omega)) (by rw[<-hF];exact zL _);rw[<-hF]at hok;intro i hi;exact hok i _ (aT hi)
 ·have :=ae1 n h (aP n) F hft.1 (by rw[kD];exact zL _) hva (fun i hi hil=>by rw[hF];exact Ie l _ i hil);rw[kD]at this;exact this
 ·exact XA n F hva l (bE (aP n) h) vH (by omega) (fun i hi hil=>by rw[hF])
def NF(v:Nat)(c:List Ce):Prop:=∀(i:Nat)(x:Ce),c[i]?=some x->v<=i->x.kind=0->x.n≠(i:Int)
theorem NF.set{v:Nat}{c:List Ce}(h:NF v c){k:Nat}{x:Ce}(hx:x.kind=0->x.n≠(k:Int)):NF v (c.set k x):=by
 intro i y hy hv hk;by_cases e:k=i
 ·subst e;by_cases hl:k<c.length;·rw[Vd hl]at hy;obtain rfl:=zI hy;exact hx hk
  ·rw[Pp (by simp;omega)]at hy;cases hy
 ·rw[Vg e]at hy;exact h i y hy hv hk
theorem NF.frame{v:Nat}{c:List Ce}(h:NF v c)(s:ByteArray)(m:Nat):NF v (c++⟨3,(m:Int),s⟩::List.replicate m ⟨0,0,.empty⟩):=by
 intro i y hy hv hk;by_cases hl:i<c.length;·rw[tH hl]at hy;exact h i y hy hv hk
 ·rw[uN (by omega)]at hy;obtain⟨j,hj⟩:∃j,j=i - c.length:=⟨_,rfl⟩;rw[<-hj]at hy;cases j with
   |zero=>simp only[uO,dm]at hy;subst hy;simp at hk
   |succ j=>
    rw[List.getElem?_cons_succ,Vb]at hy;split at hy;·obtain rfl:=zI hy;simp only;omega
    ·cases hy
mutual
theorem apk (v : Nat) : ∀ (t : Tm) (c : List Ce) (k : Nat), t.Good (v : Int) → NF v c → v ≤ k → k < c.length → NF v (dS c k t)
  | .mk kd n s l, c, k, hg, h, hv, hk => by
    rw [dS]
    split
    · refine h.set fun _ => ?_
      have := Tm.In.n (t := .mk kd n s l) hg (by assumption)
      simp only [Tm.n] at this
      simp only
      omega
    · split
      · exact h.set fun h => by simp at h
      · split
        · exact h.set fun h => by simp at h
        · split
          · have hl : ∀ t ∈ l, t.Good (v : Int) := fun t ht => Tm.In.arg (t := .mk kd n s l) hg ht
            exact XE v l _ _ hl ((h.set (fun _ => by simp only; omega)).frame s l.length) (by omega) (by simp; omega)
          · exact h
theorem XE (v : Nat) : ∀ (l : List Tm) (c : List Ce) (k : Nat), (∀ t ∈ l, t.Good (v : Int)) → NF v c → v ≤ k → k + l.length ≤ c.length → NF v (eU c k l)
  | [], c, k, _, h, _, _ => by rw [eU]; exact h
  | t :: r, c, k, hl, h, hv, hk => by
    rw [eU]
    simp only [cK] at hk
    have := Et t c k
    exact XE v r _ _ (fun x hx => hl x (by simp [hx])) (apk v t c k (hl t (by simp)) h hv (by omega)) (by omega) (by omega)
end
theorem XF(v:Nat)(t:Tm)(c:List Ce)(hg:t.Good (v:Int))(hk:t.jw)(h:NF v c)(hv:v<=c.length):NF v (bE c t)/\(bE c t)[c.length]?=some ⟨t.kind,(t.args.length:Int),t.s⟩:=by
 obtain⟨kd,n,s,l⟩:=t;rcases hk with hk|hk<;>simp only[Tm.kind]at hk<;>subst hk
 ·have e0:bE c (.mk 1 n s l)=(c++[(⟨0,0,.empty⟩:Ce)]).set c.length ⟨1,0,s⟩:=by simp[bE,Tm.kind,dS]
  rw[e0];show _/\_=some (⟨1,(l.length:Int),s⟩:Ce);have hl:l=[]:=by cases hg;rfl
  subst hl;have e:(c++[(⟨0,0,.empty⟩:Ce)]).set c.length ⟨1,0,s⟩=c++[⟨1,0,s⟩]:=by rw[List.set_append_right _ _ (zL _)];simp
  rw[e];refine⟨fun i y hy hv hk=>?_,by simp⟩;by_cases hl:i<c.length;·rw[tH hl]at hy;exact h i y hy hv hk
  ·rw[uN (by omega)]at hy;cases hq:i - c.length with|zero=>rw[hq]at hy;simp only[uO,dm]at hy;subst hy;simp at hk|succ j=>rw[hq]at hy;simp at hy
 ·have e0:bE c (.mk 3 n s l)=eU (c++⟨3,(l.length:Int),s⟩::List.replicate l.length ⟨0,0,.empty⟩) (c.length+1) l:=by simp[bE,Tm.kind,wO]
  rw[e0];show _/\_=some (⟨3,(l.length:Int),s⟩:Ce);have hl:∀t∈l,t.Good (v:Int):=fun t ht=>Tm.In.arg (t:= .mk 3 n s l) hg ht;refine⟨XE v l _ _ hl (h.frame s l.length) (by omega) (by simp;omega),?_⟩;rw[Dh l _ _ c.length (by simp) (by omega),uN (zL _)];simp
theorem Rk(v:Nat):∀(l:List Tm)(c:List Ce),(∀t∈l,t.jw/\t.Good (v:Int))->NF v c->v<=c.length->NF v (aV c l).1/\∀(j:Nat)(hj:j<l.length),∃a:Nat,(aV c l).2[j]?=some (a:Int)/\(aV c l).1[a]?=some ⟨l[j].kind,(l[j].args.length:Int),l[j].s⟩|[],c,_,h,_=>⟨h,fun j hj=>by simp at hj⟩|t::r,c,hl,h,hv=>by have hp:=Rj t c;obtain⟨k1,k2⟩:=XF v t c (hl t (by simp)).2 (hl t (by simp)).1 h hv;obtain⟨k3,k4⟩:=Rk v r (bE c t) (fun x hx=>hl x (by simp[hx])) k1 (by omega);simp only[aV];refine⟨k3,fun j hj=>?_⟩;cases j with|zero=>exact⟨c.length,rfl,by rw[Ie r _ _ hp];exact k2⟩|succ j=>obtain⟨a,e1,e2⟩:=k4 j (by simpa using hj);exact⟨a,by simpa using e1,by simpa using e2⟩
theorem XG(n:Nat):NF n (aP n):=fun i x hx hv _=>by rw[Pp (by rw[kD];exact hv)]at hx;cases hx
section
variable {l F : List Ce} {φ : Int → Int} {E : Env} {N : Int}
def kT(l:List Ce)(N:Int)(φ:Int->Int)(x:Int):Int:=if x<l.length then φ x else N+(x - l.length)
theorem Fb{a:Int}(h:Inb l a):cellAt (l++F.map (dA l.length)) a=cellAt l a/\Inb (l++F.map (dA l.length)) a:=by obtain⟨k,rfl,hk,e⟩:=oq h;rw[jv (show k<(l++F.map (dA l.length)).length by simp;omega),Eb hk,e];exact⟨rfl,zN _,by simp;omega⟩
theorem apl(hg:gU l):mU l (l++F.map (dA l.length)) (Inb l) id:=by
 have hok:∀a,Inb l a->(cellAt l a).fF l.length a.toNat:=fun a ha=>by obtain⟨k,rfl,hk,e⟩:=oq ha;rw[e,dG];exact hg k hk
 refine⟨fun a ha=>⟨ha,(Fb ha).2⟩,fun a ha=>?_,fun a ha hk=>?_,fun a ha hk i hi=>?_,fun a b _ _ h=>h⟩;·show cellAt _ a=_;rw[(Fb ha).1];unfold xh;split<;>rfl
 ·have :=hok a ha;unfold Ce.fF at this;unfold Inb;omega
 ·have h1:=hok a ha;unfold Ce.fF at h1;have :=ha.1;exact⟨⟨by omega,by omega⟩,rfl⟩
theorem Rm{v:Nat}(hF:NF v F){x:Int}(h:gV (l++F.map (dA l.length)) x):(x<l.length/\gV l x)\/((l.length:Int)<=x/\x<l.length+v):=by
 obtain⟨h1,h2,h3⟩:=h;by_cases hl:x<l.length;·have hi:Inb l x:=⟨h1.1,hl⟩;rw[(Fb hi).1]at h2 h3;exact .inl ⟨hl,hi,h2,h3⟩
 ·refine .inr ⟨by omega,F6 fun hn=>?_⟩;have hi:Inb F (x - l.length):=⟨by omega,by have :=h1.2;simp only[bT,ny]at this;omega⟩;obtain⟨e1,e2⟩:=Dj (H:=l) hi;rw[show x - (l.length:Int)+l.length=x by omega]at e1;rw[e1,Ig]at h2;rw[e1,Ih _ h2]at h3;obtain⟨k,hk,hkl,e⟩:=oq hi;exact hF k _ (aT hkl) (by omega) (by rw[<-e];exact h2) (by rw[<-e];omega)
theorem XH(hM:Mon N l φ E)(hE:cz N E)(hN:0<=N){v:Nat}(hF:NF v F):Mon (N+v) (l++F.map (dA l.length)) (kT l N φ) E:=by
 refine⟨fun x y hx hy hlt=>?_,fun x hx=>?_,fun x hx=>?_⟩
 ·rcases Rm hF hx with⟨a1,a2⟩|⟨a1,a2⟩<;>rcases Rm hF hy with⟨b1,b2⟩|⟨b1,b2⟩<;>unfold kT;·rw[ai a1,ai b1];exact hM.lt x y a2 b2 hlt
  ·rw[ai a1,ag (by omega)];have :=hM.bd x a2;omega
  ·omega
  ·rw[ag (by omega),ag (by omega)];omega
 ·rcases Rm hF hx with⟨a1,a2⟩|⟨a1,a2⟩<;>unfold kT;·rw[ai a1];have :=hM.bd x a2;omega
  ·rw[ag (by omega)];omega
 ·rcases Rm hF hx with⟨a1,a2⟩|⟨a1,a2⟩<;>unfold kT;·rw[ai a1];exact hM.free x a2
  ·rw[ag (by omega),Ka];intro p hp;have :=hE.key p hp;omega
theorem Rn(hg:gU l){a:Int}{t:Tm}(ha:Inb l a)(h:Hr l φ E (fun _=>True) a t):Hr (l++F.map (dA l.length)) (kT l N φ) E (fun _=>True) a t:=(apl (F:=F) hg).hr (fun x hx _ _=>⟨by show kT l N φ x=φ x;unfold kT;rw[ai hx.2],trivial⟩) h ha
theorem afb{L:List Ce}{g φ:Int->Int}{v:Int}(hE:cz N E)(hN:0<=N)(Lr:N<1000000)(Fe:v<=8)(hφ:∀n,0<=n->n<v->φ (g n)=N+n):∀(t:Tm)(a:Int),t.Good v->Laid L g a t->Hr L φ E (fun _=>True) a (dN t N):=by
 intro t;induction t using Tm.induct with
  |h k n s l ih=>
   intro a hgd h;rw[Laid]at h;obtain⟨x,hx,hc⟩:=h;rcases hc with⟨rfl,rfl,rfl,rfl,h5⟩|⟨rfl,rfl,rfl,h4⟩|⟨rfl,rfl,rfl,h4⟩|⟨rfl,rfl,h3,h4⟩
   ·have hn:=Tm.In.n (t:= .mk 0 n .empty []) hgd rfl;simp only[Tm.n]at hn;have e:dN (.mk 0 n .empty []) N=fw (N+n):=by unfold dN fw;simp only[Tm.ren,if_true,Tm.qx,Hf hn.1 (show n<1099511627776 by omega),Hf hN (show N<1099511627776 by omega)];rw[JD]
    have hst:ax E (fw (N+n))=fw (N+n):=iA (.inr (by rw[Ka];intro p hp;have :=hE.key p hp;show p.1≠N+n;omega));rw[e];exact .var hx h5 trivial (by rw[hst];rfl) (by rw[hst,hφ n hn.1 hn.2];rfl)
   ·have e:dN (.mk 1 0 s []) N= .mk 1 0 s []:=by simp[dN,Tm.ren,Tm.qx]
    have hst:ax E (.mk 1 0 s [])= .mk 1 0 s []:=iA (.inl (by simp[Tm.kind]));rw[e];exact .leaf hx (by rw[hst,h4]<;>rfl) (by rw[hst];simp[Tm.kind]) (by rw[hst];simp[Tm.kind]) (by rw[hst,h4]<;>rfl) (by rw[hst,h4]<;>rfl) (by rw[hst];rfl)
   ·have e:dN (.mk 2 n .empty []) N= .mk 2 n .empty []:=by simp[dN,Tm.ren,Tm.qx]
    have hst:ax E (.mk 2 n .empty [])= .mk 2 n .empty []:=iA (.inl (by simp[Tm.kind]));rw[e];exact .leaf hx (by rw[hst,h4]<;>rfl) (by rw[hst];simp[Tm.kind]) (by rw[hst];simp[Tm.kind]) (by rw[hst,h4]<;>rfl) (by rw[hst,h4]<;>rfl) (by rw[hst];rfl)
   ·have e:dN (.mk 3 0 s l) N= .mk 3 0 s (l.map fun t=>dN t N):=by simp[dN,Tm.ren,Tm.JH]
    have hst:ax E (.mk 3 0 s (l.map fun t=>dN t N))= .mk 3 0 s (l.map fun t=>dN t N):=iA (.inl (by simp[Tm.kind]));rw[e];have hL:∀(r:List Tm)(b:Int),Laid.uu L g b r->∀(i:Nat)(hi:i<r.length),Laid L g (b+(i:Nat)) r[i]:=by intro r;induction r with|nil=>intro b _ i hi;simp at hi|cons y r ihr=>intro b hb i hi;simp only[Laid.uu]at hb;cases i with|zero=>simpa using hb.1|succ i=>have :=ihr (b+1) hb.2 i (by simpa using hi);rw[show b+((i+1:Nat):Int)=b+1+(i:Nat)by omega];exact this
    refine .comp hx (by rw[h3]) (by rw[hst];rfl) (by rw[hst];rfl) (by rw[hst,h3];simp[Tm.args]) (by rw[hst,h3];rfl) ?_;rw[hst];intro i hi;simp only[Tm.args,ny]at hi;simp only[Tm.args,PH];exact ih _ (bO hi) _ (Tm.In.arg (t:= .mk 3 0 s l) hgd (bO hi)) (hL l _ h4 i hi)
end
theorem XI(E:Env):∀(w:Nat)(s r:List Tm),bL E w (s++r)=match bL E w s with|none=>none|some (ts,w1)=>match bL E w1 r with|none=>none|some (rs,w2)=>some (ts++rs,w2):=by intro w;induction w using Nat.strongRecOn with|_ w ih=>intro s r;match w,s,ih with
 |w,[],_=>rw[xW,tK];simp only[tK];cases bL E w r with|none=>rfl|some p=>rfl
 |0,a::s,_=>rw[tJ,GM,GM]
 |w+1,a::s,ih=>rw[tJ,bL.eq_def E (w+1) (a::(s++r)),bL.eq_def E (w+1) (a::s)];simp only;cases h1:bL E w (ax E a).args with|none=>rfl|some p=>obtain⟨JY,w1⟩:=p;simp only;rw[ih (min w w1) (by omega) s r];cases h2:bL E (min w w1) s with|none=>rfl|some p=>obtain⟨ts2,w2⟩:=p;simp only;cases h3:bL E w2 r with|none=>rfl|some p=>rfl
theorem apm(E:Env)(k:Nat)(z:Tm):bL E (k+1) [z]=match bL E k (ax E z).args with|none=>none|some (ts,w1)=>some ([.mk (ax E z).kind (ax E z).n (ax E z).s ts],w1):=by rw[bL];cases h1:bL E k (ax E z).args with|none=>rfl|some p=>obtain⟨JY,w1⟩:=p;have :=(Qd E k _ _ _ h1).1;simp only[xW,Ga this]
theorem afc(E:Env)(w:Nat)(s r:List Tm)(h:bL E w s=none):bL E w (s++r)=none:=by rw[XI,h]
theorem afd(E:Env)(k:Nat)(l:List Tm)(j:Nat)(hj:j<l.length)(ts:List Tm)(m:Nat)(h:bL E k (l.take j)=some (ts,m)):bL E k (l.take (j+1))=match bL E m [l[j]]with|none=>none|some (rs,w2)=>some (ts++rs,w2):=by rw[dX hj,XI,h]
def apn(l:List Ce)(φ:Int->Int):Option (List Tm×Nat)->Option (List Tm×Nat)->Prop|none,none=>True|some (xs,w1),some (ys,w2)=>w1=w2/\ys=xs.map (Tm.ren φ)/\∀x∈xs,x.Vars (gV l)|_,_=>False
section
variable {l : List Ce} {φ : Int → Int} {E : Env} {N : Int}
theorem apo(hE:cz N E):∀(w:Nat)(s:List Int)(ts:List Tm),iD l φ E (fun _=>True) s ts->(∀t∈ts,t.In N)->apn l φ (eG l w s) (bL E w ts):=by
 intro w;induction w using Nat.strongRecOn with
  |_ w ih=>
   intro s ts hH hI;match w,s,ts,ih,hH,hI with
    |w,[],[],_,_,_=>rw[AL,xW];exact⟨rfl,rfl,by simp⟩
    |w,[],_::_,_,h,_=>exact h.elim
    |w,_::_,[],_,h,_=>exact h.elim
    |0,a::s,t::ts,_,_,_=>rw[JW,GM];trivial
    |w+1,a::s,t::ts,ih,⟨ha,hr⟩,hI=>
     have De:∀t∈ts,t.In N:=fun x hx=>hI x (by simp[hx]);have hi:=oz hE (hI t (by simp));rw[eG,bL];cases ha with
      |@var _ x _ k1 k2 k3 k4 k5=>
       have hx0:=k1.nC;rw[iQ k1,ag (by omega),ag (by rw[k2];decide)];have hz:ax E t= .mk 0 (φ x) .empty []:=by rw[<-k5];generalize ax E t=z at hi k4;cases hi with|var=>rfl|atom=>cases k4|int=>cases k4|comp=>cases k4
       rw[hz];simp only[Tm.args,xW,acv];have :=ih w (by omega) s ts hr De;revert this;cases eG l w s with
        |none=>cases bL E w ts with|none=>intro _;trivial|some p=>intro h;exact h.elim
        |some p=>
         obtain⟨xs,w1⟩:=p;cases bL E w ts with
          |none=>intro h;exact h.elim
          |some q=>
           obtain⟨ys,w2⟩:=q;rintro⟨e1,e2,e3⟩;simp only[k2,if_true];refine⟨e1,by rw[e2];rfl,fun y hy=>?_⟩;rcases gK.1 hy with rfl|hy;·exact .mk _ _ _ _ (fun _=>k1.free k2) (by simp)
           ·exact e3 y hy
      |@leaf _ x _ k1 k2 k3 k4 k5 k6 k7=>
       have hx0:=k1.nC;have hk0:(cellAt l x).kind≠0:=by rw[k2];exact k3
       rw[iQ k1,ag (by omega),ag (by rw[k2];exact k4),k7];simp only[xW,acv];have :=ih w (by omega) s ts hr De;revert this;cases eG l w s with
        |none=>cases bL E w ts with|none=>intro _;trivial|some p=>intro h;exact h.elim
        |some p=>
         obtain⟨xs,w1⟩:=p;cases bL E w ts with
          |none=>intro h;exact h.elim
          |some q=>
           obtain⟨ys,w2⟩:=q;rintro⟨e1,e2,e3⟩;simp only[hk0,if_false];refine⟨e1,?_,fun y hy=>?_⟩;·rw[e2,qp,k2,k5,k6];simp only[Tm.ren,Tm.qx,k3,if_false]
           ·rcases gK.1 hy with rfl|hy;·exact .mk _ _ _ _ (fun h=>absurd h hk0) (by simp)
            ·exact e3 y hy
      |@comp _ x _ k1 k2 k3 k4 k5 k6 k7=>
       have hx0:=k1.nC;rw[iQ k1,ag (by omega),ai k2];have ha:=ih w (by omega) _ _ ((Lv k5).2 k7) (fun y hy=>hi.arg hy);revert ha;cases eG l w (argsAt x (cellAt l x).n)with
        |none=>cases bL E w (ax E t).args with|none=>intro _;trivial|some p=>intro h;exact h.elim
        |some p=>
         obtain⟨xs,w1⟩:=p;cases bL E w (ax E t).args with
          |none=>intro h;exact h.elim
          |some q=>
           obtain⟨ys,w2⟩:=q;rintro⟨rfl,e2,e3⟩;simp only;have :=ih (min w w1) (by omega) s ts hr De;revert this;cases eG l (min w w1) s with
            |none=>cases bL E (min w w1) ts with|none=>intro _;trivial|some p=>intro h;exact h.elim
            |some p=>
             obtain⟨xs',w1'⟩:=p;cases bL E (min w w1) ts with
              |none=>intro h;exact h.elim
              |some q=>
               obtain⟨ys',w2'⟩:=q;rintro⟨d1,d2,d3⟩;refine⟨d1,?_,fun y hy=>?_⟩;·rw[d2,qp,k3,k4,k6,e2];simp[Tm.ren,Tm.JH]
               ·rcases gK.1 hy with rfl|hy;·exact .mk _ _ _ _ (fun h=>absurd h (by decide)) e3
                ·exact d3 y hy
theorem apq(hM:Mon N l φ E){xs ys:List Tm}(h:ys=xs.map (Tm.ren φ))(hv:∀x∈xs,x.Vars (gV l)):tidy ys=tidy xs:=by rw[h];exact am3 (fun a b ha hb e=>hM.inj ha hb e) xs hv
end
structure kU (N : Int) (l : List Ce) (φ : Int → Int) (E : Env) (a : Int) (t : Tm) : Prop where
  jF : Inb l a
  cell : cellAt l a = ⟨t.kind, (t.args.length : Int), t.s⟩
  goal : t.jw
  zW : t.In N
  tells : Hr l φ E (fun _ => True) a t
def nS(N:Int)(l:List Ce)(φ:Int->Int)(E:Env)(gs:List Gm):Int->List Gl->Prop|n,[]=>n= -1|n,g::r=>∃k:Nat,n=(k:Int)/\k<gs.length/\((gs[k]?).getD default).bar=g.bar/\kU N l φ E ((gs[k]?).getD default).at_ g.t/\((gs[k]?).getD default).next<n/\nS N l φ E gs ((gs[k]?).getD default).next r
theorem nS.ge{N:Int}{l:List Ce}{φ:Int->Int}{E:Env}{gs:List Gm}{n:Int}{gl:List Gl}(h:nS N l φ E gs n gl): -1<=n/\n<gs.length:=by cases gl with|nil=>have :n= -1:=h;omega|cons g r=>obtain⟨k,h1,h2,_⟩:=h;omega
theorem nS.imp{N N':Int}{l l':List Ce}{φ φ':Int->Int}{E E':Env}{gs gs':List Gm}(hgs:∀k,k<gs.length->gs'[k]?=gs[k]?)(hlen:gs.length<=gs'.length)(hG:∀a t,kU N l φ E a t->kU N' l' φ' E' a t):∀{gl:List Gl}{n:Int},nS N l φ E gs n gl->nS N' l' φ' E' gs' n gl|[],n,h=>h|g::r,n,⟨k,h1,h2,h3,h4,h5,h6⟩=>by refine⟨k,h1,by omega,?_⟩;rw[hgs k h2];exact⟨h3,hG _ _ h4,h5,nS.imp hgs hlen hG h6⟩
def Ij(N:Int)(l:List Ce)(E:Env)(q:Nat)(query:Int)(gs:List Gm)(n:Int)(gl:List Gl):Prop:=∃φ,Mon N l φ E/\(∀v:Nat,v<q->Inb l (query+(v:Nat))/\Hr l φ E (fun _=>True) (query+(v:Nat)) (fw (v:Nat)))/\nS N l φ E gs n gl
theorem Mon.mono{N N':Int}{l:List Ce}{φ:Int->Int}{E:Env}(h:Mon N l φ E)(hN:N<=N'):Mon N' l φ E:=⟨h.lt,fun x hx=>by have :=h.bd x hx;omega,h.free⟩
theorem Ij.mono{N N':Int}{l:List Ce}{E:Env}{q:Nat}{query:Int}{gs gs':List Gm}{n:Int}{gl:List Gl}(h:Ij N l E q query gs n gl)(hN:N<=N')(hgs:∀k,k<gs.length->gs'[k]?=gs[k]?)(hlen:gs.length<=gs'.length):Ij N' l E q query gs' n gl:=by obtain⟨φ,h1,h2,h3⟩:=h;exact⟨φ,h1.mono hN,h2,h3.imp hgs hlen fun _ _ h=>⟨h.jF,h.cell,h.goal,h.zW.mono hN,h.tells⟩⟩
structure Bp (h : Hp) (E : Env) (N : Int) (q : Nat) (query : Int) (gs : List Gm) (c : Cm) (d : jO) : Prop where
  from_ : c.from_ = d.at_
  top : c.top ≤ h.cells.length
  tr : c.trail ≤ h.trail.length
  XJ : c.trail ≤ d.trail
  zX : d.trail ≤ E.length
  good : (eu h c.top c.trail).Good
  snap : Ij N (eu h c.top c.trail).cells (E.take d.trail) q query gs (c.goal : Int) d.g
def kG(h:Hp)(E:Env)(N:Int)(q:Nat)(query:Int)(gs:List Gm):List Cm->List jO->Prop|[],[]=>True|c::cs,d::ds=>Bp h E N q query gs c d/\(∀x∈cs,x.top<=c.top/\x.trail<=c.trail)/\kG h E N q query gs cs ds|_,_=>False
section
variable {h h' : Hp} {E E' : Env} {N N' : Int} {q : Nat} {query : Int} {gs gs' : List Gm}
theorem kG.len:∀{cs:List Cm}{ds:List jO},kG h E N q query gs cs ds->cs.length=ds.length|[],[],_=>rfl|c::cs,d::ds,h=>by simp[kG.len h.2.2]|[],_::_,h=>h.elim|_::_,[],h=>h.elim
theorem kG.drop:∀{cs:List Cm}{ds:List jO}(k:Nat),kG h E N q query gs cs ds->kG h E N q query gs (cs.drop k) (ds.drop k)|cs,ds,0,h=>h|[],[],k+1,h=>by simp[kG]|c::cs,d::ds,k+1,h=>kG.drop k h.2.2|[],_::_,_+1,h=>h.elim|_::_,[],_+1,h=>h.elim
theorem kG.mem:∀{cs:List Cm}{ds:List jO},kG h E N q query gs cs ds->∀c∈cs,∃d∈ds,Bp h E N q query gs c d
 |[],[],_,c,hc=>by cases hc
 |c::cs,d::ds,h,x,hx=>by
  rcases gK.1 hx with rfl|hx;·exact⟨d,by simp,h.1⟩
  ·obtain⟨e,he,h3⟩:=kG.mem h.2.2 x hx;exact⟨e,by simp[he],h3⟩
 |[],_::_,h,_,_=>h.elim
 |_::_,[],h,_,_=>h.elim
theorem kG.imp:∀{cs:List Cm}{ds:List jO},(∀c d,c∈cs->d∈ds->Bp h E N q query gs c d->Bp h' E' N' q query gs' c d)->kG h E N q query gs cs ds->kG h' E' N' q query gs' cs ds|[],[],_,_=>trivial|c::cs,d::ds,k,h=>⟨k c d (by simp) (by simp) h.1,h.2.1,kG.imp (fun c d hc hd=>k c d (by simp[hc]) (by simp[hd])) h.2.2⟩|[],_::_,_,h=>h.elim|_::_,[],_,h=>h.elim
theorem Bp.move{c:Cm}{d:jO}(k:Bp h E N q query gs c d)(ho:eu h' c.top c.trail=eu h c.top c.trail)(h1:c.top<=h'.cells.length)(h2:c.trail<=h'.trail.length)(hE:E'.take d.trail=E.take d.trail)(h3:d.trail<=E'.length)(hN:N<=N')(hgs:∀k,k<gs.length->gs'[k]?=gs[k]?)(hlen:gs.length<=gs'.length):Bp h' E' N' q query gs' c d:=⟨k.from_,h1,h2,k.XJ,h3,by rw[ho];exact k.good,by rw[ho,hE];exact k.snap.mono hN hgs hlen⟩
theorem LA{l:List Ce}{vs:List Int}{i:Nat}:(iw l vs)[i]?=(l[i]?).map fun c=>if(i:Int)∈vs then{c with n:=(i:Int)}else c:=by unfold iw;rw[List.getElem?_mapIdx]
theorem afe{top tr Ro Bq:Nat}(h1:Ro<=top)(h2:Bq<=tr):eu (eu h top tr) Ro Bq=eu h Ro Bq:=by
 unfold eu;simp only[Hp.mk.injEq];refine⟨?_,by rw[Vo,Gd h2]⟩;apply List.ext_getElem?;intro i;by_cases hi:i<Ro
 ·rw[qj hi,qj hi,LA,LA,qj (by omega),LA];cases h.cells[i]? with
   |none=>rfl
   |some c=>
    simp only[pq,dm];have hm:(i:Int)∈h.trail.drop Bq↔(i:Int)∈(h.trail.take tr).drop Bq\/(i:Int)∈h.trail.drop tr:=by
     have e:h.trail.drop Bq=(h.trail.take tr).drop Bq++h.trail.drop tr:=by
      conv=>lhs;rw[<-Ju tr h.trail]
      rw[List.drop_append];by_cases hl:tr<=h.trail.length;·rw[show Bq - (List.take tr h.trail).length=0 by rw[eY];omega];rfl
      ·rw[show h.trail.drop tr=[]from alP (by omega),List.drop_nil]
     rw[e,fE]
    by_cases a1:(i:Int)∈(h.trail.take tr).drop Bq;·rw[ai a1,ai (hm.2 (.inl a1))];split<;>rfl
    ·by_cases a2:(i:Int)∈h.trail.drop tr;·rw[ag a1,ai a2,ai (hm.2 (.inr a2))]
     ·rw[ag a1,ag a2,ag (fun k=>(hm.1 k).elim a1 a2)]
 ·rw[Pp (by rw[eY];omega),Pp (by rw[eY];omega)]
theorem XK{F:List Ce}{u:List Ce}{vs:List Int}(hB:qB (h.cells++F) vs u){top tr:Nat}(h1:top<=h.cells.length)(h2:tr<=h.trail.length):eu ⟨u,h.trail++vs⟩ top tr=eu h top tr:=by
 unfold eu;simp only[Hp.mk.injEq];refine⟨?_,by rw[abW h2]⟩;apply List.ext_getElem?;intro i;by_cases hi:i<top
 ·rw[qj hi,qj hi,LA,LA,axJ h2];have hil:i<(h.cells++F).length:=by simp;omega
  have hiu:i<u.length:=by rw[hB.1];exact hil
  have hih:i<h.cells.length:=by omega
  rw[aT hiu,aT hih];simp only[pq,dm];have hg:(h.cells++F)[i]=h.cells[i]:=Eb hih;rcases hB.2 i hil hiu with⟨k1,k2⟩|⟨k1,k2,k3,n,k4,k5,k6⟩
  ·rw[k2,hg];by_cases a1:(i:Int)∈h.trail.drop tr;·rw[ai (alT _ a1),ai a1]
   ·rw[ag (fun k=>(fE.1 k).elim a1 k1),ag a1]
  ·rw[ai (alR _ k1),k6];rw[hg]at k3 ⊢;have :({h.cells[i]with n:=(i:Int)}:Ce)=h.cells[i]:=by cases hc:h.cells[i];rw[hc]at k3;simp only at k3;rw[k3]
   rw[this];split<;>rfl
 ·rw[Pp (by rw[eY];omega),Pp (by rw[eY];omega)]
theorem aff(h:Hp):eu h h.cells.length h.trail.length=h:=by unfold eu;rw[acb,acW,jd,jd]
end
def mV(fuel:Nat)(out:List Ev):Nat:=300*(fuel+(12 - out.length))
def Br(fuel:Nat)(out:List Ev):Nat:=5*(fuel+(12 - out.length))
structure Ff (q : Nat) (m : Mv) (s : Sv) (gl : List Gl) : Prop where
  good : m.h.Good
  fuel : m.fuel = s.fuel
  out : m.out = s.out
  tr : m.h.trail.length ≤ s.env.length
  cur : Ij s.vars m.h.cells s.env q m.query m.goals m.now gl
  cO : kG m.h s.env s.vars q m.query m.goals m.choices s.choices
  bY : m.h.cells.length + mV m.fuel m.out ≤ 60000
  mW : ∀ c ∈ m.choices, c.top + 300 + mV m.fuel m.out ≤ 60000
  lL : m.goals.length + Br m.fuel m.out ≤ 5000
structure uy (P : List Cl) (q : Nat) (m : Mv) (s : Sv) (gl : List Gl) : Prop where
  ok : gZ P s
  oL : sw s.vars gl
  nT : Ff q m s gl
structure LC (P : List Cl) (q : Nat) (m : Mv) (s : Sv) (cs : List Cm) (ds : List jO) : Prop where
  ok : gZ P { s with choices := ds }
  good : m.h.Good
  fuel : m.fuel = s.fuel
  out : m.out = s.out
  cO : kG m.h s.env s.vars q m.query m.goals cs ds
  mW : ∀ c ∈ cs, c.top + 300 + mV m.fuel m.out ≤ 60000
  lL : m.goals.length + 5 + Br m.fuel m.out ≤ 5000
def Both(q:Nat):RM×Mv->Eo×Sv->Prop|(.next,m),(.next gl,s)=>Ff q m s gl|(.no,_),(.no,_)=>True|(.off,m),(.off,s)=>m.out=s.out|_,_=>False
theorem afg{N:Int}{l:List Ce}{φ:Int->Int}{E:Env}{a:Int}{t:Tm}(h:kU N l φ E a t)(c:Cl):wT c (cellAt l a)↔iJ c.head t:=by unfold wT iJ;rw[h.cell];simp only;exact⟨fun⟨h1,h2⟩=>⟨h1,by omega⟩,fun⟨h1,h2⟩=>⟨h1,by omega⟩⟩
theorem XL{N:Int}{l:List Ce}{φ:Int->Int}{E:Env}{a:Int}{t:Tm}(h:kU N l φ E a t)(P:List Cl):∀(n k:Nat),cZ P (cellAt l a) n k=kP P t n k|0,k=>rfl|n+1,k=>by rw[cZ,kP,XL h P n (k+1)];cases P[k]? with|none=>rfl|some c=>simp only[afg h]
theorem afh{N:Int}{E:Env}(h:cz N E)(hN:0<=N):(E.length:Int)<=N:=by obtain⟨n,rfl⟩:=dQ hN;have :=VD n (E.map (·.1)) h.nodup (fun x hx=>by obtain⟨p,hp,rfl⟩:=fZ.1 hx;exact h.key p hp);rw[ny]at this;omega
theorem Rp{h:Hp}{F:List Ce}(hg:h.Good)(hF:gU F)(hl:h.cells.length+F.length<=65536):gM h F=(⟨h.cells++F.map (dA h.cells.length),h.trail⟩,(h.cells.length:Int),0):=by rw[gM,ag (dJ ⟨hg,hF,fun j hj=>by simp at hj,by simp only;omega,by simp⟩),ag (by omega)]
theorem afi{h:Hp}{a b:Int}(hg:h.Good)(ha:Inb h.cells a)(hb:Inb h.cells b):gP h a b=if(bD 400 [(a,b)] h.cells h.trail).work<0 then(h,false,3)else if(bD 400 [(a,b)] h.cells h.trail).ok=false then(h,false,0)else if 65536<(bD 400 [(a,b)] h.cells h.trail).trail.length then(h,false,3)else(⟨(bD 400 [(a,b)] h.cells h.trail).cells,(bD 400 [(a,b)] h.cells h.trail).trail⟩,true,0):=by rw[gP,ag (dJ hg),ag (dJ ⟨ha,hb⟩)]
theorem afj{l l':List Ce}{vs:List Int}(hB:qB l vs l'){a:Int}(ha:Inb l a)(hk:(cellAt l a).kind≠0):cellAt l' a=cellAt l a/\Inb l' a:=by
 obtain⟨k,rfl,hkl,e⟩:=oq ha;have hkl':k<l'.length:=by rw[hB.1];exact hkl
 rw[e]at hk ⊢;rw[jv hkl'];rcases hB.2 k hkl hkl' with⟨_,k2⟩|⟨_,k2,_⟩;·exact⟨k2,zN _,by omega⟩
 ·exact absurd k2 hk
theorem afk{l l':List Ce}{t vs:List Int}(hg:Hp.Good ⟨l,t⟩)(h2:qB l vs l')(h3:∀v∈vs,Inb l v)(htl:(t++vs).length<=65536):Hp.Good ⟨l',t++vs⟩:=by
 refine⟨h2.good hg.1,fun j hj=>?_,by rw[h2.1];exact hg.2.2.1,htl⟩;simp only at hj;by_cases hlt:j<t.length;·obtain⟨v,e1,e2,e3⟩:=hg.2.1 j hlt;refine⟨v,by simp only;rw[Eb hlt];exact e1,by rw[h2.1];exact e2,?_⟩;rw[h2.kind v e2 (by rw[h2.1];exact e2)];exact e3
 ·have hj':j - t.length<vs.length:=by simp only[bT]at hj;omega
  obtain⟨k1,k2⟩:=h3 vs[j - t.length] (bO _);obtain⟨v,hv⟩:=dQ k1;have hvl:v<l.length:=by omega
  refine⟨v,by simp only;rw[Ea (by omega)];exact hv,by rw[h2.1];exact hvl,?_⟩;rcases h2.2 v hvl (by rw[h2.1];exact hvl)with⟨k3,_⟩|⟨_,k4,_,n,_,_,k5⟩;·exact absurd (hv▸bO _) k3
  ·rw[k5];exact k4
theorem jw.ne{t:Tm}(h:t.jw):t.kind≠0:=by rcases h with h|h<;>rw[h]<;>decide
theorem kU.kind{N:Int}{l:List Ce}{φ:Int->Int}{E:Env}{a:Int}{t:Tm}(h:kU N l φ E a t):(cellAt l a).kind≠0:=by rw[h.cell];exact jw.ne h.goal
theorem kU.move{N N':Int}{l l':List Ce}{φ φ':Int->Int}{E E':Env}{a:Int}{t:Tm}(h:kU N l φ E a t)(hN:N<=N')(hc:cellAt l' a=cellAt l a)(hi:Inb l' a)(hr:Hr l' φ' E' (fun _=>True) a t):kU N' l' φ' E' a t:=⟨hi,hc.trans h.cell,h.goal,h.zW.mono hN,hr⟩
theorem XM{N:Int}{l:List Ce}{φ:Int->Int}{E:Env}{base:Int}{bar:Nat}{gs0:List Gm}{nx:Int}{rest:List Gl}(hch:nS N l φ E gs0 nx rest):∀(xs:List Int)(ts:List Tm),xs.length=ts.length->(∀(j:Nat)(hj:j<ts.length),∃a,xs[j]?=some a/\kU N l φ E (base+a) ts[j])->nS N l φ E (eX base bar xs gs0 nx).1 (eX base bar xs gs0 nx).2 ((ts.map fun t=>(⟨t,bar⟩:Gl))++rest)/\gs0.length<=(eX base bar xs gs0 nx).1.length/\∀k,k<gs0.length->(eX base bar xs gs0 nx).1[k]?=gs0[k]?|[],[],_,_=>⟨hch,zL _,fun _ _=>rfl⟩|a::xs,t::ts,hl,h=>by obtain⟨k1,k2,k3⟩:=XM hch xs ts (by simpa using hl) (fun j hj=>by obtain⟨a',e1,e2⟩:=h (j+1) (by simp;omega);exact⟨a',by simpa using e1,by simpa using e2⟩);rw[eX];generalize eX base bar xs gs0 nx=p at k1 k2 k3 ⊢;obtain⟨a',e1,e2⟩:=h 0 (by simp);simp only[uO,dm,Jt]at e1 e2;subst e1;have hge:=k1.ge;refine⟨⟨p.1.length,rfl,by simp,?_⟩,by simp;omega,fun k hk=>by rw[tH (by omega)];exact k3 k hk⟩;simp only[List.getElem?_concat_length,nW];refine⟨trivial,e2,hge.2,k1.imp (fun k hk=>tH hk) (by simp) fun _ _ h=>h⟩|[],_::_,hl,_=>by simp at hl|_::_,[],hl,_=>by simp at hl
theorem LD{base:Int}{bar:Nat}{gs0:List Gm}{nx:Int}:∀(xs:List Int),(eX base bar xs gs0 nx).1.length=gs0.length+xs.length|[]=>rfl|a::xs=>by rw[eX];simp only[bT,cK,kg,LD xs];omega
theorem afl(t:Tm)(d:Int)(hk:t.kind≠0):(dN t d).kind=t.kind/\(dN t d).args.length=t.args.length/\(dN t d).s=t.s:=by obtain⟨k,n,s,l⟩:=t;simp[dN,Tm.ren,Tm.JH,Tm.kind,Tm.args,Tm.s]
theorem apr{t:Tm}{d:Int}(h:t.jw):(dN t d).jw:=by unfold Tm.jw at h ⊢;rw[(afl t d (jw.ne h)).1];exact h
structure Fg (q : Nat) (m : Mv) (s : Sv) (n : Nat) (g : Gl) (rest : List Gl) : Prop where
  good : m.h.Good
  env : cz s.vars s.env
  v0 : 0 ≤ s.vars
  v1 : s.vars ≤ 40000
  qv : (q : Int) ≤ s.vars
  gt : g.t.In s.vars
  fuel : m.fuel = s.fuel
  out : m.out = s.out
  tr : m.h.trail.length ≤ s.env.length
  cur : Ij s.vars m.h.cells s.env q m.query m.goals (n : Int) (g :: rest)
  cO : kG m.h s.env s.vars q m.query m.goals m.choices s.choices
  bY : m.h.cells.length + 300 + mV m.fuel m.out ≤ 60000
  mW : ∀ c ∈ m.choices, c.top + 300 + mV m.fuel m.out ≤ 60000
  lL : m.goals.length + 5 + Br m.fuel m.out ≤ 5000
theorem XN{P:List Cl}{q:Nat}{m:Mv}{s:Sv}{n:Nat}{g:Gl}{rest:List Gl}(hP:dW P)(C:Fg q m s n g rest):∀(j k:Nat),j=P.length - k->Both q (fI P n (cB m n) j k m) (lG P g rest j k s)
 |0,k,_=>by rw[fI,lG];trivial
 |j+1,k,hj=>by
  have ih:=XN hP C j (k+1) (by omega);have hkl:k<P.length:=by omega
  rw[fI,lG,aT hkl];simp only;obtain⟨φ,hM,hq,kk,e1,hlt,uq,hga,hnx,hch⟩:=C.cur;have e2:kk=n:=by omega
  subst e2;have hgm:cB m kk=(m.goals[kk]?).getD default:=rfl;rw[<-hgm]at uq hga hnx hch;generalize cB m kk=gm at*;have hls:=afg hga P[k];by_cases Rq:iJ (P[k]).head g.t
  ·have hlm:=hls.2 Rq;rw[ag (dJ hlm),ag (dJ Rq)];have hnext:cZ P (cellAt m.h.cells gm.at_) (P.length - (k+1)) (k+1)=kP P g.t (P.length - (k+1)) (k+1):=XL hga P _ _;rw[hnext];have hcg:(P[k]).Good:=hP.2 _ (bO hkl);generalize P[k]=c at*;obtain⟨head,body,vars⟩:=c;obtain⟨v,rfl⟩:=dQ (show 0<=vars from hcg.1.1);obtain⟨F,hF⟩:∃F,F=(aV (bE (aP v) head) body).1:=⟨_,rfl⟩;obtain⟨b1,b2,b3,b4⟩:=afa hcg F hF;have hcells:(aN ⟨head,body,(v:Int)⟩).cells=F:=by rw[hF];simp[aN]
   have Fh:(aN ⟨head,body,(v:Int)⟩).goals=(aV (bE (aP v) head) body).2:=by simp[aN]
   have hhd:(aN ⟨head,body,(v:Int)⟩).head=(v:Int):=by simp[aN]
   have hbody:∀t∈body,t.jw/\t.Good (v:Int):=fun t ht=>⟨(hcg.1.2.2.2 t ht).1,(hcg.1.2.2.2 t ht).2.1⟩;have Fe:(v:Int)<=8:=hcg.1.2.1;obtain⟨n1,n2⟩:=XF v head (aP v) hcg.2.2.1.1 hcg.2.1 (XG v) (by rw[kD];exact zL _);have n3:=Rk v body (bE (aP v) head) hbody n1 (by have :=Rj head (aP v);rw[kD]at this;omega);rw[<-hF]at n3;obtain⟨n3,n4⟩:=n3;have hlen:m.h.cells.length+F.length<=65536:=by have :=C.bY;omega
   have hld:=Rp C.good b2 hlen;have hg1:=XD C.good b2 hlen;rw[hcells,Fh,hhd,hld];simp only[ne_eq,Pz,if_false];have hM1:=XH hM C.env C.v0 n3;have hE1:cz (s.vars+(v:Int)) s.env:=C.env.mono (by omega);have hφ:∀n:Int,0<=n->n<(v:Int)->kT m.h.cells s.vars φ (n+(m.h.cells.length:Int))=s.vars+n:=fun n h0 h1=>by unfold kT;rw[ag (by omega)];omega
   have tell:∀(t:Tm)(a:Int),t.Good (v:Int)->Laid F id a t->Hr (m.h.cells++F.map (dA m.h.cells.length)) (kT m.h.cells s.vars φ) s.env (fun _=>True) ((m.h.cells.length:Int)+a) (dN t s.vars):=fun t a ht ha=>by have :=afb (v:=(v:Int)) C.env C.v0 (by have :=C.v1;omega) Fe hφ t _ ht (ae2 (H:=m.h.cells) t a ha);rwa[JD]at this
   have hhead:=tell head (v:Int) hcg.2.2.1.1 b3;have aps:Hr (m.h.cells++F.map (dA m.h.cells.length)) (kT m.h.cells s.vars φ) s.env (fun _=>True) gm.at_ g.t:=Rn C.good.1 hga.jF hga.tells;have Ik:Inb (m.h.cells++F.map (dA m.h.cells.length)) ((m.h.cells.length:Int)+(v:Int)):=by obtain⟨x,hx⟩:=hhead.looks;exact hx.start
   have apt:Inb (m.h.cells++F.map (dA m.h.cells.length)) gm.at_:=(Fb hga.jF).2;rw[afi hg1 Ik apt];have hIs:∀p∈[(dN head s.vars,g.t)],p.1.In (s.vars+(v:Int))/\p.2.In (s.vars+(v:Int)):=by intro p hp;simp only[gB]at hp;subst hp;exact⟨Hg hcg.2.2.1.1 Fe C.v0 (by have :=C.v1;omega),C.gt.mono (by omega)⟩
   have U:=aeR (N:=s.vars+(v:Int)) 400 [((m.h.cells.length:Int)+(v:Int),gm.at_)] [(dN head s.vars,g.t)] (m.h.cells++F.map (dA m.h.cells.length)) s.env m.h.trail hE1 hM1 ⟨⟨hhead,aps⟩,trivial⟩ hIs;have Il:=AU (N:=s.vars+(v:Int)) 400 [(dN head s.vars,g.t)] s.env hE1 hIs;have Im:=PV 400 [((m.h.cells.length:Int)+(v:Int),gm.at_)] (m.h.cells++F.map (dA m.h.cells.length)) m.h.trail;simp only at Im ⊢;generalize bD 400 [((m.h.cells.length:Int)+(v:Int),gm.at_)] (m.h.cells++F.map (dA m.h.cells.length)) m.h.trail=u at U Im ⊢;generalize bM 400 [(dN head s.vars,g.t)] s.env=u' at U Il ⊢;by_cases hw:u'.work<0;·rw[ai (show u.work<0 by rw[U.work];exact hw),ai hw];simp only[ne_eq,show ¬((3:Int)=0)by decide,not_false_eq_true,if_true];show m.out++_=s.out++_;rw[C.out]
   rw[ag (show ¬u.work<0 by rw[U.work];exact hw),ag hw];by_cases hok:u'.ok=false;·rw[ai (show u.ok=false by rw[U.ok];exact hok),ai hok];simp only[Pz,if_false,if_true];exact ih
   have hok':u.ok=true:=by rw[U.ok];simpa using hok
   rw[ag (show ¬u.ok=false by rw[hok'];decide),ag hok];obtain⟨vs,t1,t2,t3⟩:=U.trail hok';obtain⟨vs',t1',hB, -, -⟩:=Im hok';have hvs:vs'=vs:=List.append_cancel_left (t1'.symm.trans t1);subst hvs;have hel:=afh Il.1 (by have :=C.v0;omega);have htl:u.trail.length<=65536:=by rw[t1,bT];have :=C.tr;have :=C.v1;omega
   rw[ag (show ¬65536<u.trail.length by omega)];simp only[ne_eq,Pz,if_false,Bool.true_eq_false];have afm:∀a,Inb (m.h.cells++F.map (dA m.h.cells.length)) a->(cellAt (m.h.cells++F.map (dA m.h.cells.length)) a).kind≠0->cellAt u.cells a=cellAt (m.h.cells++F.map (dA m.h.cells.length)) a/\Inb u.cells a:=fun a ha hk=>afj hB ha hk;have apu:∀a t,kU s.vars m.h.cells φ s.env a t->kU (s.vars+(v:Int)) u.cells (kT m.h.cells s.vars φ) u'.env a t:=fun a t h=>by have hl:=Fb (F:=F) h.jF;obtain⟨k1,k2⟩:=afm a hl.2 (by rw[hl.1];exact h.kind);exact h.move (by omega) (k1.trans hl.1) k2 (U.tells hok' a t (h.zW.mono (by omega)) (Rn C.good.1 h.jF h.tells))
   have apv:∀(j:Nat)(hj:j<(body.map fun t=>dN t s.vars).length),∃a,(aV (bE (aP v) head) body).2[j]?=some a/\kU (s.vars+(v:Int)) u.cells (kT m.h.cells s.vars φ) u'.env ((m.h.cells.length:Int)+a) (body.map fun t=>dN t s.vars)[j]:=fun j hj=>by
    have hj':j<body.length:=by simpa using hj
    obtain⟨a,e1,e2⟩:=n4 j hj';obtain⟨a',f1,f2⟩:=b4 j hj';rw[e1]at f1;obtain rfl:=acg f1;have hbj:=hbody _ (bO hj');have hkne:=jw.ne hbj.1;obtain⟨c1,c2⟩:=yO e2;obtain⟨d1,d2⟩:=Dj (H:=m.h.cells) c2;rw[c1,Bn _ (by simpa using hkne),JD]at d1;rw[JD]at d2;obtain⟨k1,k2⟩:=afm _ d2 (by rw[d1];simpa using hkne);have hin:=Hg (d:=s.vars) hbj.2 Fe C.v0 (by have :=C.v1;omega);obtain⟨p1,p2,p3⟩:=afl body[j] s.vars hkne;refine⟨(a:Int),e1,?_⟩;rw[PH];exact⟨k2,by rw[k1,d1,p1,p2,p3],apr hbj.1,hin,U.tells hok' _ _ hin (tell _ _ hbj.2 f2)⟩
   have hrest:nS (s.vars+(v:Int)) u.cells (kT m.h.cells s.vars φ) u'.env m.goals gm.next rest:=hch.imp (fun _ _=>rfl) (zL _) apu;have vH:=yg body (bE (aP v) head);obtain⟨p1,p2,p3⟩:=XM (base:=(m.h.cells.length:Int)) (bar:=m.choices.length) hrest (aV (bE (aP v) head) body).2 (body.map fun t=>dN t s.vars) (by simpa using vH) apv;rw[Vq]at p1;have Xe:u.cells.length=m.h.cells.length+F.length:=by rw[hB.1];simp
   have hold:∀top tr,top<=m.h.cells.length->tr<=m.h.trail.length->eu ⟨u.cells,u.trail⟩ top tr=eu m.h top tr:=fun top tr h1 h2=>by rw[t1];exact XK hB h1 h2
   obtain⟨hE2,F2,hF2, -⟩:=Il;have htake:∀k,k<=s.env.length->u'.env.take k=s.env.take k:=fun k hk=>by rw[hF2,abW hk]
   have XO:=C.cO.len;have LF:kG ⟨u.cells,u.trail⟩ u'.env (s.vars+(v:Int)) q m.query (eX (m.h.cells.length:Int) m.choices.length (aV (bE (aP v) head) body).2 m.goals gm.next).1 m.choices s.choices:=C.cO.imp fun c d hc hd k=>k.move (hold _ _ k.top k.tr) (by simp only;have :=k.top;omega) (by simp only[t1,bT];have :=k.tr;omega) (htake _ k.zX) (by rw[hF2,bT];have :=k.zX;omega) (by omega) p3 p2;have hnew:Both q (.next,{m with h:=⟨u.cells,u.trail⟩,choices:=if kP P g.t (P.length - (k+1)) (k+1)<P.length then⟨kk,kP P g.t (P.length - (k+1)) (k+1),m.h.cells.length,m.h.trail.length⟩::m.choices else m.choices,goals:=(eX (m.h.cells.length:Int) m.choices.length (aV (bE (aP v) head) body).2 m.goals gm.next).1,now:=(eX (m.h.cells.length:Int) m.choices.length (aV (bE (aP v) head) body).2 m.goals gm.next).2}) (.next (xX s.choices.length s.vars body rest),{s with env:=u'.env,choices:=if kP P g.t (P.length - (k+1)) (k+1)<P.length then⟨g::rest,kP P g.t (P.length - (k+1)) (k+1),s.env.length⟩::s.choices else s.choices,vars:=s.vars+(v:Int)}):=by
    refine⟨?_,C.fuel,C.out,?_,?_,?_,?_,?_,by have :=C.lL;have h5:body.length<=5:=hcg.1.2.2.1;simp only[LD,vH];omega⟩;·simp only;rw[t1]at htl ⊢;exact afk hg1 hB (fun x hx=>(t3 x hx).1) htl
    ·simp only[t1,bT];have :=C.tr;omega
    ·refine⟨kT m.h.cells s.vars φ,U.Lx hok',fun w hw=>?_,?_⟩
     ·obtain⟨q1,q2⟩:=hq w hw;refine⟨?_,?_⟩;·unfold Inb at q1 ⊢;simp only;omega
      ·exact U.tells hok' _ _ (.var _ (by omega) (by have :=C.qv;omega)) (Rn C.good.1 q1 q2)
     ·unfold xX;rw[<-XO];exact p1
    ·by_cases hmore:kP P g.t (P.length - (k+1)) (k+1)<P.length
     ·simp only[ai hmore];refine⟨⟨rfl,by simp only;omega,by simp only[t1,bT];omega,C.tr,by rw[hF2,bT];simp only;omega,?_,?_⟩,fun x hx=>?_,LF⟩;·simp only;rw[hold _ _ (zL _) (zL _),aff];exact C.good
      ·simp only;rw[hold _ _ (zL _) (zL _),aff,htake _ (zL _),jd];exact C.cur.mono (by omega) p3 p2
      ·obtain⟨d,_,hd⟩:=C.cO.mem x hx;exact⟨hd.top,hd.tr⟩
     ·simp only[ag hmore];exact LF
    ·simp only;have :=C.bY;omega
    ·intro x hx;simp only at hx ⊢;split at hx
     ·rcases gK.1 hx with rfl|hx;·exact C.bY
      ·exact C.mW x hx
     ·exact C.mW x hx
   exact hnew
  ·rw[ai (fun h=>Rq (hls.1 h)),ai Rq];exact ih
open Go.RowKit
section
variable {P : Program} {ops : Array Oper} {Q : Exit → Act → World → Prop}
def Rs(ops:Array Oper)(L:Nat)(ps:Nat->Bool):Bool:=decide (L<=ops.size)&&(List.range ops.size).all fun i=>decide (i<L)||(List.range L).all fun k=>ps k||waits ops i k
def Io(ops:Array Oper)(L:Nat)(ps:Nat->Bool):Bool:=Region.noSelect ops&&(List.range L).all fun p=>!ps p||(List.range ops.size).all fun j=>j==p||waits ops j p||waits ops p j||(match ops[p]?,ops[j]? with|some oi,some oj=>oi.apart ops oj|_,_=>false)
theorem apw{L:Nat}{ps:Nat->Bool}{a0:Act}{Inv:World->Prop}{Po:Nat->Value->World->Prop}{Rl:World->World->Prop}(ht:Rs ops L ps=true)(hap:Io ops L ps=true)(hQ:∀c(a:Act)t w,Q (.panic c) ⟨t,a.defers⟩ w->Q (.panic c) a w)(hd:CE ops L a0.tmps.size=true)(hst:∀i v w w',Po i v w->Rl w w'->Po i v w')(hinv:∀w w',Inv w->Rl w w'->Inv w')(yJ:∀i o,i<L->ps i=true->ops[i]?=some o->∀(f:Nat->Value)(a:Act)(w:World),Inv w->(∀k,waits ops i k=true->Po k (f k) w)->(∀k s,waits ops i k=true->bF ops k=some s->a.tmps[s]?=some (f k))->(∀s,rP ops L s=true->a.tmps[s]?=a0.tmps[s]?)->∃v,Yields P ops o v a/\Po i v w)(hop:∀i,i<L->ps i=false->∀(f:Nat->Value)(a:Act)(w:World),Inv w->(∀k,waits ops i k=true->Po k (f k) w)->(∀k s,waits ops i k=true->bF ops k=some s->a.tmps[s]?=some (f k))->(∀s,rP ops L s=true->a.tmps[s]?=a0.tmps[s]?)->wpOp P ops Q i (fun a' w'=>∃v,a'=a.put (bF ops i) v/\Po i v w'/\Rl w w') a w)(hend:∀(f:Nat->Value)(w:World),Inv w->(∀i,i<L->Po i (f i) w)->wpAny P .any ops Q (ops.size - L) (List.replicate L true++List.replicate (ops.size - L) false).toArray ⟨gY f 0 (ops.toList.take L) a0.tmps,a0.defers⟩ w)(hbk:uZ ops=true):∀(fuel:Nat)(f:Nat->Value)(listed:Array Bool)(a:Act)(w:World),listed.size=ops.size->(listed.toList.filter (· ==false)).length=fuel->Inv w->CF ops L Po a0 f listed a w->wpAny P .any ops Q fuel listed a w:=by
 obtain⟨hlt,xY⟩:=VP hd;unfold Rs at ht;simp only[rq,Ed,qo,ko,Gf]at ht;obtain⟨hL,Kj⟩:=ht;unfold Io at hap;simp only[rq]at hap;obtain⟨hsel,hap⟩:=hap;have close:∀(fuel:Nat)(f:Nat->Value)(listed:Array Bool)(a:Act)(w:World),listed.size=ops.size->(listed.toList.filter (· ==false)).length=fuel->Inv w->CF ops L Po a0 f listed a w->(∀k,k<L->listed.getD k false=true)->wpAny P .any ops Q fuel listed a w:=by
  intro fuel f listed a w hls hn hw hc hall;have hl:listed=(List.replicate L true++List.replicate (ops.size - L) false).toArray:=by
   apply Array.ext;·simp;omega
   ·intro i h1 h2;have h3:listed.getD i false=listed[i]:=by simp[Array.getD,h1]
    by_cases hi:i<L;·have h4:=hall i hi;rw[h3]at h4;rw[h4];simp only[Pw];rw[Eb (by simpa using hi)];simp
    ·have h4:listed[i]=false:=by cases hx:listed[i]with|false=>rfl|true=>exact absurd (hc.front i (by rw[h3];exact hx)) hi
     rw[h4];simp only[Pw];rw[Ea (by simp;omega)];simp
  have hf:fuel=ops.size - L:=by rw[<-hn,hl];simp
  have :a=⟨gY f 0 (ops.toList.take L) a0.tmps,a0.defers⟩:=by
   obtain⟨t,d⟩:=a;have h1:=hc.defers;have h2:=hc.size;simp only at h1 h2;subst h1;congr 1;refine ab4 fun s=>?_;have hto:∀(k:Nat)(o:Oper),(ops.toList.take L)[k]?=some o->k<L/\ops[k]?=some o:=fun k o hk=>by have hkl:=(gT.1 hk).1;simp only[eY]at hkl;rw[qj (by omega),mr]at hk;exact⟨by omega,hk⟩
   by_cases hs:s<a0.tmps.size
   ·have hg:=Ki f s (ops.toList.take L) 0 a0.tmps hs;by_cases he:∃k,k<L/\bF ops k=some s
    ·obtain⟨k,jB,hk⟩:=he;have hkl:=Ep hk;have e1:=(hc.new k jB (hall k jB)).2 s hk;simp only at e1;rw[e1];have hko:ops[k]?=some ops[k]:=pg hkl;have hkd:ops[k].dst=some s:=by unfold bF at hk;rw[hko]at hk;simpa using hk
     rw[hg.2 k ops[k] (by rw[qj jB,mr];exact hko) hkd (fun j o' hj hd'=>by obtain⟨Er,hj'⟩:=hto j o' hj;exact xY j k s Er jB hk (by unfold bF;rw[hj'];simpa using hd'))];simp
    ·rw[hg.1 (fun k o hk hd'=>by obtain⟨jB,hk'⟩:=hto k o hk;exact he ⟨k,jB,by unfold bF;rw[hk'];simpa using hd'⟩)];exact hc.old s (fun k hkl hk=>he ⟨k,hc.front k hkl,hk⟩)
   ·rw[Ck (by omega),Ck (by rw[Kh];omega)]
  rw[this,hl,hf];exact hend f w hw fun i hi=>(hc.new i hi (hall i hi)).1
 intro fuel;induction fuel with
  |zero=>
   intro f listed a w hls hn hw hc;refine close 0 f listed a w hls hn hw hc fun k hk=>?_;have h0:listed.toList.filter (· ==false)=[]:=Pn.1 hn;rw[Ve]at h0;have h1:k<listed.size:=by omega
   have h3:=h0 listed[k] (by simp);simp[Array.getD,h1];simpa using h3
  |succ fuel ih=>
   intro f listed a w hls hn hw hc;by_cases hall:∀k,k<L->listed.getD k false=true;·exact close _ f listed a w hls hn hw hc hall
   have ayp:∀k,listed.getD k false=true->k<ops.size:=fun k hk=>ab3 (hc.front k hk) hL;have step:∀(i:Nat)(v:Value)(w':World),i<L->listed.getD i false=false->Po i v w'->(∀k u,Po k u w->Po k u w')->CF ops L Po a0 (fun k=>if k=i then v else f k) (listed.setIfInBounds i true) (a.put (bF ops i) v) w':=by
    intro i v w' lZ hif hp hr;have hset:∀k,(listed.setIfInBounds i true).getD k false=true->k=i\/(k≠i/\listed.getD k false=true):=fun k hk=>by
     by_cases hki:k=i;·exact .inl hki
     ·refine .inr ⟨hki,?_⟩;rwa[ry false (tO hki)]at hk
    refine⟨?_,?_,fun s hs=>?_,fun k hk hl=>?_,fun k hk=>?_⟩;·unfold Act.put;split<;>exact hc.defers
    ·unfold Act.put;split<;>simp[hc.size]
    ·have h1:bF ops i≠some s:=hs i (by rw[D9,Cg (by omega)];rfl);rw[show(a.put (bF ops i) v).tmps[s]?=a.tmps[s]? by unfold Act.put;cases hdi:bF ops i with|none=>rfl|some d=>simp only;rw[Ci (by rintro rfl;exact h1 hdi)]];refine hc.old s fun k hk=>hs k ?_;by_cases hki:i=k;·subst hki;rw[hif]at hk;cases hk
     ·rwa[ry false hki]
    ·rcases hset k hl with rfl|⟨hki,hk2⟩;·simp only[if_true];refine⟨hp,fun s hs=>?_⟩;unfold Act.put;rw[hs];simp only;rw[Cg (by rw[hc.size];exact hlt k s hk hs)]
     ·simp only[ag hki];obtain⟨h1,h2⟩:=hc.new k hk hk2;refine⟨hr k _ h1,fun s hs=>?_⟩;unfold Act.put;cases hdi:bF ops i with|none=>exact h2 s hs|some d=>simp only;rw[Ci (by rintro rfl;exact hki (xY k i _ hk lZ hdi hs))];exact h2 s hs
    ·rcases hset k hk with rfl|⟨_,hk2⟩;·exact lZ
     ·exact hc.front k hk2
   have count:∀i,i<L->listed.getD i false=false->((listed.setIfInBounds i true).toList.filter (· ==false)).length=fuel:=by
    intro i lZ hif;have h2:listed.toList[i]?=some false:=by
     have h3:i<listed.size:=by omega
     simp only[Array.getD,h3,AB]at hif;rw[mr,pg h3];exact congrArg some hif
    have h4:∀(l:List Bool)(i:Nat),l[i]?=some false->((l.set i true).filter (· ==false)).length+1=(l.filter (· ==false)).length:=by intro l;induction l with|nil=>intro i h;simp at h|cons b r ihr=>intro i h;cases i with|zero=>simp only[uO,dm]at h;subst h;simp|succ i=>have :=ihr i (by simpa using h);cases b<;>simp_all
    have h5:=h4 _ _ h2;rw[Va];omega
   have known:∀i oi,ops[i]?=some oi->(∀e∈oi.after,Region.binds .any e=true->listed.getD e.on false=true)->∀k,waits ops i k=true->listed.getD k false=true:=by intro i oi hoi rO k hk;simp only[waits,hoi,pq,nW]at hk;obtain⟨e,he,hb⟩:=Jv.1 hk;simp only[rq,xN]at hb;rw[<-hb.2];exact rO e he hb.1
   have Fj:∀i,i<ops.size->listed.getD i true=false->listed.getD i false=false:=fun i hi nE=>by
    have :i<listed.size:=by omega
    simp only[Array.getD,this,AB]at nE ⊢;exact nE
   by_cases hA:∃p,p<L/\ps p=true/\p∈Region.ready .any ops listed
   ·obtain⟨p,Bt,hps,hrd⟩:=hA;obtain⟨nE,oi,hoi,rO⟩:=mem_ready.1 hrd;have hpl:p<ops.size:=(wB.1 hoi).1;have hif:=Fj p hpl nE;have hw1:=known p oi hoi rO;obtain⟨v,hy,hpo⟩:=yJ p oi Bt hps hoi f a w hw (fun k hk=>(hc.new k (hc.front k (hw1 k hk)) (hw1 k hk)).1) (fun k s hk hs=>(hc.new k (hc.front k (hw1 k hk)) (hw1 k hk)).2 s hs) (fun s hs=>hc.old s fun k hk hks=>by unfold rP at hs;simp only[qo,ko,Gh]at hs;exact hs k (hc.front k hk) hks);have hd':bF ops p=oi.dst:=by simp[bF,hoi]
    refine wpAny_first hoi (al0 hsel) (fun c a w h=>by unfold Act.put at h;split at h<;>first|exact hQ c a _ w h|exact h) fuel listed a w (fun j oj hoj hjp hjun hnw=>?_) hrd hy ?_
    ·have h1:=qo.1 hap p (ko.2 Bt);simp only[hps,acs,acu,qo,ko]at h1;have h2:=h1 j (wB.1 hoj).1;simp only[Gf,xN]at h2;rcases h2 with((h2|h2)|h2)|h2;·exact absurd h2 hjp
     ·exfalso;simp only[waits,hoj,pq,nW]at h2;obtain⟨e,he,hb⟩:=Jv.1 h2;simp only[rq,xN]at hb;exact hnw e he hb.1 hb.2
     ·exfalso;have h3:=hw1 j h2;have h4:=Fj j (wB.1 hoj).1 hjun;rw[h4]at h3;cases h3
     ·rw[hoi,hoj]at h2;exact h2
    ·rw[<-hd'];exact ih (fun k=>if k=p then v else f k) _ _ _ (by simpa using hls) (count p Bt hif) hw (step p v w Bt hif hpo (fun k u h=>h))
   refine⟨fun hr=>?_,fun i hi=>?_⟩;·exfalso;refine hall fun k hk=>?_;exact Qf hbk listed hls hr k (by omega)
   obtain⟨nE,oi,hoi,rO⟩:=mem_ready.1 hi;have hil:i<ops.size:=(wB.1 hoi).1;have hw1:=known i oi hoi rO;have hif:=Fj i hil nE;have lZ:i<L:=by
    refine F6 fun hge=>hall fun k=>?_;induction k using Nat.strongRecOn with
     |_ k ihk=>
      intro hk;cases hps:ps k with
       |false=>
        rcases Kj i hil with h1|h1;·exact absurd h1 hge
        ·rcases h1 k hk with h2|h2;·rw[hps]at h2;cases h2
         ·exact hw1 k h2
       |true=>
        refine F6 fun hun=>hA ⟨k,hk,hps,?_⟩;have hko:ops[k]?=some (ops[k]'(by omega)):=pg (by omega);refine mem_ready.2 ⟨?_,_,hko,fun e he hb=>?_⟩
        ·have h3:k<listed.size:=by omega
         simp only[Array.getD,h3,AB]at hun ⊢;simpa using hun
        ·have hlt':e.on<k:=by unfold uZ at hbk;rw[qo]at hbk;have h1:=hbk k (ko.2 (by omega));rw[hko]at h1;simp only[pq,nW,axI]at h1;have h2:=h1 e he;simp only[hb,acs,acu,Ed]at h2;exact h2
         exact ihk e.on hlt' (by omega)
   have XP:ps i=false:=by cases hps:ps i with|false=>rfl|true=>exact absurd ⟨i,lZ,hps,hi⟩ hA
   refine PN ?_ (hop i lZ XP f a w hw (fun k hk=>(hc.new k (hc.front k (hw1 k hk)) (hw1 k hk)).1) (fun k s hk hs=>(hc.new k (hc.front k (hw1 k hk)) (hw1 k hk)).2 s hs) (fun s hs=>hc.old s fun k hk hks=>by unfold rP at hs;simp only[qo,ko,Gh]at hs;exact hs k (hc.front k hk) hks));rintro a' w'⟨v,rfl,hp,hr⟩;exact ih (fun k=>if k=i then v else f k) _ _ _ (by simpa using hls) (count i lZ hif) (hinv _ _ hw hr) (step i v w' lZ hif hp (fun k u h=>hst k u _ _ h hr))
theorem apx{id:Nat}(L:Nat)(ps:Nat->Bool){a0:Act}{w0:World}{Inv:World->Prop}{Po:Nat->Value->World->Prop}{Rl:World->World->Prop}(hm:P.follows .mixedOrders=true)(ht:Rs ops L ps=true)(hap:Io ops L ps=true)(hQ:∀c(a:Act)t w,Q (.panic c) ⟨t,a.defers⟩ w->Q (.panic c) a w)(hd:CE ops L a0.tmps.size=true)(hbk:uZ ops=true)(h0:Inv w0.drew)(hst:∀i v w w',Po i v w->Rl w w'->Po i v w')(hinv:∀w w',Inv w->Rl w w'->Inv w')(yJ:∀i o,(ops.toList.take L)[i]?=some o->ps i=true->∀(f:Nat->Value)(a:Act)(w:World),Inv w->(∀k,waits ops i k=true->Po k (f k) w)->(∀k s,waits ops i k=true->bF ops k=some s->a.tmps[s]?=some (f k))->(∀s,rP ops L s=true->a.tmps[s]?=a0.tmps[s]?)->∃v,Yields P ops o v a/\Po i v w)(hop:∀i o,(ops.toList.take L)[i]?=some o->ps i=false->∀(f:Nat->Value)(a:Act)(w:World),Inv w->(∀k,waits ops i k=true->Po k (f k) w)->(∀k s,waits ops i k=true->bF ops k=some s->a.tmps[s]?=some (f k))->(∀s,rP ops L s=true->a.tmps[s]?=a0.tmps[s]?)->(Region.wanted o (yielded ops a.tmps)=true/\aI P a.eval o w (fun v w'=>Po i v w'/\Rl w w'))\/(Region.wanted o (yielded ops a.tmps)=false/\Po i undef w/\Rl w w))(hend:∀(f:Nat->Value)(w:World),Inv w->(∀i,i<L->Po i (f i) w)->wpAny P .any ops Q (ops.size - L) (List.replicate L true++List.replicate (ops.size - L) false).toArray ⟨gY f 0 (ops.toList.take L) a0.tmps,a0.defers⟩ w):(Code.region id ops true).wp P Q a0 w0:=by
 have hno:∀k,(Array.replicate ops.size false).getD k false=false:=fun k=>by simp only[D9,abX];split<;>rfl
 have hL:L<=ops.size:=by have ht2:=ht;unfold Rs at ht2;simp only[rq,Ed]at ht2;exact ht2.1
 refine Vp hm (apw ht hap hQ hd hst hinv (fun i o hi hps ho f a w h1 h2 h3 h4=>yJ i o (by rw[qj hi,mr];exact ho) hps f a w h1 h2 h3 h4) (fun i hi hps f a w h1 h2 h3 h4=>?_) hend hbk ops.size (fun _=>undef) (Array.replicate ops.size false) a0 w0.drew (by simp) ?_ h0 ⟨rfl,rfl,fun _ _=>rfl,fun k _ hk=>?_,fun k hk=>?_⟩)
 ·have hil:i<ops.size:=by omega
  exact Qg (pg hil) (hop i _ (by rw[qj hi,mr,pg hil]) hps f a w h1 h2 h3 h4)
 ·simp
 ·rw[hno]at hk;cases hk
 ·rw[hno]at hk;cases hk
end
