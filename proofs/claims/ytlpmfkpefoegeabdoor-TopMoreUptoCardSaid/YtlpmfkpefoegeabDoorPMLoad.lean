import Derived.Test.YtlpmfkpefoegeabDoorHCode2
import Derived.Test.YtlpmfkpefoegeabDoorPPrint
import Derived.Test.YtlpmfkpefoegeabDoorPMMor
namespace Go.Proofs.YtlpmfkpefoegeabDoor
set_option maxRecDepth 100000
set_option maxHeartbeats 16000000
set_option linter.all false
theorem Ce.OkAt.more{N M i:Nat}{c:Ce}(h:c.OkAt N i)(hM:N<=M):c.OkAt M i:=by
 rcases h with⟨h1,h2,h3,h4⟩|h|h|⟨h1,h2,h3,h4,h5⟩;·exact .inl ⟨h1,h2,by omega,h4⟩
 ·exact .inr (.inl h)
 ·exact .inr (.inr (.inl h))
 ·exact .inr (.inr (.inr ⟨h1,h2,h3,by omega,h5⟩))
theorem Ce.OkAt.moved{N i b:Nat}{c:Ce}(h:c.OkAt N i):(shC b c).OkAt (b+N) (b+i):=by
 rcases h with⟨h1,h2,h3,h4⟩|⟨h1,h2,h3⟩|⟨h1,h2⟩|⟨h1,h2,h3,h4,h5⟩
 ·refine .inl ⟨by rw[Zd8];exact h1,?_,?_,?_⟩;·rw[Zlb _ h1];omega
  ·rw[Zlb _ h1];omega
  ·unfold shC;rw[if_pos h1];exact h4
 ·rw[Zcx _ (by rw[h1];decide)];exact .inr (.inl ⟨h1,h2,h3⟩)
 ·rw[Zcx _ (by rw[h1];decide)];exact .inr (.inr (.inl ⟨h1,h2⟩))
 ·rw[Zcx _ (by rw[h1];decide)];exact .inr (.inr (.inr ⟨h1,h2,h3,by omega,h5⟩))
theorem Zgv{h:Hp}{F:List Ce}(hg:h.Good)(hF:GoodC F)(hl:h.cells.length+F.length<=65536):Hp.Good ⟨h.cells++F.map (shC h.cells.length),h.trail⟩:=by
 obtain⟨g1,g2,g3,g4⟩:=hg;refine⟨fun i hi=>?_,fun j hj=>?_,by simpa using hl,g4⟩
 ·simp only[List.length_append,List.length_map]at hi ⊢;rw[List.getElem_append];split;·rename_i hl2;exact(g1 i hl2).more (by omega)
  ·rename_i hl2;rw[List.getElem_map];have :=(hF (i - h.cells.length) (by omega)).moved (b:=h.cells.length);rwa[show h.cells.length+(i - h.cells.length)=i by omega]at this
 ·obtain⟨v,e,hv,hk⟩:=g2 j hj;refine⟨v,e,by simp;omega,?_⟩;simp only;rw[List.getElem_append_left hv];exact hk
theorem ZeP(t:Tm)(c:List Ce):c.length<(ZaH c t).length:=by
 unfold ZaH;split;·obtain⟨k,n,s,l⟩:=t;have h1:=(ZbG l (c++⟨3,(l.length:Int),s⟩::List.replicate l.length ⟨0,0,ByteArray.empty⟩) (c.length+1)).1;simp only[List.length_append,List.length_cons,List.length_replicate]at h1;simp only[Zdh];omega
 ·rename_i h;rw[ZdF h];simp
theorem Zhe{h:Tm}{l:List Tm}{n:Nat}(hg:(⟨h,l,(n:Int)⟩:Cl).Good)(F:List Ce)(hF:F=(Zak (ZaH (ZaR n) h) l).1):F.length<=296/\GoodC F/\Laid F id (n:Int) h/\∀(j:Nat)(hj:j<l.length),∃a,(Zak (ZaH (ZaR n) h) l).2[j]?=some a/\Laid F id a l[j]:=by
 obtain⟨⟨v0,v8,l5,lg⟩, -,hft, -⟩:=hg;simp only at v0 v8 l5 lg hft;have hnd:=ZdH l (fun g hg=>(lg g hg).2.2);have h1:=ZdG h (ZaR n);have h1p:=ZeP h (ZaR n);have h2:=ZbB l (ZaH (ZaR n) h);rw[ZaQ]at h1 h1p;have hh:=hft.2;rw[<-hF]at h2;have hlg:∀t∈l,t.Good (n:Int):=fun t ht=>(lg t ht).2.1;have hva:ZfC F n:=fun i hi=>by rw[hF,ZcC l _ i (by omega),Zix h _ i (by rw[ZaQ];exact hi)];exact ZiB n i hi
 refine⟨by omega,?_,?_,?_⟩;·have hok:=Zfm (v:=n) (N:=F.length) (by omega) (by omega) l (ZaH (ZaR n) h) hlg (ZiA (v:=n) (by omega) h _ hft.1 (Zmb (by omega)) (by omega) (by omega)) (by rw[<-hF];exact zL _);rw[<-hF]at hok;intro i hi;exact hok i _ (List.getElem?_eq_getElem hi)
 ·have :=Ziy n h (ZaR n) F hft.1 (by rw[ZaQ];exact zL _) hva (fun i hi hil=>by rw[hF];exact ZcC l _ i hil);rw[ZaQ]at this;exact this
 ·exact Zfl n F hva l (ZaH (ZaR n) h) hlg (by omega) (fun i hi hil=>by rw[hF])
def NF(v:Nat)(c:List Ce):Prop:=∀(i:Nat)(x:Ce),c[i]?=some x->v<=i->x.kind=0->x.n≠(i:Int)
theorem NF.set{v:Nat}{c:List Ce}(h:NF v c){k:Nat}{x:Ce}(hx:x.kind=0->x.n≠(k:Int)):NF v (c.set k x):=by
 intro i y hy hv hk;by_cases e:k=i
 ·subst e;by_cases hl:k<c.length;·rw[List.getElem?_set_self hl]at hy;obtain rfl:=zI hy;exact hx hk
  ·rw[List.getElem?_eq_none (by simp;omega)]at hy;cases hy
 ·rw[List.getElem?_set_ne e]at hy;exact h i y hy hv hk
theorem NF.frame{v:Nat}{c:List Ce}(h:NF v c)(s:ByteArray)(m:Nat):NF v (c++⟨3,(m:Int),s⟩::List.replicate m ⟨0,0,ByteArray.empty⟩):=by
 intro i y hy hv hk;by_cases hl:i<c.length;·rw[List.getElem?_append_left hl]at hy;exact h i y hy hv hk
 ·rw[List.getElem?_append_right (by omega)]at hy;obtain⟨j,hj⟩:∃j,j=i - c.length:=⟨_,rfl⟩;rw[<-hj]at hy;cases j with
   |zero=>simp only[List.getElem?_cons_zero,Option.some.injEq]at hy;subst hy;simp at hk
   |succ j=>
    rw[List.getElem?_cons_succ,List.getElem?_replicate]at hy;split at hy;·obtain rfl:=zI hy;simp only;omega
    ·cases hy
mutual
theorem Zpy (v : Nat) : ∀ (t : Tm) (c : List Ce) (k : Nat), t.Good (v : Int) → NF v c → v ≤ k → k < c.length → NF v (Zcw c k t)
  | .mk kd n s l, c, k, hg, h, hv, hk => by
    rw [Zcw]
    split
    · refine h.set fun _ => ?_
      have := Tm.In.n (t := .mk kd n s l) hg (by assumption)
      simp only [Tm.n] at this
      simp only
      omega
    · split
      · exact h.set fun h => by simp at h
      · split
        · exact h.set fun h => by simp at h
        · split
          · have hl : ∀ t ∈ l, t.Good (v : Int) := fun t ht => Tm.In.arg (t := .mk kd n s l) hg ht
            exact Zjh v l _ _ hl ((h.set (fun _ => by simp only; omega)).frame s l.length) (by omega) (by simp; omega)
          · exact h
theorem Zjh (v : Nat) : ∀ (l : List Tm) (c : List Ce) (k : Nat), (∀ t ∈ l, t.Good (v : Int)) → NF v c → v ≤ k → k + l.length ≤ c.length → NF v (Zbg c k l)
  | [], c, k, _, h, _, _ => by rw [Zbg]; exact h
  | t :: r, c, k, hl, h, hv, hk => by
    rw [Zbg]
    simp only [List.length_cons] at hk
    have := Zep t c k
    exact Zjh v r _ _ (fun x hx => hl x (by simp [hx])) (Zpy v t c k (hl t (by simp)) h hv (by omega)) (by omega) (by omega)
end
theorem Zji(v:Nat)(t:Tm)(c:List Ce)(hg:t.Good (v:Int))(hk:t.IsGoal)(h:NF v c)(hv:v<=c.length):NF v (ZaH c t)/\(ZaH c t)[c.length]?=some ⟨t.kind,(t.args.length:Int),t.s⟩:=by
 obtain⟨kd,n,s,l⟩:=t;rcases hk with hk|hk<;>simp only[Tm.kind]at hk<;>subst hk
 ·have e0:ZaH c (.mk 1 n s l)=(c++[(⟨0,0,ByteArray.empty⟩:Ce)]).set c.length ⟨1,0,s⟩:=by simp[ZaH,Tm.kind,Zcw]
  rw[e0];show _/\_=some (⟨1,(l.length:Int),s⟩:Ce);have hl:l=[]:=by cases hg;rfl
  subst hl;have e:(c++[(⟨0,0,ByteArray.empty⟩:Ce)]).set c.length ⟨1,0,s⟩=c++[⟨1,0,s⟩]:=by rw[List.set_append_right _ _ (zL _)];simp
  rw[e];refine⟨fun i y hy hv hk=>?_,by simp⟩;by_cases hl:i<c.length;·rw[List.getElem?_append_left hl]at hy;exact h i y hy hv hk
  ·rw[List.getElem?_append_right (by omega)]at hy;cases hq:i - c.length with|zero=>rw[hq]at hy;simp only[List.getElem?_cons_zero,Option.some.injEq]at hy;subst hy;simp at hk|succ j=>rw[hq]at hy;simp at hy
 ·have e0:ZaH c (.mk 3 n s l)=Zbg (c++⟨3,(l.length:Int),s⟩::List.replicate l.length ⟨0,0,ByteArray.empty⟩) (c.length+1) l:=by simp[ZaH,Tm.kind,Zdh]
  rw[e0];show _/\_=some (⟨3,(l.length:Int),s⟩:Ce);have hl:∀t∈l,t.Good (v:Int):=fun t ht=>Tm.In.arg (t:= .mk 3 n s l) hg ht;refine⟨Zjh v l _ _ hl (h.frame s l.length) (by omega) (by simp;omega),?_⟩;rw[Zcj l _ _ c.length (by simp) (by omega),List.getElem?_append_right (zL _)];simp
theorem ZfT(v:Nat):∀(l:List Tm)(c:List Ce),(∀t∈l,t.IsGoal/\t.Good (v:Int))->NF v c->v<=c.length->NF v (Zak c l).1/\∀(j:Nat)(hj:j<l.length),∃a:Nat,(Zak c l).2[j]?=some (a:Int)/\(Zak c l).1[a]?=some ⟨l[j].kind,(l[j].args.length:Int),l[j].s⟩|[],c,_,h,_=>⟨h,fun j hj=>by simp at hj⟩|t::r,c,hl,h,hv=>by have hp:=ZeP t c;obtain⟨k1,k2⟩:=Zji v t c (hl t (by simp)).2 (hl t (by simp)).1 h hv;obtain⟨k3,k4⟩:=ZfT v r (ZaH c t) (fun x hx=>hl x (by simp[hx])) k1 (by omega);simp only[Zak];refine⟨k3,fun j hj=>?_⟩;cases j with|zero=>exact⟨c.length,rfl,by rw[ZcC r _ _ hp];exact k2⟩|succ j=>obtain⟨a,e1,e2⟩:=k4 j (by simpa using hj);exact⟨a,by simpa using e1,by simpa using e2⟩
theorem Zjj(n:Nat):NF n (ZaR n):=fun i x hx hv _=>by rw[List.getElem?_eq_none (by rw[ZaQ];exact hv)]at hx;cases hx
section
variable {l F : List Ce} {φ : Int → Int} {E : Env} {N : Int}
def Zgw(l:List Ce)(N:Int)(φ:Int->Int)(x:Int):Int:=if x<l.length then φ x else N+(x - l.length)
theorem ZbJ{a:Int}(h:Inb l a):Zaa (l++F.map (shC l.length)) a=Zaa l a/\Inb (l++F.map (shC l.length)) a:=by obtain⟨k,rfl,hk,e⟩:=ZaY h;rw[ZaC (show k<(l++F.map (shC l.length)).length by simp;omega),List.getElem_append_left hk,e];exact⟨rfl,zN _,by simp;omega⟩
theorem ZnD(hg:GoodC l):Mor l (l++F.map (shC l.length)) (Inb l) id:=by
 have hok:∀a,Inb l a->(Zaa l a).OkAt l.length a.toNat:=fun a ha=>by obtain⟨k,rfl,hk,e⟩:=ZaY ha;rw[e,Int.toNat_natCast];exact hg k hk
 refine⟨fun a ha=>⟨ha,(ZbJ ha).2⟩,fun a ha=>?_,fun a ha hk=>?_,fun a ha hk i hi=>?_,fun a b _ _ h=>h⟩;·show Zaa _ a=_;rw[(ZbJ ha).1];unfold mvC;split<;>rfl
 ·have :=hok a ha;unfold Ce.OkAt at this;unfold Inb;omega
 ·have h1:=hok a ha;unfold Ce.OkAt at h1;have :=ha.1;exact⟨⟨by omega,by omega⟩,rfl⟩
theorem ZeQ{v:Nat}(hF:NF v F){x:Int}(h:Free (l++F.map (shC l.length)) x):(x<l.length/\Free l x)\/((l.length:Int)<=x/\x<l.length+v):=by
 obtain⟨h1,h2,h3⟩:=h;by_cases hl:x<l.length;·have hi:Inb l x:=⟨h1.1,hl⟩;rw[(ZbJ hi).1]at h2 h3;exact .inl ⟨hl,hi,h2,h3⟩
 ·refine .inr ⟨by omega,Classical.byContradiction fun hn=>?_⟩;have hi:Inb F (x - l.length):=⟨by omega,by have :=h1.2;simp only[List.length_append,List.length_map]at this;omega⟩;obtain⟨e1,e2⟩:=Zbq (H:=l) hi;rw[show x - (l.length:Int)+l.length=x by omega]at e1;rw[e1,Zd8]at h2;rw[e1,Zlb _ h2]at h3;obtain⟨k,hk,hkl,e⟩:=ZaY hi;exact hF k _ (List.getElem?_eq_getElem hkl) (by omega) (by rw[<-e];exact h2) (by rw[<-e];omega)
theorem ZhJ(hM:Mon N l φ E)(hE:EnvOk N E)(hN:0<=N){v:Nat}(hF:NF v F):Mon (N+v) (l++F.map (shC l.length)) (Zgw l N φ) E:=by
 refine⟨fun x y hx hy hlt=>?_,fun x hx=>?_,fun x hx=>?_⟩
 ·rcases ZeQ hF hx with⟨a1,a2⟩|⟨a1,a2⟩<;>rcases ZeQ hF hy with⟨b1,b2⟩|⟨b1,b2⟩<;>unfold Zgw;·rw[if_pos a1,if_pos b1];exact hM.lt x y a2 b2 hlt
  ·rw[if_pos a1,if_neg (by omega)];have :=hM.bd x a2;omega
  ·omega
  ·rw[if_neg (by omega),if_neg (by omega)];omega
 ·rcases ZeQ hF hx with⟨a1,a2⟩|⟨a1,a2⟩<;>unfold Zgw;·rw[if_pos a1];have :=hM.bd x a2;omega
  ·rw[if_neg (by omega)];omega
 ·rcases ZeQ hF hx with⟨a1,a2⟩|⟨a1,a2⟩<;>unfold Zgw;·rw[if_pos a1];exact hM.free x a2
  ·rw[if_neg (by omega),eget_none];intro p hp;have :=hE.key p hp;omega
theorem ZhK(hg:GoodC l){a:Int}{t:Tm}(ha:Inb l a)(h:Hr l φ E (fun _=>True) a t):Hr (l++F.map (shC l.length)) (Zgw l N φ) E (fun _=>True) a t:=(ZnD (F:=F) hg).hr (fun x hx _ _=>⟨by show Zgw l N φ x=φ x;unfold Zgw;rw[if_pos hx.2],trivial⟩) h ha
theorem Zmc{L:List Ce}{g φ:Int->Int}{v:Int}(hE:EnvOk N E)(hN:0<=N)(hN2:N<1000000)(hv8:v<=8)(hφ:∀n,0<=n->n<v->φ (g n)=N+n):∀(t:Tm)(a:Int),t.Good v->Laid L g a t->Hr L φ E (fun _=>True) a (Za1 t N):=by
 intro t;induction t using Tm.induct with
  |h k n s l ih=>
   intro a hgd h;rw[Laid]at h;obtain⟨x,hx,hc⟩:=h;rcases hc with⟨rfl,rfl,rfl,rfl,h5⟩|⟨rfl,rfl,rfl,h4⟩|⟨rfl,rfl,rfl,h4⟩|⟨rfl,rfl,h3,h4⟩
   ·have hn:=Tm.In.n (t:= .mk 0 n ByteArray.empty []) hgd rfl;simp only[Tm.n]at hn;have e:Za1 (.mk 0 n ByteArray.empty []) N=tvar (N+n):=by unfold Za1 tvar;simp only[Tm.ren,if_true,Tm.renL,Zha hn.1 (show n<1099511627776 by omega),Zha hN (show N<1099511627776 by omega)];rw[Int.add_comm]
    have hst:slook E (tvar (N+n))=tvar (N+n):=ZaG (.inr (by rw[eget_none];intro p hp;have :=hE.key p hp;show p.1≠N+n;omega));rw[e];exact .var hx h5 trivial (by rw[hst];rfl) (by rw[hst,hφ n hn.1 hn.2];rfl)
   ·have e:Za1 (.mk 1 0 s []) N= .mk 1 0 s []:=by simp[Za1,Tm.ren,Tm.renL]
    have hst:slook E (.mk 1 0 s [])= .mk 1 0 s []:=ZaG (.inl (by simp[Tm.kind]));rw[e];exact .leaf hx (by rw[hst,h4]<;>rfl) (by rw[hst];simp[Tm.kind]) (by rw[hst];simp[Tm.kind]) (by rw[hst,h4]<;>rfl) (by rw[hst,h4]<;>rfl) (by rw[hst];rfl)
   ·have e:Za1 (.mk 2 n ByteArray.empty []) N= .mk 2 n ByteArray.empty []:=by simp[Za1,Tm.ren,Tm.renL]
    have hst:slook E (.mk 2 n ByteArray.empty [])= .mk 2 n ByteArray.empty []:=ZaG (.inl (by simp[Tm.kind]));rw[e];exact .leaf hx (by rw[hst,h4]<;>rfl) (by rw[hst];simp[Tm.kind]) (by rw[hst];simp[Tm.kind]) (by rw[hst,h4]<;>rfl) (by rw[hst,h4]<;>rfl) (by rw[hst];rfl)
   ·have e:Za1 (.mk 3 0 s l) N= .mk 3 0 s (l.map fun t=>Za1 t N):=by simp[Za1,Tm.ren,Tm.renL_map]
    have hst:slook E (.mk 3 0 s (l.map fun t=>Za1 t N))= .mk 3 0 s (l.map fun t=>Za1 t N):=ZaG (.inl (by simp[Tm.kind]));rw[e];have hL:∀(r:List Tm)(b:Int),Laid.LaidL L g b r->∀(i:Nat)(hi:i<r.length),Laid L g (b+(i:Nat)) r[i]:=by intro r;induction r with|nil=>intro b _ i hi;simp at hi|cons y r ihr=>intro b hb i hi;simp only[Laid.LaidL]at hb;cases i with|zero=>simpa using hb.1|succ i=>have :=ihr (b+1) hb.2 i (by simpa using hi);rw[show b+((i+1:Nat):Int)=b+1+(i:Nat)by omega];exact this
    refine .comp hx (by rw[h3]) (by rw[hst];rfl) (by rw[hst];rfl) (by rw[hst,h3];simp[Tm.args]) (by rw[hst,h3];rfl) ?_;rw[hst];intro i hi;simp only[Tm.args,List.length_map]at hi;simp only[Tm.args,List.getElem_map];exact ih _ (List.getElem_mem hi) _ (Tm.In.arg (t:= .mk 3 0 s l) hgd (List.getElem_mem hi)) (hL l _ h4 i hi)
end
end Go.Proofs.YtlpmfkpefoegeabDoor
