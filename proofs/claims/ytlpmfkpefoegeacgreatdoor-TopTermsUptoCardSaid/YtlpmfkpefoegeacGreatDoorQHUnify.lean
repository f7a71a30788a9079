import Derived.Test.YtlpmfkpefoegeacGreatDoorHCode2
import Derived.Deep.DeepCutAuto
import Derived.BigRegion
namespace Go.Proofs.YtlpmfkpefoegeacGreatDoor
set_option maxRecDepth 99999
set_option maxHeartbeats 0
set_option linter.all false
theorem Ce.fU.more{N M i:Nat}{c:Ce}(h:c.fU N i)(hM:N<=M):c.fU M i:=by
 rcases h with⟨h1,h2,h3,h4⟩|h|h|⟨h1,h2,h3,h4,h5⟩;·exact .inl ⟨h1,h2,by omega,h4⟩
 ·exact .inr (.inl h)
 ·exact .inr (.inr (.inl h))
 ·exact .inr (.inr (.inr ⟨h1,h2,h3,by omega,h5⟩))
theorem Ce.fU.moved{N i b:Nat}{c:Ce}(h:c.fU N i):(dn b c).fU (b+N) (b+i):=by
 rcases h with⟨h1,h2,h3,h4⟩|⟨h1,h2,h3⟩|⟨h1,h2⟩|⟨h1,h2,h3,h4,h5⟩
 ·refine .inl ⟨by rw[J4];exact h1,?_,?_,?_⟩;·rw[J5 _ h1];omega
  ·rw[J5 _ h1];omega
  ·unfold dn;rw[G h1];exact h4
 ·rw[C9 _ (by rw[h1];decide)];exact .inr (.inl ⟨h1,h2,h3⟩)
 ·rw[C9 _ (by rw[h1];decide)];exact .inr (.inr (.inl ⟨h1,h2⟩))
 ·rw[C9 _ (by rw[h1];decide)];exact .inr (.inr (.inr ⟨h1,h2,h3,by omega,h5⟩))
theorem YM{h:Hp}{F:List Ce}(hg:h.Good)(hF:iH F)(hl:h.cells.length+F.length<=65536):Hp.Good ⟨h.cells++F.map (dn h.cells.length),h.trail⟩:=by
 obtain⟨g1,g2,g3,g4⟩:=hg;refine⟨fun i hi=>?_,fun j hj=>?_,by simpa using hl,g4⟩
 ·simp only[bB,nR]at hi ⊢;rw[List.getElem_append];split;·rename_i hl2;exact(g1 i hl2).more (by omega)
  ·rename_i hl2;rw[QT];have :=(hF (i - h.cells.length) (by omega)).moved (b:=h.cells.length);rwa[show h.cells.length+(i - h.cells.length)=i by omega]at this
 ·obtain⟨v,e,hv,hk⟩:=g2 j hj;refine⟨v,e,by simp;omega,?_⟩;simp only;rw[F7 hv];exact hk
theorem SH(t:Tm)(c:List Ce):c.length<(aV c t).length:=by
 unfold aV;split;·obtain⟨k,n,s,l⟩:=t;have h1:=(xJ l (c++⟨3,(l.length:Int),s⟩::List.replicate l.length ⟨0,0,.empty⟩) (c.length+1)).1;simp only[bB,bn,BX]at h1;simp only[xI];omega
 ·rename_i h;rw[Yz h];simp
theorem agA{h:Tm}{l:List Tm}{n:Nat}(hg:(⟨h,l,(n:Int)⟩:Cl).Good)(F:List Ce)(hF:F=(aK (aV (aD n) h) l).1):F.length<=296/\iH F/\Laid F id (n:Int) h/\∀(j:Nat)(hj:j<l.length),∃a,(aK (aV (aD n) h) l).2[j]?=some a/\Laid F id a l[j]:=by
 obtain⟨⟨v0,v8,l5,lg⟩, -,hft, -⟩:=hg;simp only at v0 v8 l5 lg hft;have hnd:=NR l (fun g hg=>(lg g hg).2.2);have h1:=NQ h (aD n);have h1p:=SH h (aD n);have h2:=EL l (aV (aD n) h);rw[lY]at h1 h1p;have hh:=hft.2;rw[<-hF]at h2;have wD:∀t∈l,t.Good (n:Int):=fun t ht=>(lg t ht).2.1;have hva:ER F n:=fun i hi=>by rw[hF,J3 l _ i (by omega),agq h _ i (by rw[lY];exact hi)];exact agz n i hi
 refine⟨by omega,?_,?_,?_⟩;·have hok:=YL (v:=n) (N:=F.length) (by omega) (by omega) l (aV (aD n) h) wD (agx (v:=n) (by omega) h _ hft.1 (agy (by omega)) (by omega) (by omega)) (by rw[<-hF];exact zL _);rw[<-hF]at hok;intro i hi;exact hok i _ (aJ hi)
 ·have :=agr n h (aD n) F hft.1 (by rw[lY];exact zL _) hva (fun i hi hil=>by rw[hF];exact J3 l _ i hil);rw[lY]at this;exact this
 ·exact YJ n F hva l (aV (aD n) h) wD (by omega) (fun i hi hil=>by rw[hF])
def NF(v:Nat)(c:List Ce):Prop:=∀(i:Nat)(x:Ce),c[i]?=some x->v<=i->x.kind=0->x.n≠(i:Int)
theorem NF.set{v:Nat}{c:List Ce}(h:NF v c){k:Nat}{x:Ce}(hx:x.kind=0->x.n≠(k:Int)):NF v (c.set k x):=by
 intro i y hy hv hk;by_cases e:k=i
 ·subst e;by_cases hl:k<c.length;·rw[V9 hl]at hy;obtain rfl:=zI hy;exact hx hk
  ·rw[Jc (by simp;omega)]at hy;cases hy
 ·rw[Wi e]at hy;exact h i y hy hv hk
theorem NF.frame{v:Nat}{c:List Ce}(h:NF v c)(s:ByteArray)(m:Nat):NF v (c++⟨3,(m:Int),s⟩::List.replicate m ⟨0,0,.empty⟩):=by
 intro i y hy hv hk;by_cases hl:i<c.length;·rw[vG hl]at hy;exact h i y hy hv hk
 ·rw[yw (by omega)]at hy;obtain⟨j,hj⟩:∃j,j=i - c.length:=⟨_,rfl⟩;rw[<-hj]at hy;cases j with
   |zero=>simp only[yx,bW]at hy;subst hy;simp at hk
   |succ j=>
    rw[List.getElem?_cons_succ,V8]at hy;split at hy;·obtain rfl:=zI hy;simp only;omega
    ·cases hy
mutual
theorem aqM (v : Nat) : ∀ (t : Tm) (c : List Ce) (k : Nat), t.Good (v : Int) → NF v c → v ≤ k → k < c.length → NF v (dU c k t)
  | .mk kd n s l, c, k, hg, h, hv, hk => by
    rw [dU]
    split
    · refine h.set fun _ => ?_
      have := Tm.In.n (t := .mk kd n s l) hg (by assumption)
      simp only [Tm.n] at this
      simp only
      omega
    · split
      · exact h.set fun h => by simp at h
      · split
        · exact h.set fun h => by simp at h
        · split
          · have hl : ∀ t ∈ l, t.Good (v : Int) := fun t ht => Tm.In.arg (t := .mk kd n s l) hg ht
            exact YN v l _ _ hl ((h.set (fun _ => by simp only; omega)).frame s l.length) (by omega) (by simp; omega)
          · exact h
theorem YN (v : Nat) : ∀ (l : List Tm) (c : List Ce) (k : Nat), (∀ t ∈ l, t.Good (v : Int)) → NF v c → v ≤ k → k + l.length ≤ c.length → NF v (eZ c k l)
  | [], c, k, _, h, _, _ => by rw [eZ]; exact h
  | t :: r, c, k, hl, h, hv, hk => by
    rw [eZ]
    simp only [bn] at hk
    have := Hf t c k
    exact YN v r _ _ (fun x hx => hl x (by simp [hx])) (aqM v t c k (hl t (by simp)) h hv (by omega)) (by omega) (by omega)
end
theorem YO(v:Nat)(t:Tm)(c:List Ce)(hg:t.Good (v:Int))(hk:t.ky)(h:NF v c)(hv:v<=c.length):NF v (aV c t)/\(aV c t)[c.length]?=some ⟨t.kind,(t.args.length:Int),t.s⟩:=by
 obtain⟨kd,n,s,l⟩:=t;rcases hk with hk|hk<;>simp only[Tm.kind]at hk<;>subst hk
 ·have e0:aV c (.mk 1 n s l)=(c++[(⟨0,0,.empty⟩:Ce)]).set c.length ⟨1,0,s⟩:=by simp[aV,Tm.kind,dU]
  rw[e0];show _/\_=some (⟨1,(l.length:Int),s⟩:Ce);have hl:l=[]:=by cases hg;rfl
  subst hl;have e:(c++[(⟨0,0,.empty⟩:Ce)]).set c.length ⟨1,0,s⟩=c++[⟨1,0,s⟩]:=by rw[List.set_append_right _ _ (zL _)];simp
  rw[e];refine⟨fun i y hy hv hk=>?_,by simp⟩;by_cases hl:i<c.length;·rw[vG hl]at hy;exact h i y hy hv hk
  ·rw[yw (by omega)]at hy;cases hq:i - c.length with|zero=>rw[hq]at hy;simp only[yx,bW]at hy;subst hy;simp at hk|succ j=>rw[hq]at hy;simp at hy
 ·have e0:aV c (.mk 3 n s l)=eZ (c++⟨3,(l.length:Int),s⟩::List.replicate l.length ⟨0,0,.empty⟩) (c.length+1) l:=by simp[aV,Tm.kind,xI]
  rw[e0];show _/\_=some (⟨3,(l.length:Int),s⟩:Ce);have hl:∀t∈l,t.Good (v:Int):=fun t ht=>Tm.In.arg (t:= .mk 3 n s l) hg ht;refine⟨YN v l _ _ hl (h.frame s l.length) (by omega) (by simp;omega),?_⟩;rw[EP l _ _ c.length (by simp) (by omega),yw (zL _)];simp
theorem SI(v:Nat):∀(l:List Tm)(c:List Ce),(∀t∈l,t.ky/\t.Good (v:Int))->NF v c->v<=c.length->NF v (aK c l).1/\∀(j:Nat)(hj:j<l.length),∃a:Nat,(aK c l).2[j]?=some (a:Int)/\(aK c l).1[a]?=some ⟨l[j].kind,(l[j].args.length:Int),l[j].s⟩|[],c,_,h,_=>⟨h,fun j hj=>by simp at hj⟩|t::r,c,hl,h,hv=>by have hp:=SH t c;obtain⟨k1,k2⟩:=YO v t c (hl t (by simp)).2 (hl t (by simp)).1 h hv;obtain⟨k3,k4⟩:=SI v r (aV c t) (fun x hx=>hl x (by simp[hx])) k1 (by omega);simp only[aK];refine⟨k3,fun j hj=>?_⟩;cases j with|zero=>exact⟨c.length,rfl,by rw[J3 r _ _ hp];exact k2⟩|succ j=>obtain⟨a,e1,e2⟩:=k4 j (by simpa using hj);exact⟨a,by simpa using e1,by simpa using e2⟩
theorem YP(n:Nat):NF n (aD n):=fun i x hx hv _=>by rw[Jc (by rw[lY];exact hv)]at hx;cases hx
section
variable {l F : List Ce} {φ : Int → Int} {E : Env} {N : Int}
def mG(l:List Ce)(N:Int)(φ:Int->Int)(x:Int):Int:=if x<l.length then φ x else N+(x - l.length)
theorem H7{a:Int}(h:Inb l a):cellAt (l++F.map (dn l.length)) a=cellAt l a/\Inb (l++F.map (dn l.length)) a:=by obtain⟨k,rfl,hk,e⟩:=pX h;rw[jR (show k<(l++F.map (dn l.length)).length by simp;omega),F7 hk,e];exact⟨rfl,zN _,by simp;omega⟩
theorem aqN(hg:iH l):oq l (l++F.map (dn l.length)) (Inb l) id:=by
 have hok:∀a,Inb l a->(cellAt l a).fU l.length a.toNat:=fun a ha=>by obtain⟨k,rfl,hk,e⟩:=pX ha;rw[e,dF];exact hg k hk
 refine⟨fun a ha=>⟨ha,(H7 ha).2⟩,fun a ha=>?_,fun a ha hk=>?_,fun a ha hk i hi=>?_,fun a b _ _ h=>h⟩;·show cellAt _ a=_;rw[(H7 ha).1];unfold xH;split<;>rfl
 ·have :=hok a ha;unfold Ce.fU at this;unfold Inb;omega
 ·have h1:=hok a ha;unfold Ce.fU at h1;have :=ha.1;exact⟨⟨by omega,by omega⟩,rfl⟩
theorem SK{v:Nat}(hF:NF v F){x:Int}(h:iI (l++F.map (dn l.length)) x):(x<l.length/\iI l x)\/((l.length:Int)<=x/\x<l.length+v):=by
 obtain⟨h1,h2,h3⟩:=h;by_cases hl:x<l.length;·have hi:Inb l x:=⟨h1.1,hl⟩;rw[(H7 hi).1]at h2 h3;exact .inl ⟨hl,hi,h2,h3⟩
 ·refine .inr ⟨by omega,DY fun hn=>?_⟩;have hi:Inb F (x - l.length):=⟨by omega,by have :=h1.2;simp only[bB,nR]at this;omega⟩;obtain⟨e1,e2⟩:=ES (H:=l) hi;rw[show x - (l.length:Int)+l.length=x by omega]at e1;rw[e1,J4]at h2;rw[e1,J5 _ h2]at h3;obtain⟨k,hk,hkl,e⟩:=pX hi;exact hF k _ (aJ hkl) (by omega) (by rw[<-e];exact h2) (by rw[<-e];omega)
theorem YQ(hM:Mon N l φ E)(hE:cu N E)(hN:0<=N){v:Nat}(hF:NF v F):Mon (N+v) (l++F.map (dn l.length)) (mG l N φ) E:=by
 refine⟨fun x y hx hy hlt=>?_,fun x hx=>?_,fun x hx=>?_⟩
 ·rcases SK hF hx with⟨a1,a2⟩|⟨a1,a2⟩<;>rcases SK hF hy with⟨b1,b2⟩|⟨b1,b2⟩<;>unfold mG;·rw[G a1,G b1];exact hM.lt x y a2 b2 hlt
  ·rw[G a1,O (by omega)];have :=hM.bd x a2;omega
  ·omega
  ·rw[O (by omega),O (by omega)];omega
 ·rcases SK hF hx with⟨a1,a2⟩|⟨a1,a2⟩<;>unfold mG;·rw[G a1];have :=hM.bd x a2;omega
  ·rw[O (by omega)];omega
 ·rcases SK hF hx with⟨a1,a2⟩|⟨a1,a2⟩<;>unfold mG;·rw[G a1];exact hM.free x a2
  ·rw[O (by omega),Xu];intro p hp;have :=hE.key p hp;omega
theorem SL(hg:iH l){a:Int}{t:Tm}(ha:Inb l a)(h:Hr l φ E (fun _=>True) a t):Hr (l++F.map (dn l.length)) (mG l N φ) E (fun _=>True) a t:=(aqN (F:=F) hg).hr (fun x hx _ _=>⟨by show mG l N φ x=φ x;unfold mG;rw[G hx.2],trivial⟩) h ha
theorem agB{L:List Ce}{g φ:Int->Int}{v:Int}(hE:cu N E)(hN:0<=N)(Oa:N<1000000)(H8:v<=8)(hφ:∀n,0<=n->n<v->φ (g n)=N+n):∀(t:Tm)(a:Int),t.Good v->Laid L g a t->Hr L φ E (fun _=>True) a (fG t N):=by
 intro t;induction t using Tm.induct with
  |h k n s l ih=>
   intro a hgd h;rw[Laid]at h;obtain⟨x,hx,hc⟩:=h;rcases hc with⟨rfl,rfl,rfl,rfl,h5⟩|⟨rfl,rfl,rfl,h4⟩|⟨rfl,rfl,rfl,h4⟩|⟨rfl,rfl,h3,h4⟩
   ·have hn:=Tm.In.n (t:= .mk 0 n .empty []) hgd rfl;simp only[Tm.n]at hn;have e:fG (.mk 0 n .empty []) N=fK (N+n):=by unfold fG fK;simp only[Tm.ren,if_true,Tm.uE,JD hn.1 (show n<1099511627776 by omega),JD hN (show N<1099511627776 by omega)];rw[Mi]
    have hst:ai E (fK (N+n))=fK (N+n):=kD (.inr (by rw[Xu];intro p hp;have :=hE.key p hp;show p.1≠N+n;omega));rw[e];exact .var hx h5 trivial (by rw[hst];rfl) (by rw[hst,hφ n hn.1 hn.2];rfl)
   ·have e:fG (.mk 1 0 s []) N= .mk 1 0 s []:=by simp[fG,Tm.ren,Tm.uE]
    have hst:ai E (.mk 1 0 s [])= .mk 1 0 s []:=kD (.inl (by simp[Tm.kind]));rw[e];exact .leaf hx (by rw[hst,h4]<;>rfl) (by rw[hst];simp[Tm.kind]) (by rw[hst];simp[Tm.kind]) (by rw[hst,h4]<;>rfl) (by rw[hst,h4]<;>rfl) (by rw[hst];rfl)
   ·have e:fG (.mk 2 n .empty []) N= .mk 2 n .empty []:=by simp[fG,Tm.ren,Tm.uE]
    have hst:ai E (.mk 2 n .empty [])= .mk 2 n .empty []:=kD (.inl (by simp[Tm.kind]));rw[e];exact .leaf hx (by rw[hst,h4]<;>rfl) (by rw[hst];simp[Tm.kind]) (by rw[hst];simp[Tm.kind]) (by rw[hst,h4]<;>rfl) (by rw[hst,h4]<;>rfl) (by rw[hst];rfl)
   ·have e:fG (.mk 3 0 s l) N= .mk 3 0 s (l.map fun t=>fG t N):=by simp[fG,Tm.ren,Tm.Jl]
    have hst:ai E (.mk 3 0 s (l.map fun t=>fG t N))= .mk 3 0 s (l.map fun t=>fG t N):=kD (.inl (by simp[Tm.kind]));rw[e];have hL:∀(r:List Tm)(b:Int),Laid.uP L g b r->∀(i:Nat)(hi:i<r.length),Laid L g (b+(i:Nat)) r[i]:=by intro r;induction r with|nil=>intro b _ i hi;simp at hi|cons y r ihr=>intro b hb i hi;simp only[Laid.uP]at hb;cases i with|zero=>simpa using hb.1|succ i=>have :=ihr (b+1) hb.2 i (by simpa using hi);rw[show b+((i+1:Nat):Int)=b+1+(i:Nat)by omega];exact this
    refine .comp hx (by rw[h3]) (by rw[hst];rfl) (by rw[hst];rfl) (by rw[hst,h3];simp[Tm.args]) (by rw[hst,h3];rfl) ?_;rw[hst];intro i hi;simp only[Tm.args,nR]at hi;simp only[Tm.args,QT];exact ih _ (bN hi) _ (Tm.In.arg (t:= .mk 3 0 s l) hgd (bN hi)) (hL l _ h4 i hi)
end
open Go.RowKit
noncomputable def J7(k:Nat)(l:List Ce)(t:List Int)(x y:Int):Un:=if(cellAt l x).kind=0/\(cellAt l y).kind=0 then(if x=y then⟨true,l,t,k⟩else⟨true,fB l (max x y) (min x y),t++[max x y],k⟩)else if(cellAt l x).kind=0\/(cellAt l y).kind=0 then(if(bG l (if(cellAt l y).kind=0 then y else x) k [if(cellAt l y).kind=0 then x else y]).1=true\/(bG l (if(cellAt l y).kind=0 then y else x) k [if(cellAt l y).kind=0 then x else y]).2<0 then⟨false,l,t,(bG l (if(cellAt l y).kind=0 then y else x) k [if(cellAt l y).kind=0 then x else y]).2⟩else⟨true,fB l (if(cellAt l y).kind=0 then y else x) (if(cellAt l y).kind=0 then x else y),t++[if(cellAt l y).kind=0 then y else x],((min k (bG l (if(cellAt l y).kind=0 then y else x) k [if(cellAt l y).kind=0 then x else y]).2.toNat:Nat):Int)⟩)else if cellAt l x≠cellAt l y then⟨false,l,t,k⟩else if(cellAt l x).kind=3 then aU k ((argsAt x (cellAt l x).n).zip (argsAt y (cellAt l x).n)) l t else⟨true,l,t,k⟩
theorem agC(k:Nat)(a b:Int)(l:List Ce)(t:List Int):aU (k+1) [(a,b)] l t=if look l a<0\/look l b<0 then⟨false,l,t, -1⟩else J7 k l t (look l a) (look l b):=by rw[aU];simp only[Jq,sG];rfl
def aqO(g base:Nat)(cv tv:Value)(w:World)(u:Un)(e:Ending)(w':World):Prop:=e= .returned (.bool u.ok)/\mU g base cv tv w u.cells u.trail u.work w'
def SN(g base:Nat)(k:Nat):Prop:=∀(cv tv:Value)(l:List Ce)(t:List Int)(a b:Int)(w:World),iH l->ah a->ah b->kV g base cv tv l t k w->Calls Tryz.prog 133 #[.pointer (some ⟨g,0,none⟩),.int .i64 a,.int .i64 b] w (aqO g base cv tv w (aU k [(a,b)] l t))
theorem aqP(g base:Nat):SN g base 0:=by intro cv tv l t a b w hgood ha hb h;have HU:=Y h;obtain⟨ca,cc,ta,tc,rfl,rfl,e1,e2,e3,e4⟩:=h.vals;have hlt:=h.lt;obtain⟨h1,h2,h3,h4,h5,h6,h7,h8⟩:=h;obtain⟨x0,x1,x2,xf⟩:=gG h1;have hcs:=bF;have HG:=Y hgood;clear h1 h2 h3 hgood;rw[MI];go_enter Tryz.func133,Tryz.ntmps133;go_wp2_with fail;go_ret;exact⟨rfl,mU.yP (HU.o.turn (k':= -1) (by decide) (by decide)) (Ex _ _ _ _)⟩
theorem aqQ(g base:Nat)(k:Nat)(ih:∀m,m<=k->SN g base m):SN g base (k+1):=by
 intro cv tv l t a b w hgood ha hb h;have HU:=Y h;obtain⟨ca,cc,ta,tc,rfl,rfl,e1,e2,e3,e4⟩:=h.vals;have hlt:=h.lt;have mD:=Y (HU.o.turn (k':=k) (by omega) (by omega));obtain⟨h1,h2,h3,h4,h5,h6,h7,h8⟩:=h;obtain⟨x0,x1,x2,xf⟩:=gG h1;have hcs:=bF;have RO:(k:Int)<=400:=by omega
 have hk0:(0:Int)<=(k:Int):=zN _;have hkt:(t.length:Int)+1+k<=70000:=by omega
 have Ba:=Y ha;have uQ:=Y hb;have HG:=Y hgood;have IH:=Y ih;rw[show((k+1:Nat):Int)=(k:Int)+1 by omega]at x2;clear h1 h2 h3 h6 h7 h8 ha hb hgood ih;go_enter Tryz.func133,Tryz.ntmps133;go_wp2_with fail;generalize HW1:w.setCell ⟨g,2,none⟩ (.int .i64 (k:Int))=W1 at mD ⊢;have eT:Hd (∀w',Below W1.heap.size W1 w'->w'.cell? ⟨g,0,none⟩=some (.slice ca l.length cc)/\w'.cell? ⟨g,1,none⟩=some (.slice ta t.length tc)):=Y fun w' hb=>by obtain⟨z0,z1, -⟩:=gG (mD.o.below hb).1;exact⟨z0,z1⟩
 clear x0 x1 x2 xf;refine aeA (Inv:=fun w'=>Below W1.heap.size W1 w') (Po:=posts [aG (.pointer (some ⟨g,0,none⟩)),aG (.pointer (some ⟨g,0,none⟩)),aG (.pointer (some ⟨g,0,none⟩)),aG (.agg #[.slice ca l.length cc,.slice ta t.length tc]),aG (.int .i64 a),aG (.int .i64 (look l a)),aG (.pointer (some ⟨g,0,none⟩)),aG (.pointer (some ⟨g,0,none⟩)),aG (.pointer (some ⟨g,0,none⟩)),aG (.agg #[.slice ca l.length cc,.slice ta t.length tc]),aG (.int .i64 b),aG (.int .i64 (look l b)),aG (.int .i64 (look l a)),aG (.int .i64 (look l b))]) (Rl:=fun w w'=>Below w.heap.size w w') (by kernel_rfl) (by kernel_rfl) (by kernel_rfl) ((Z _ _).drew) ?_ ?_ ?_ ?_;·refine AL fun R hR=>?_;simp only[jr,yz,vI]at hR;rcases hR with rfl|rfl|rfl|rfl|rfl|rfl|rfl|rfl|rfl|rfl|rfl|rfl|rfl|rfl<;>first|exact AJ _|exact J8|exact J9 _|exact Ka _|exact Kb _|exact Kc _|exact Ke _|exact Kg _|exact Kh _|exact GL _ _|exact Ew _ _
 ·exact fun w1 w2 h h'=>h.trans (h'.mono h.size)
 ·intro i o ho f ac ww hinv hpo hdst hold;match i,ho with|0,ho|6,ho=>obtain rfl:_=o:=zI ho;have t0:=zE hold 0;refine zW ?_;clear hdst hpo hold ho hinv;unfold ay;go_simp;exact⟨rfl,Z _ _⟩|1,ho=>obtain rfl:_=o:=zI ho;have t22:=zD hdst 0 22;have p0:=zE hpo 0;refine zW ?_;clear hdst hpo hold ho;rw[show f 0=_ from p0]at t22;clear hinv;unfold ay;go_simp;exact⟨rfl,Z _ _⟩|2,ho=>obtain rfl:_=o:=zI ho;have t23:=zD hdst 1 23;have p1:=zE hpo 1;refine zW ?_;clear hdst hpo hold ho;rw[show f 1=_ from p1]at t23;clear hinv;unfold ay;go_simp;exact⟨rfl,Z _ _⟩|3,ho=>obtain rfl:_=o:=zI ho;have t24:=zD hdst 2 24;have p2:=zE hpo 2;refine zW ?_;clear hdst hpo hold ho;rw[show f 2=_ from p2]at t24;obtain⟨x0,x1⟩:=eT.o ww hinv;unfold ay;go_simp;exact⟨rfl,Z _ _⟩|4,ho=>obtain rfl:_=o:=zI ho;have t1:=zE hold 1;refine zW ?_;clear hdst hpo hold ho hinv;unfold ay;go_simp;exact⟨rfl,Z _ _⟩|5,ho=>obtain rfl:_=o:=zI ho;have t25:=zD hdst 3 25;have p3:=zE hpo 3;have t26:=zD hdst 4 26;have p4:=zE hpo 4;refine zW ?_;clear hdst hpo hold ho;rw[show f 3=_ from p3]at t25;rw[show f 4=_ from p4]at t26;unfold ay;go_simp;have hU:=mD.o.below hinv;refine(look_ok ⟨l,t⟩ a Ba.o (fun _=>True) _ _ hU.rep).mono ?_;rintro e w1⟨r,rfl,hb,rfl⟩;exact⟨_,rfl,rfl,hb⟩|7,ho=>obtain rfl:_=o:=zI ho;have t28:=zD hdst 6 28;have p6:=zE hpo 6;refine zW ?_;clear hdst hpo hold ho;rw[show f 6=_ from p6]at t28;clear hinv;unfold ay;go_simp;exact⟨rfl,Z _ _⟩|8,ho=>obtain rfl:_=o:=zI ho;have t29:=zD hdst 7 29;have p7:=zE hpo 7;refine zW ?_;clear hdst hpo hold ho;rw[show f 7=_ from p7]at t29;clear hinv;unfold ay;go_simp;exact⟨rfl,Z _ _⟩|9,ho=>obtain rfl:_=o:=zI ho;have t30:=zD hdst 8 30;have p8:=zE hpo 8;refine zW ?_;clear hdst hpo hold ho;rw[show f 8=_ from p8]at t30;obtain⟨x0,x1⟩:=eT.o ww hinv;unfold ay;go_simp;exact⟨rfl,Z _ _⟩|10,ho=>obtain rfl:_=o:=zI ho;have t2:=zE hold 2;refine zW ?_;clear hdst hpo hold ho hinv;unfold ay;go_simp;exact⟨rfl,Z _ _⟩|11,ho=>obtain rfl:_=o:=zI ho;have t31:=zD hdst 9 31;have p9:=zE hpo 9;have t32:=zD hdst 10 32;have qU:=zE hpo 10;refine zW ?_;clear hdst hpo hold ho;rw[show f 9=_ from p9]at t31;rw[show f 10=_ from qU]at t32;unfold ay;go_simp;have hU:=mD.o.below hinv;refine(look_ok ⟨l,t⟩ b uQ.o (fun _=>True) _ _ hU.rep).mono ?_;rintro e w1⟨r,rfl,hb,rfl⟩;exact⟨_,rfl,rfl,hb⟩|12,ho=>obtain rfl:_=o:=zI ho;have t27:=zD hdst 5 27;have p5:=zE hpo 5;refine zW ?_;clear hdst hpo hold ho;rw[show f 5=_ from p5]at t27;clear hinv;unfold ay;go_simp;exact⟨rfl,Z _ _⟩|13,ho=>obtain rfl:_=o:=zI ho;have t33:=zD hdst 11 33;have tN:=zE hpo 11;refine zW ?_;clear hdst hpo hold ho;rw[show f 11=_ from tN]at t33;clear hinv;unfold ay;go_simp;exact⟨rfl,Z _ _⟩|i+14,ho=>simp at ho
 ·intro f ww hinv hpo;have uR:(aG (.int .i64 (look l a))) (f 12) ww:=hpo 12 (by decide);have y8:(aG (.int .i64 (look l b))) (f 13) ww:=hpo 13 (by decide);simp only[je,BU,Am,Ca];rw[show f 12=_ from uR,show f 13=_ from y8];have dM:=Y (mD.o.below hinv);have dJ:=Y (show Ch (fun b=>b=g) w ww from by subst HW1;exact(Ex _ _ _ _).tb hinv);have hWz:w.heap.size<=ww.heap.size:=dJ.o.size;have hga:=Rb l a;have hgb:=Rb l b;obtain⟨y0,y1,y2,yf⟩:=gG dM.o.1;clear hinv hpo uR y8 HW1;by_cases hneg:look l a<0\/look l b<0;·have HR:=Y (show aU (k+1) [(a,b)] l t=⟨false,l,t, -1⟩by rw[agC,G hneg]);go_wp2_with fail;all_goals go_ret;rw[HR.o];exact⟨rfl,mU.yP (dM.o.turn (k':= -1) (by decide) (by omega)) (dJ.o.RL _ _)⟩
  obtain⟨x,hx,hxl,hcx⟩:=pX (ME (l:=l) (a:=a) (by omega)).1;obtain⟨y,hy,hyl,hcy⟩:=pX (ME (l:=l) (a:=b) (by omega)).1;have xO:=Y (agC k a b l t);have aqR:=Y hneg;have HX:=Y hx;have HY:=Y hy;have Bb:=Y (show cellAt l (x:Int)=l[x]by rw[<-hx];exact hcx);have ET:=Y (show cellAt l (y:Int)=l[y]by rw[<-hy];exact hcy);have Ob:=HG.o x hxl;have Ki:=HG.o y hyl;rw[hx,hy];have hx0:(0:Int)<=(x:Int):=zN _;have hx1:(x:Int)<(l.length:Int):=by omega
  have hy0:(0:Int)<=(y:Int):=zN _;have hy1:(y:Int)<(l.length:Int):=by omega
  obtain⟨cb,rfl,cO,c0,c1,c2,hok, -,hcb, -⟩:=jM.cell dM.o.2.1 hxl;obtain⟨cb',e, -,d0,d1,d2,hok', -, -, -⟩:=jM.cell dM.o.2.1 hyl;simp only[bW,xh,mP]at e;subst e;have kU:=Y cO;have hgw:g<ww.heap.size:=dM.o.lt.1;clear hx hy hcx hcy hneg hga hgb cO;have Aw:=Y (show aU (k+1) [(a,b)] l t=J7 k l t x y by rw[xO.o,O aqR.o,HX.o,HY.o]);go_wp2_with fail;refine(AO _ _ _ _ _ _ _ _ dM.o x hxl).mono ?_;rintro e w3⟨rfl,rfl⟩;by_cases hk:l[x].kind=0
  ·rw[hk];by_cases hk2:l[y].kind=0
   ·have HR:=Y (show aU (k+1) [(a,b)] l t=if(x:Int)=y then⟨true,l,t,k⟩else⟨true,fB l (max (x:Int) y) (min (x:Int) y),t++[max (x:Int) y],k⟩by rw[Aw.o,J7,Bb.o,ET.o,G ⟨hk,hk2⟩]);go_wp2_with fail;refine(AO _ _ _ _ _ _ _ _ dM.o y hyl).mono ?_;rintro e w3⟨rfl,rfl⟩;rw[hk2];clear Ob Ki hk hk2 c0 c1 c2 d0 d1 d2;rcases am6 x y with hxy|hxy|hxy
    ·have hxy':((x:Int)!= (y:Int))=true:=by simp;omega
     have hm1:max (x:Int) (y:Int)=(y:Int):=by omega
     have hm2:min (x:Int) (y:Int)=(x:Int):=by omega
     have hres:=Y (show aU (k+1) [(a,b)] l t=⟨true,fB l (y:Int) (x:Int),t++[(y:Int)],k⟩by rw[HR.o,O (by omega),hm1,hm2]);have gK:=Y hm1;have ji:=Y hm2;clear hm1 hm2;go_wp2_with fail;try rw[gK.o,ji.o]
     refine(bind_ok g base _ _ l t (k:Int) ww dM.o (by omega) y hyl (x:Int) (by unfold ah;omega)).mono ?_;rintro e w6⟨r,rfl,hst⟩;have HST:=Y hst;clear hst;go_wp2_with fail;go_ret;rw[hres.o];exact⟨rfl,mU.trans (dJ.o.mono fun x _ e=> .inl e) (fun b h=> .inl h) HST.o⟩
    ·subst hxy;have hres:=Y (show aU (k+1) [(a,b)] l t=⟨true,l,t,k⟩by rw[HR.o,G rfl]);go_wp2_with fail;go_ret;rw[hres.o];exact⟨rfl,mU.yP dM.o dJ.o⟩
    ·have hxy':((x:Int)!= (y:Int))=true:=by simp;omega
     have hm1:max (x:Int) (y:Int)=(x:Int):=by omega
     have hm2:min (x:Int) (y:Int)=(y:Int):=by omega
     have hres:=Y (show aU (k+1) [(a,b)] l t=⟨true,fB l (x:Int) (y:Int),t++[(x:Int)],k⟩by rw[HR.o,O (by omega),hm1,hm2]);have gK:=Y hm1;have ji:=Y hm2;clear hm1 hm2;go_wp2_with fail;try rw[gK.o,ji.o]
     refine(bind_ok g base _ _ l t (k:Int) ww dM.o (by omega) x hxl (y:Int) (by unfold ah;omega)).mono ?_;rintro e w6⟨r,rfl,hst⟩;have HST:=Y hst;clear hst;go_wp2_with fail;go_ret;rw[hres.o];exact⟨rfl,mU.trans (dJ.o.mono fun x _ e=> .inl e) (fun b h=> .inl h) HST.o⟩
   ·have wE:(l[y].kind==0)=false:=by simpa using hk2
    have HR:=Y (show aU (k+1) [(a,b)] l t=(if(bG l (x:Int) k [(y:Int)]).1=true\/(bG l (x:Int) k [(y:Int)]).2<0 then⟨false,l,t,(bG l (x:Int) k [(y:Int)]).2⟩else⟨true,fB l (x:Int) (y:Int),t++[(x:Int)],((min k (bG l (x:Int) k [(y:Int)]).2.toNat:Nat):Int)⟩)by rw[Aw.o,J7,Bb.o,ET.o,O (fun h=>hk2 h.2),G (.inl hk)];simp only[O hk2]);go_wp2_with fail;refine(AO _ _ _ _ _ _ _ _ dM.o y hyl).mono ?_;rintro e w3⟨rfl,rfl⟩;rw[wE];go_wp2_with fail;refine(AO _ _ _ _ _ _ _ _ dM.o y hyl).mono ?_;rintro e w3⟨rfl,rfl⟩;rw[wE];go_wp2_with fail;refine(AO _ _ _ _ _ _ _ _ dM.o x hxl).mono ?_;rintro e w3⟨rfl,rfl⟩;rw[hk];clear Ob Ki hk hk2 wE c0 c1 c2 d0 d1 d2;go_wp2_with fail;refine(afk g base (.slice (some ⟨cb,0,none⟩) l.length cc) (.slice ta t.length tc) l t (x:Int) (by unfold ah;omega) HG.o k (y:Int) ww (by unfold ah;omega) dM.o).mono ?_;rintro e w5⟨rfl,dw,lS⟩;have fE:=Y lS;have fF:=Y (dJ.o.trans dw (fun _ h=> .inl h));obtain⟨q0,q1,q2,qf⟩:=gG lS.1;have qP:=Jp l (x:Int) k [(y:Int)];have mE:=MH l (x:Int) k [(y:Int)];generalize bG l (x:Int) k [(y:Int)]=p at*;obtain⟨pf,pw⟩:=p;simp only at qP mE q0 q1 q2;obtain⟨hp1,hp2⟩:=qP;have yO:=Y mE;clear lS dw mE y0 y1 y2 yf;cases pf with
     |true=>have hpw:0<=pw:=yO.o rfl;have hres:=Y (show aU (k+1) [(a,b)] l t=⟨false,l,t,pw⟩by rw[HR.o,G (.inl rfl)]);go_wp2_with fail;go_ret;rw[hres.o];exact⟨rfl,mU.yP fE.o fF.o⟩
     |false=>
      by_cases hpw:pw<0;·have hres:=Y (show aU (k+1) [(a,b)] l t=⟨false,l,t,pw⟩by rw[HR.o,G (.inr hpw)]);go_wp2_with fail;go_ret;rw[hres.o];exact⟨rfl,mU.yP fE.o fF.o⟩
      ·obtain⟨pm,rfl⟩:=dH (show 0<=pw by omega);have hres:=Y (show aU (k+1) [(a,b)] l t=⟨true,fB l (x:Int) (y:Int),t++[(x:Int)],(pm:Int)⟩by rw[HR.o,O (by simp),show min k (pm:Int).toNat=pm by simp;omega]);go_wp2_with fail;refine(bind_ok g base _ _ l t (pm:Int) w5 fE.o (by omega) x hxl (y:Int) (by unfold ah;omega)).mono ?_;rintro e w6⟨r,rfl,hst⟩;have HST:=Y hst;clear hst q0 q1 q2 qf;go_wp2_with fail;go_ret;rw[hres.o];exact⟨rfl,mU.trans (fF.o.mono fun x _ e=> .inl e) (fun b h=> .inl h) HST.o⟩
  ·have hk':(l[x].kind==0)=false:=by simpa using hk
   rw[hk'];by_cases hk2:l[y].kind=0
   ·have HR:=Y (show aU (k+1) [(a,b)] l t=(if(bG l (y:Int) k [(x:Int)]).1=true\/(bG l (y:Int) k [(x:Int)]).2<0 then⟨false,l,t,(bG l (y:Int) k [(x:Int)]).2⟩else⟨true,fB l (y:Int) (x:Int),t++[(y:Int)],((min k (bG l (y:Int) k [(x:Int)]).2.toNat:Nat):Int)⟩)by rw[Aw.o,J7,Bb.o,ET.o,O (fun h=>hk h.1),G (.inr hk2)];simp only[G hk2]);go_wp2_with fail;refine(AO _ _ _ _ _ _ _ _ dM.o y hyl).mono ?_;rintro e w3⟨rfl,rfl⟩;rw[hk2];go_wp2_with fail;refine(AO _ _ _ _ _ _ _ _ dM.o y hyl).mono ?_;rintro e w3⟨rfl,rfl⟩;rw[hk2];clear Ob Ki hk hk2 hk' c0 c1 c2 d0 d1 d2;go_wp2_with fail;refine(afk g base (.slice (some ⟨cb,0,none⟩) l.length cc) (.slice ta t.length tc) l t (y:Int) (by unfold ah;omega) HG.o k (x:Int) ww (by unfold ah;omega) dM.o).mono ?_;rintro e w5⟨rfl,dw,lS⟩;have fE:=Y lS;have fF:=Y (dJ.o.trans dw (fun _ h=> .inl h));obtain⟨q0,q1,q2,qf⟩:=gG lS.1;have qP:=Jp l (y:Int) k [(x:Int)];have mE:=MH l (y:Int) k [(x:Int)];generalize bG l (y:Int) k [(x:Int)]=p at*;obtain⟨pf,pw⟩:=p;simp only at qP mE q0 q1 q2;obtain⟨hp1,hp2⟩:=qP;have yO:=Y mE;clear lS dw mE y0 y1 y2 yf;cases pf with
     |true=>have hpw:0<=pw:=yO.o rfl;have hres:=Y (show aU (k+1) [(a,b)] l t=⟨false,l,t,pw⟩by rw[HR.o,G (.inl rfl)]);go_wp2_with fail;go_ret;rw[hres.o];exact⟨rfl,mU.yP fE.o fF.o⟩
     |false=>
      by_cases hpw:pw<0;·have hres:=Y (show aU (k+1) [(a,b)] l t=⟨false,l,t,pw⟩by rw[HR.o,G (.inr hpw)]);go_wp2_with fail;go_ret;rw[hres.o];exact⟨rfl,mU.yP fE.o fF.o⟩
      ·obtain⟨pm,rfl⟩:=dH (show 0<=pw by omega);have hres:=Y (show aU (k+1) [(a,b)] l t=⟨true,fB l (y:Int) (x:Int),t++[(y:Int)],(pm:Int)⟩by rw[HR.o,O (by simp),show min k (pm:Int).toNat=pm by simp;omega]);go_wp2_with fail;refine(bind_ok g base _ _ l t (pm:Int) w5 fE.o (by omega) y hyl (x:Int) (by unfold ah;omega)).mono ?_;rintro e w6⟨r,rfl,hst⟩;have HST:=Y hst;clear hst q0 q1 q2 qf;go_wp2_with fail;go_ret;rw[hres.o];exact⟨rfl,mU.trans (fF.o.mono fun x _ e=> .inl e) (fun b h=> .inl h) HST.o⟩
   ·have wE:(l[y].kind==0)=false:=by simpa using hk2
    have HR:=Y (show aU (k+1) [(a,b)] l t=(if l[x]≠l[y]then⟨false,l,t,k⟩else if l[x].kind=3 then aU k ((argsAt (x:Int) l[x].n).zip (argsAt (y:Int) l[x].n)) l t else⟨true,l,t,k⟩)by rw[Aw.o,J7,Bb.o,ET.o,O (fun h=>hk h.1),O (fun h=>h.elim hk hk2)]);go_wp2_with fail;refine(AO _ _ _ _ _ _ _ _ dM.o y hyl).mono ?_;rintro e w3⟨rfl,rfl⟩;rw[wE];go_wp2_with fail;refine(AO _ _ _ _ _ _ _ _ dM.o x hxl).mono ?_;rintro e w3⟨rfl,rfl⟩;rw[hk'];clear hk2 wE hk hk';go_upto_region 19 with fail;go_cut[7,8](fun u7 u8 wr=>∃b7 b8,u7= .pointer (some ⟨b7,0,none⟩)/\u8= .pointer (some ⟨b8,0,none⟩)/\wr.heap[b7]?=some (.cells #[.int .i64 l[x].kind,.int .i64 l[x].n,.string l[x].s] 112 (0,0))/\wr.heap[b8]?=some (.cells #[.int .i64 l[y].kind,.int .i64 l[y].n,.string l[y].s] 112 (0,0))/\Below ww.heap.size ww wr/\ww.heap.size<=b7/\ww.heap.size<=b8);case first=>go_region;all_goals go_wp2_with fail;go_meet;first|exact⟨_,_,rfl,rfl,(mi _ _ _).1,(mi _ _ _).2,(((Z _ _).alloc (zL _) _).alloc (by simp) _).drew,by omega,by omega⟩|exact⟨_,_,rfl,rfl,(mi _ _ _).2,(mi _ _ _).1,(((Z _ _).alloc (zL _) _).alloc (by simp) _).drew,by omega,by omega⟩
    case rest=>
     obtain⟨b7,b8,rfl,rfl,qV,y9,hbel,Oc,SQ⟩:=hcut;have pq:=Y (dM.o.below hbel);have eY:=Y (dJ.o.tb hbel);have mZ:=Y qV;obtain⟨p0,p1,p2,pf⟩:=gG qV;obtain⟨r0,r1,r2,rf⟩:=gG y9;clear qV y9 hbel c0 c1 c2 d0 d1 d2 y0 y1 y2 yf;by_cases hq:l[x]=l[y];case neg=>
      have hres:=Y (show aU (k+1) [(a,b)] l t=⟨false,l,t,k⟩by rw[HR.o,G hq]);by_cases q1:l[x].kind=l[y].kind
      ·by_cases q2:l[x].n=l[y].n
       ·by_cases q3:l[x].s.toList=l[y].s.toList;·exfalso;exact hq (Ce.ext' q1 q2 q3)
        ·go_wp2_with fail;go_ret;rw[hres.o];exact⟨rfl,mU.yP pq.o eY.o⟩
       ·go_wp2_with fail;go_ret;rw[hres.o];exact⟨rfl,mU.yP pq.o eY.o⟩
      ·go_wp2_with fail;go_ret;rw[hres.o];exact⟨rfl,mU.yP pq.o eY.o⟩
     case pos=>
      have HQ:=Y hq;rw[<-hq]at r0 r1 r2;clear hq;by_cases hk3:l[x].kind=3;case neg=>
       have Nj:(l[x].kind==3)=false:=by simpa using hk3
       have hres:=Y (show aU (k+1) [(a,b)] l t=⟨true,l,t,k⟩by rw[HR.o,O (dY HQ.o),O hk3]);clear hk3;go_wp2_with fail;go_ret;rw[hres.o];exact⟨rfl,mU.yP pq.o eY.o⟩
      case pos=>
       have hn:1<=l[x].n/\l[x].n<=4/\(x:Int)+l[x].n<l.length:=by unfold Ce.fU at Ob;omega
       have hn2:(y:Int)+l[x].n<l.length:=by rw[<-HQ.o]at Ki;unfold Ce.fU at Ki;omega
       obtain⟨hn1,vR,hnl⟩:=hn;obtain⟨nn,hnn⟩:=dH (show 0<=l[x].n by omega);have hres:=Y (show aU (k+1) [(a,b)] l t=aU k ((argsAt (x:Int) (nn:Int)).zip (argsAt (y:Int) (nn:Int))) l t by rw[HR.o,O (dY HQ.o),G hk3,hnn]);have qV:=mZ.o;rw[hk3,hnn]at qV;have aqS:=Y qV;rw[hnn]at p1 r1 hn1 vR hnl hn2;rw[hk3]at p0 r0;have hpl:((argsAt (x:Int) (nn:Int)).zip (argsAt (y:Int) (nn:Int))).length=nn:=by simp[argsAt]
       have YR:∀j(hj:j<((argsAt (x:Int) (nn:Int)).zip (argsAt (y:Int) (nn:Int))).length),((argsAt (x:Int) (nn:Int)).zip (argsAt (y:Int) (nn:Int)))[j]=((x:Int)+1+(j:Int),(y:Int)+1+(j:Int)):=fun j hj=>by rw[List.getElem_zip,JH,JH]
       generalize(argsAt (x:Int) (nn:Int)).zip (argsAt (y:Int) (nn:Int))=ps at hres hpl YR;have SS:=Y hpl;have HPG:=Y YR;have XK:nn<=4:=by omega
       clear hk3 hnn hpl YR qV mZ Ob Ki;go_wp2_with fail;clear p0 p1 p2 pf r0 r1 r2 rf;go_loopw[9](fun i wr=>∃(j m:Nat)(lj:List Ce)(tj:List Int)(Od:Value),j<=nn/\i= .int .i64 ((j:Int)+1)/\m<=k/\aU k (ps.take j) l t=⟨true,lj,tj,(m:Int)⟩/\iH lj/\kV g base (.slice (some ⟨cb,0,none⟩) l.length cc) Od lj tj m wr/\Ch (UM g (.slice (some ⟨cb,0,none⟩) l.length cc) (.slice ta t.length tc)) w wr/\(∀b,ownB Od=some b->ownB (.slice ta t.length tc)=some b\/w.heap.size<=b)/\wr.heap[b7]?=some (.cells #[.int .i64 3,.int .i64 (nn:Int),.string l[x].s] 112 (0,0)))(fun i _=>nn+1 - (intOf i).toNat);case atStart=>exact⟨0,k,l,t,_,dA _,rfl,zL _,by rw[nD,Jq],HG.o,pq.o,eY.o.mono (fun x _ e=> .inl e),fun b h=> .inl h,aqS.o⟩
       case round=>
        obtain⟨j,m,lj,tj,Od,hj,rfl,hm,htk,hgj,hu,hch,oz,hbx⟩:=hrel;have dD:=Y htk;have HGJ:=Y hgj;have nY:=Y hu;have iA:=Y hch;have YS:=Y oz;have bL:=Y hbx;obtain⟨z0,z1,z2,zf⟩:=gG hbx;clear htk hgj hu hch oz hbx;by_cases hlt:j<nn
        ·have hja:j<ps.length:=by rw[SS.o];exact hlt
         have hnext:ps.take (j+1)=ps.take j++[((x:Int)+1+(j:Int),(y:Int)+1+(j:Int))]:=by rw[iq hja,HPG.o]
         have hsplit:ps=ps.take (j+1)++ps.drop (j+1):=(Aj _ _).symm;have dW:=Y (show aU k (ps.take (j+1)) l t=aU m [((x:Int)+1+(j:Int),(y:Int)+1+(j:Int))] lj tj by rw[hnext,aee,dD.o,G rfl];simp);have dN:=Y (show(aU m [((x:Int)+1+(j:Int),(y:Int)+1+(j:Int))] lj tj).ok=false->aU k ps l t=aU m [((x:Int)+1+(j:Int),(y:Int)+1+(j:Int))] lj tj by
          intro hf;conv=>lhs;rw[hsplit]
          rw[aee,dW.o,O (by rw[hf];simp)]);clear hsplit hnext hja;go_wp2_with fail;rw[show(x:Int)+((j:Int)+1)=(x:Int)+1+(j:Int)by omega,show(y:Int)+((j:Int)+1)=(y:Int)+1+(j:Int)by omega];refine(IH.out m hm _ Od lj tj ((x:Int)+1+(j:Int)) ((y:Int)+1+(j:Int)) wr HGJ.o (by unfold ah;omega) (by unfold ah;omega) nY.o).mono ?_;rintro e w5⟨rfl,H9,lS,dw,agE⟩;have hb5:=(dw.block b7 (ax bL.o) (fun h=>by
          rcases h with h|h|h;·omega
          ·have :=zI (kU.o.symm.trans h);omega
          ·exact I.eG nY.o.2.2.1 bL.o (by decide) h)).trans bL.o;have Kj:Ch (UM g (.slice (some ⟨cb,0,none⟩) l.length cc) (.slice ta t.length tc)) w w5:=iA.o.trans dw (fun b h=>by
          rcases h with h|h|h;·exact .inl (.inl h)
          ·exact .inl (.inr (.inl h))
          ·rcases YS.o b h with h'|h';·exact .inl (.inr (.inr h'))
           ·exact .inr h');have hwr:w.heap.size<=wr.heap.size:=iA.o.size;have agF:∀b,ownB H9=some b->ownB (.slice ta t.length tc)=some b\/w.heap.size<=b:=fun b h=>by
          rcases agE b h with h'|h';·exact YS.o b h'
          ·exact .inr (by omega)
         have Ia:=aed m [((x:Int)+1+(j:Int),(y:Int)+1+(j:Int))] lj tj;have rT:=Re m [((x:Int)+1+(j:Int),(y:Int)+1+(j:Int))] lj tj;generalize aU m [((x:Int)+1+(j:Int),(y:Int)+1+(j:Int))] lj tj=u at*;obtain⟨ok,lu,tu,wu⟩:=u;simp only at Ia rT lS;have bH:=Y hb5;have NA:=Y Kj;have agG:=Y agF;have fE:=Y lS;have Kk:=Y Ia;have Ib:=Y rT;clear lS dw agE hb5 Kj agF Ia rT z0 z1 z2 zf;cases ok with
          |false=>have hres2:=Y (hres.o.trans (dN.o rfl));go_wp2_with fail;go_ret;rw[hres2.o];exact⟨rfl,H9,fE.o,NA.o,agG.o⟩
          |true=>
           obtain⟨k1,k2,k3⟩:=Kk.o;have k4:=k3 rfl;obtain⟨mm,rfl⟩:=dH k4;obtain⟨vs, -,hvb, -⟩:=Ib.o rfl;have HGU:=Y (hvb.good HGJ.o);have hmm:mm<=k:=by omega
           clear k1 k2 k3 k4 hvb;go_wp2_with fail;go_roundw;case rel=>exact⟨j+1,mm,lu,tu,H9,by omega,by go_num,hmm,dW.o,HGU.o,fE.o,NA.o,agG.o,bH.o⟩
           case measure=>simp[intOf];omega
        ·have bZ:j=nn:=by omega
         have hres2:=Y (show aU (k+1) [(a,b)] l t=⟨true,lj,tj,(m:Int)⟩by have :=dD.o;rw[kg (by rw[SS.o];omega)]at this;rw[hres.o,this]);clear bZ;go_wp2_with fail;go_ret;rw[hres2.o];exact⟨rfl,Od,nY.o,iA.o,YS.o⟩
theorem aqV(g base:Nat):∀k,SN g base k:=by intro k;induction k using Nat.strongRecOn with|_ k ih=>cases k with|zero=>exact aqP g base|succ k=>exact aqQ g base k fun m hm=>ih m (by omega)
open Classical in noncomputable def iB(h:Hp)(a b:Int):Hp×Bool×Int:=if ¬h.Good then(h,false,1)else if ¬(Inb h.cells a/\Inb h.cells b)then(h,false,4)else let u:=aU 400 [(a,b)] h.cells h.trail;if u.work<0 then(h,false,3)else if u.ok=false then(h,false,0)else if 65536<u.trail.length then(h,false,3)else(⟨u.cells,u.trail⟩,true,0)
def agH(A:Nat->Prop)(x:Hp×Bool×Int)(r:Value)(w':World):Prop:=∃us,r= .tuple #[.agg us.toArray,.bool x.2.1,.int .i64 x.2.2]/\Hp.rep A w' x.1 us
def YT(base:Nat)(h:Hp):Value->World->Prop:=fun v w=>∃c t,v= .agg #[c,t,.int .i64 400]/\jM w base h.cells c/\dC w base h.trail t
def Oe(base:Nat)(h:Hp):Value->World->Prop:=fun v w=>∃g cv tv,v= .pointer (some ⟨g,0,none⟩)/\kV g base cv tv h.cells h.trail 400 w
theorem aqW(base:Nat)(h:Hp):vQ (YT base h):=fun v w w'⟨c,t,e,h1,h2⟩hb=>⟨c,t,e,I.below h1 hb,I.below h2 hb⟩
theorem aqX(base:Nat)(h:Hp):vQ (Oe base h):=fun v w w'⟨g,c,t,e,h1⟩hb=>⟨g,c,t,e,h1.below hb⟩
theorem agI(h:Hp)(a b:Int)(ha:ah a)(hb:ah b)(A:Nat->Prop)(w:World)(vs:List Value)(hh:Hp.rep A w h vs):Calls Tryz.prog 111 #[.agg vs.toArray,.int .i64 a,.int .i64 b] w (Pure w (agH (fun b=>A b\/New w b) (iB h a b))):=by
 obtain⟨va,cap,vb,aH,rfl,hc1,hc2,hc3,ht1,ht2,ht3,hc,ht⟩:=Hp.nS hh;have HH:=Y hh;have HC:=Y hc;have HT:=Y ht;have Ba:=Y ha;have uQ:=Y hb;have kH:=Y (fun w'(hk:J A w w')=>Eh h A w' _ (Hp.rep.keeps hh hk));clear hh hc ht ha hb;go_enter Tryz.func111,Tryz.ntmps111;go_wp2_with fail;refine(kH.o _ ((J.alloc _ _ _).trans (J.alloc _ _ _))).mono ?_;rintro e w1⟨v,rfl,hb1,t,rfl,ht⟩;have h2:=mi w (.cells #[.slice va h.cells.length cap,.slice vb h.trail.length aH] 59) (.cells #[.slice none 0 0,.slice none 0 0] 59);have bK:=Y (aA h2.1 hb1);have bu:=Y (aA h2.2 hb1);have HB:=Y (show Below w.heap.size w w1 from iO (iO (hb1.mono (by simp))));have hz:w.heap.size+1<w1.heap.size:=by have :=hb1.size;simp at this;omega
 have hz':w.heap.size<w1.heap.size:=by omega
 have ng:=Y ht;have hcs:=bF;clear h2 hb1 ht;obtain⟨x0,x1,xf⟩:=dL bK.o;obtain⟨y0,y1,yf⟩:=dL bu.o;cases t with
  |false=>
   have hg:¬h.Good:=fun hg=>by have :=ng.o.2 hg;cases this
   go_wp2_with fail;refine bX (v:= .tuple #[.agg #[.slice va h.cells.length cap,.slice vb h.trail.length aH],.bool false,.int .i64 1]) (by simp[results,Tryz.results111,go_sem,hcs,x0,x1,y0,y1]) rfl ?_;have hb:Below w.heap.size w ((w1.setCell ⟨w.heap.size+1,0,none⟩ (.slice va h.cells.length cap)).setCell ⟨w.heap.size+1,1,none⟩ (.slice vb h.trail.length aH)):=bE (bE HB.o (by simp) _) (by simp) _;rw[iB,G hg];exact Pure.mk hb ⟨_,rfl,Hp.rep.mono (Hp.rep.keeps HH.o (J.ob hb)) (fun _ _ h=> .inl h)⟩
  |true=>
   have HG:=Y (ng.o.1 rfl);have uS:=Y HG.o.2.2.1;have HL2:=Y HG.o.2.2.2;clear ng;by_cases hin:Inb h.cells a/\Inb h.cells b;case neg=>have fD:=Y hin;have hin':¬(0<=a/\a<(h.cells.length:Int)/\0<=b/\b<(h.cells.length:Int)):=fun k=>hin ⟨⟨k.1,k.2.1⟩,k.2.2.1,k.2.2.2⟩;clear hin;go_wp2_with fail;all_goals first|(exfalso;omega)|(refine bX (v:= .tuple #[.agg #[.slice va h.cells.length cap,.slice vb h.trail.length aH],.bool false,.int .i64 4]) (by simp[results,Tryz.results111,go_sem,hcs,x0,x1,y0,y1]) rfl ?_;have hb:Below w.heap.size w ((w1.setCell ⟨w.heap.size+1,0,none⟩ (.slice va h.cells.length cap)).setCell ⟨w.heap.size+1,1,none⟩ (.slice vb h.trail.length aH)):=bE (bE HB.o (by simp) _) (by simp) _;rw[iB,O (dY HG.o),G fD.o];exact Pure.mk hb ⟨_,rfl,Hp.rep.mono (Hp.rep.keeps HH.o (J.ob hb)) (fun _ _ h=> .inl h)⟩)|go_ways
   case pos=>
    have fD:=Y hin;obtain⟨⟨i1,i2⟩,i3,i4⟩:=hin;go_wp2_with fail;obtain⟨W0,rfl⟩:∃z,z=w1:=⟨_,rfl⟩;have eT:Hd (∀w',Below W0.heap.size W0 w'->Below w.heap.size w w'/\w'.cell? ⟨w.heap.size,0,none⟩=some (.slice va h.cells.length cap)/\w'.cell? ⟨w.heap.size,1,none⟩=some (.slice vb h.trail.length aH)/\w'.heap[w.heap.size]?=some (.cells #[.slice va h.cells.length cap,.slice vb h.trail.length aH] 59 (0,0))/\w'.heap[w.heap.size+1]?=some (.cells #[.slice none 0 0,.slice none 0 0] 59 (0,0))):=Y fun w' hb=>by have h1:=aA bK.o hb;have h2:=aA bu.o hb;obtain⟨z0,z1, -⟩:=dL h1;exact⟨HB.o.trans (hb.mono (by omega)),z0,z1,h1,h2⟩
    have hsz':w.heap.size+2<=W0.heap.size:=by omega
    refine aeA (Inv:=fun w'=>Below W0.heap.size W0 w') (Po:=posts [aG (.pointer (some ⟨w.heap.size,0,none⟩)),aG (.slice va h.cells.length cap),Ni W0.heap.size h.cells,aG (.pointer (some ⟨w.heap.size,1,none⟩)),aG (.slice vb h.trail.length aH),sZ W0.heap.size h.trail,XJ W0.heap.size h,YT W0.heap.size h,Oe W0.heap.size h,Oe W0.heap.size h]) (Rl:=fun w w'=>Below w.heap.size w w') (by kernel_rfl) (by kernel_rfl) (by kernel_rfl) ((Z _ _).drew) ?_ ?_ ?_ ?_;·refine AL fun R hR=>?_;simp only[jr,yz,vI]at hR;rcases hR with rfl|rfl|rfl|rfl|rfl|rfl|rfl|rfl|rfl|rfl<;>first|exact AJ _|exact J8|exact J9 _|exact Ka _|exact Kb _|exact Kc _|exact Ke _|exact Kg _|exact Kh _|exact GL _ _|exact Ew _ _|exact aoZ _ _|exact aqW _ _|exact aqX _ _
    ·exact fun w1 w2 h h'=>h.trans (h'.mono h.size)
    ·intro i o ho f ac ww hinv hpo hdst hold;match i,ho with
      |0,ho=>obtain rfl:_=o:=zI ho;have t3:=zE hold 3;refine zW ?_;clear hdst hpo hold ho hinv;unfold ay;go_simp;exact⟨rfl,Z _ _⟩
      |1,ho=>obtain rfl:_=o:=zI ho;have t36:=zD hdst 0 36;have p0:=zE hpo 0;refine zW ?_;clear hdst hpo hold ho;rw[show f 0=_ from p0]at t36;obtain⟨-,x0,x1, -⟩:=eT.o ww hinv;unfold ay;go_simp;exact⟨rfl,Z _ _⟩
      |2,ho=>obtain rfl:_=o:=zI ho;have t37:=zD hdst 1 37;have p1:=zE hpo 1;refine zW ?_;clear hdst hpo hold ho;rw[show f 1=_ from p1]at t37;unfold ay;go_simp;refine(RH h.cells A _ _ (ag.keeps Ce.ae HC.o (J.ob (eT.o ww hinv).1))).mono ?_;rintro e w1⟨r,rfl,hb,hr⟩;exact⟨_,rfl,I.sS hr (fun k hk=>dm hinv.size (I.lt hr k hk).1),hb⟩
      |3,ho=>obtain rfl:_=o:=zI ho;have t3:=zE hold 3;refine zW ?_;clear hdst hpo hold ho hinv;unfold ay;go_simp;exact⟨rfl,Z _ _⟩
      |4,ho=>obtain rfl:_=o:=zI ho;have t39:=zD hdst 3 39;have p3:=zE hpo 3;refine zW ?_;clear hdst hpo hold ho;rw[show f 3=_ from p3]at t39;obtain⟨-,x0,x1, -⟩:=eT.o ww hinv;unfold ay;go_simp;exact⟨rfl,Z _ _⟩
      |5,ho=>obtain rfl:_=o:=zI ho;have t40:=zD hdst 4 40;have p4:=zE hpo 4;refine zW ?_;clear hdst hpo hold ho;rw[show f 4=_ from p4]at t40;unfold ay;go_simp;refine(XF h.trail A _ _ (ag.keeps aN HT.o (J.ob (eT.o ww hinv).1))).mono ?_;rintro e w1⟨r,rfl,hb,hr⟩;exact⟨_,rfl,I.sS hr (fun k hk=>dm hinv.size (I.lt hr k hk).1),hb⟩
      |6,ho=>
       obtain rfl:_=o:=zI ho;have t38:=zD hdst 2 38;have p2:(Ni W0.heap.size h.cells) (f 2) ww:=zE hpo 2;have t41:=zD hdst 5 41;have p5:(sZ W0.heap.size h.trail) (f 5) ww:=zE hpo 5;refine zW ?_;clear hdst hpo hold ho;have P2:=Y p2;have P5:=Y p5;obtain⟨a1,c1,e2, -⟩:=I.val p2;obtain⟨a2,c2,e5, -⟩:=I.val p5;rw[e2]at t38;rw[e5]at t41;clear hinv p2 p5;unfold ay;go_simp;refine⟨⟨_,rfl,_,_,rfl,?_,?_⟩,Z _ _⟩;·rw[<-e2];exact P2.out
       ·rw[<-e5];exact P5.out
      |7,ho=>obtain rfl:_=o:=zI ho;have t42:=zD hdst 6 42;have p6:(XJ W0.heap.size h) (f 6) ww:=zE hpo 6;refine zW ?_;clear hdst hpo hold ho;obtain⟨us,e6,c,t,rfl,hc,ht⟩:=p6;have P2:=Y hc;have P5:=Y ht;obtain⟨a1,c1,rfl, -⟩:=I.val hc;obtain⟨a2,c2,rfl, -⟩:=I.val ht;rw[e6]at t42;clear hinv hc ht;unfold ay;go_simp;exact⟨⟨_,_,rfl,P2.out,P5.out⟩,Z _ _⟩
      |8,ho=>obtain rfl:_=o:=zI ho;have t43:=zD hdst 7 43;have p7:(YT W0.heap.size h) (f 7) ww:=zE hpo 7;refine zW ?_;clear hdst hpo hold ho;obtain⟨c,t,e7,hc,ht⟩:=p7;have P2:=Y hc;have P5:=Y ht;have hB:=Y hinv;rw[e7]at t43;clear hinv hc ht;unfold ay;go_simp;refine⟨⟨ww.heap.size,c,t,rfl,bq _ _,I.below P2.out ((Z _ _).alloc (zL _) _),I.below P5.out ((Z _ _).alloc (zL _) _),hB.out.size,uS.o,by have :=HL2.o;omega,by omega,by omega⟩,(Z _ _).alloc (zL _) _⟩
      |9,ho=>obtain rfl:_=o:=zI ho;have t44:=zD hdst 8 44;have p8:(Oe W0.heap.size h) (f 8) ww:=zE hpo 8;refine zW ?_;clear hdst hpo hold ho hinv;unfold ay;go_simp;exact⟨p8,Z _ _⟩
      |i+10,ho=>simp at ho
    ·intro f ww hinv hpo;have p9:(Oe W0.heap.size h) (f 9) ww:=hpo 9 (by decide);obtain⟨g,cv,tv,e9,hu⟩:=p9;simp only[je,BU,Am,Ca];rw[e9];have HU:=Y hu;have fM:=Y hinv;have hzz:W0.heap.size<=ww.heap.size:=hinv.size;clear hinv hpo hu x0 x1 xf y0 y1 yf;go_wp2_with fail;refine(aqV g W0.heap.size 400 cv tv h.cells h.trail a b ww HG.o.1 Ba.o uQ.o HU.o).mono ?_;rintro e w5⟨rfl,tv',lS,dw, -⟩;have hb5:Below W0.heap.size W0 w5:=((Ch.of_below (M:=fun _=>False) fM.o).trans dw (fun x hx=> .inr (by
      rcases hx with hx|hx|hx;·rw[hx];exact HU.o.lt.2.1
      ·exact(HU.o.2.1.lt x hx).1
      ·exact(HU.o.2.2.1.lt x hx).1))).below (fun _ _ h=>h);obtain⟨hbw, -, -,hX1,hX2⟩:=eT.o w5 hb5;have bK:=Y hX1;have bu:=Y hX2;have Db:=Y hbw;obtain⟨x0,x1,xf⟩:=dL hX1;obtain⟨y0,y1,yf⟩:=dL hX2;have rU:w.heap.size+1<w5.heap.size:=ax hX2;have aA3:w.heap.size<w5.heap.size:=by omega
     have hun:iB h a b=(let u:=aU 400 [(a,b)] h.cells h.trail;if u.work<0 then(h,false,3)else if u.ok=false then(h,false,0)else if 65536<u.trail.length then(h,false,3)else(⟨u.cells,u.trail⟩,true,0)):=by rw[iB,O (dY HG.o),O (dY fD.o)]
     have Ia:=aed 400 [(a,b)] h.cells h.trail;have rT:=Re 400 [(a,b)] h.cells h.trail;generalize aU 400 [(a,b)] h.cells h.trail=u at*;obtain⟨ok,lu,tu,wu⟩:=u;simp only at Ia rT lS hun;have gL:=Y hun;have Kk:=Y Ia;have Ib:=Y rT;have fE:=Y lS;obtain⟨ca,cc,ta,tc,rfl,rfl,e1,e2,e3,e4⟩:=lS.vals;obtain⟨q0,q1,q2,qf⟩:=gG lS.1;have hg5:=lS.lt;have hgb:w.heap.size+2<=g:=dm hsz' hg5.2.1;clear lS dw hb5 hX1 hX2 hbw hun Ia rT;have HOLD:Hd (∀(w':World)(n e:Int)(o:Bool),Below w.heap.size w w'->agH (fun b=>A b\/New w b) (h,o,e) (.tuple #[.agg #[.slice va h.cells.length cap,.slice vb h.trail.length aH],.bool o,.int .i64 e]) w'):=Y fun w' n e o hb=>⟨_,rfl,Hp.rep.mono (Hp.rep.keeps HH.o (J.ob hb)) (fun _ _ h=> .inl h)⟩;by_cases hw:wu<0;·have hres:=Y (show iB h a b=(h,false,3)by rw[gL.o,G hw]);go_wp2_with fail;refine bX (v:= .tuple #[.agg #[.slice va h.cells.length cap,.slice vb h.trail.length aH],.bool false,.int .i64 3]) (by simp[results,Tryz.results111,go_sem,hcs,x0,x1,y0,y1]) rfl ?_;have hb:Below w.heap.size w ((w5.setCell ⟨w.heap.size+1,0,none⟩ (.slice va h.cells.length cap)).setCell ⟨w.heap.size+1,1,none⟩ (.slice vb h.trail.length aH)):=bE (bE Db.o (by simp) _) (by simp) _;rw[hres.o];exact Pure.mk hb (HOLD.o _ 0 _ _ hb)
     ·cases ok with
       |false=>have hres:=Y (show iB h a b=(h,false,0)by rw[gL.o,O hw,G rfl]);go_wp2_with fail;refine bX (v:= .tuple #[.agg #[.slice va h.cells.length cap,.slice vb h.trail.length aH],.bool false,.int .i64 0]) (by simp[results,Tryz.results111,go_sem,hcs,x0,x1,y0,y1]) rfl ?_;have hb:Below w.heap.size w ((w5.setCell ⟨w.heap.size+1,0,none⟩ (.slice va h.cells.length cap)).setCell ⟨w.heap.size+1,1,none⟩ (.slice vb h.trail.length aH)):=bE (bE Db.o (by simp) _) (by simp) _;rw[hres.o];exact Pure.mk hb (HOLD.o _ 0 _ _ hb)
       |true=>
        by_cases htl:65536<tu.length
        ·have agJ:(65536:Int)<(tu.length:Int):=by omega
         have hres:=Y (show iB h a b=(h,false,3)by rw[gL.o,O hw,O (by simp),G htl]);go_wp2_with fail;refine bX (v:= .tuple #[.agg #[.slice va h.cells.length cap,.slice vb h.trail.length aH],.bool false,.int .i64 3]) (by simp[results,Tryz.results111,go_sem,hcs,x0,x1,y0,y1]) rfl ?_;have hb:Below w.heap.size w ((w5.setCell ⟨w.heap.size+1,0,none⟩ (.slice va h.cells.length cap)).setCell ⟨w.heap.size+1,1,none⟩ (.slice vb h.trail.length aH)):=bE (bE Db.o (by simp) _) (by simp) _;rw[hres.o];exact Pure.mk hb (HOLD.o _ 0 _ _ hb)
        ·have agJ:(tu.length:Int)<=65536:=by omega
         have hres:=Y (show iB h a b=(⟨lu,tu⟩,true,0)by rw[gL.o,O hw,O (by simp),O htl]);have uT:¬w.heap.size+1=g:=by omega
         go_wp2_with fail;refine bX (v:= .tuple #[.agg #[.slice ca lu.length cc,.slice ta tu.length tc],.bool true,.int .i64 0]) (by simp[results,Tryz.results111,go_sem,hcs,x0,x1,y0,y1]) rfl ?_;have hb:Below w.heap.size w ((w5.setCell ⟨w.heap.size+1,0,none⟩ (.slice ca lu.length cc)).setCell ⟨w.heap.size+1,1,none⟩ (.slice ta tu.length tc)):=bE (bE Db.o (by simp) _) (by simp) _;have hk:∀b,W0.heap.size<=b->((w5.setCell ⟨w.heap.size+1,0,none⟩ (.slice ca lu.length cc)).setCell ⟨w.heap.size+1,1,none⟩ (.slice ta tu.length tc)).heap[b]?=w5.heap[b]?:=fun b hb=>by rw[aW _ _ _ _ (by simp only;omega),aW _ _ _ _ (by simp only;omega)]
         rw[hres.o];refine Pure.mk hb ⟨_,rfl,_,_,rfl,?_,?_⟩;·exact I.sl Ce.lM Ce.Cr (I.kept fE.o.2.1 (fun k hk'=>hk k (I.lt fE.o.2.1 k hk').1)) (by have :=fE.o.2.2.2.2.1;omega) (fun k hk'=> .inr (by have :=(I.lt fE.o.2.1 k hk').1;unfold New;omega))
         ·exact I.sl eu Az (I.kept fE.o.2.2.1 (fun k hk'=>hk k (I.lt fE.o.2.2.1 k hk').1)) (by omega) (fun k hk'=> .inr (by have :=(I.lt fE.o.2.2.1 k hk').1;unfold New;omega))
