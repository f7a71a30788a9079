import Derived.Test.YtlpmfkpefoegeacGreatDoorHCode2
import Derived.Deep.DeepCutAuto
import Derived.BigRegion
namespace Go.Proofs.YtlpmfkpefoegeacGreatDoor
set_option maxRecDepth 99999
set_option maxHeartbeats 0
set_option linter.all false
theorem Ce.fo.more{N M i:Nat}{c:Ce}(h:c.fo N i)(hM:N<=M):c.fo M i:=by
 rcases h with⟨h1,h2,h3,h4⟩|h|h|⟨h1,h2,h3,h4,h5⟩;·exact .inl ⟨h1,h2,by omega,h4⟩
 ·exact .inr (.inl h)
 ·exact .inr (.inr (.inl h))
 ·exact .inr (.inr (.inr ⟨h1,h2,h3,by omega,h5⟩))
theorem Ce.fo.moved{N i b:Nat}{c:Ce}(h:c.fo N i):(dh b c).fo (b+N) (b+i):=by
 rcases h with⟨h1,h2,h3,h4⟩|⟨h1,h2,h3⟩|⟨h1,h2⟩|⟨h1,h2,h3,h4,h5⟩
 ·refine .inl ⟨by rw[FB];exact h1,?_,?_,?_⟩;·rw[FC _ h1];omega
  ·rw[FC _ h1];omega
  ·unfold dh;rw[ah h1];exact h4
 ·rw[zw _ (by rw[h1];decide)];exact .inr (.inl ⟨h1,h2,h3⟩)
 ·rw[zw _ (by rw[h1];decide)];exact .inr (.inr (.inl ⟨h1,h2⟩))
 ·rw[zw _ (by rw[h1];decide)];exact .inr (.inr (.inr ⟨h1,h2,h3,by omega,h5⟩))
theorem SB{h:Hp}{F:List Ce}(hg:h.Good)(hF:gB F)(hl:h.cells.length+F.length<=65536):Hp.Good ⟨h.cells++F.map (dh h.cells.length),h.trail⟩:=by
 obtain⟨g1,g2,g3,g4⟩:=hg;refine⟨fun i hi=>?_,fun j hj=>?_,by simpa using hl,g4⟩
 ·simp only[bA,jq]at hi ⊢;rw[List.getElem_append];split;·rename_i hl2;exact(g1 i hl2).more (by omega)
  ·rename_i hl2;rw[Ls];have :=(hF (i - h.cells.length) (by omega)).moved (b:=h.cells.length);rwa[show h.cells.length+(i - h.cells.length)=i by omega]at this
 ·obtain⟨v,e,hv,hk⟩:=g2 j hj;refine⟨v,e,by simp;omega,?_⟩;simp only;rw[Eo hv];exact hk
theorem Ni(t:Tm)(c:List Ce):c.length<(aZ c t).length:=by
 unfold aZ;split;·obtain⟨k,n,s,l⟩:=t;have h1:=(uG l (c++⟨3,(l.length:Int),s⟩::List.replicate l.length ⟨0,0,.empty⟩) (c.length+1)).1;simp only[bA,bn,yz]at h1;simp only[uF];omega
 ·rename_i h;rw[Sb h];simp
theorem aaR{h:Tm}{l:List Tm}{n:Nat}(hg:(⟨h,l,(n:Int)⟩:Cl).Good)(F:List Ce)(hF:F=(aO (aZ (aK n) h) l).1):F.length<=296/\gB F/\Laid F id (n:Int) h/\∀(j:Nat)(hj:j<l.length),∃a,(aO (aZ (aK n) h) l).2[j]?=some a/\Laid F id a l[j]:=by
 obtain⟨⟨v0,v8,l5,lg⟩, -,hft, -⟩:=hg;simp only at v0 v8 l5 lg hft;have hnd:=Jf l (fun g hg=>(lg g hg).2.2);have h1:=Je h (aK n);have h1p:=Ni h (aK n);have h2:=Bo l (aZ (aK n) h);rw[jI]at h1 h1p;have hh:=hft.2;rw[<-hF]at h2;have sI:∀t∈l,t.Good (n:Int):=fun t ht=>(lg t ht).2.1;have hva:Br F n:=fun i hi=>by rw[hF,Fz l _ i (by omega),aaH h _ i (by rw[jI];exact hi)];exact aaQ n i hi
 refine⟨by omega,?_,?_,?_⟩;·have hok:=Sz (v:=n) (N:=F.length) (by omega) (by omega) l (aZ (aK n) h) sI (aaO (v:=n) (by omega) h _ hft.1 (aaP (by omega)) (by omega) (by omega)) (by rw[<-hF];exact zL _);rw[<-hF]at hok;intro i hi;exact hok i _ (aS hi)
 ·have :=aaI n h (aK n) F hft.1 (by rw[jI];exact zL _) hva (fun i hi hil=>by rw[hF];exact Fz l _ i hil);rw[jI]at this;exact this
 ·exact Sw n F hva l (aZ (aK n) h) sI (by omega) (fun i hi hil=>by rw[hF])
def NF(v:Nat)(c:List Ce):Prop:=∀(i:Nat)(x:Ce),c[i]?=some x->v<=i->x.kind=0->x.n≠(i:Int)
theorem NF.set{v:Nat}{c:List Ce}(h:NF v c){k:Nat}{x:Ce}(hx:x.kind=0->x.n≠(k:Int)):NF v (c.set k x):=by
 intro i y hy hv hk;by_cases e:k=i
 ·subst e;by_cases hl:k<c.length;·rw[Qa hl]at hy;obtain rfl:=zI hy;exact hx hk
  ·rw[Ep (by simp;omega)]at hy;cases hy
 ·rw[Qd e]at hy;exact h i y hy hv hk
theorem NF.frame{v:Nat}{c:List Ce}(h:NF v c)(s:ByteArray)(m:Nat):NF v (c++⟨3,(m:Int),s⟩::List.replicate m ⟨0,0,.empty⟩):=by
 intro i y hy hv hk;by_cases hl:i<c.length;·rw[tV hl]at hy;exact h i y hy hv hk
 ·rw[vw (by omega)]at hy;obtain⟨j,hj⟩:∃j,j=i - c.length:=⟨_,rfl⟩;rw[<-hj]at hy;cases j with
   |zero=>simp only[xm,cZ]at hy;subst hy;simp at hk
   |succ j=>
    rw[List.getElem?_cons_succ,P9]at hy;split at hy;·obtain rfl:=zI hy;simp only;omega
    ·cases hy
mutual
theorem aku (v : Nat) : ∀ (t : Tm) (c : List Ce) (k : Nat), t.Good (v : Int) → NF v c → v ≤ k → k < c.length → NF v (dG c k t)
  | .mk kd n s l, c, k, hg, h, hv, hk => by
    rw [dG]
    split
    · refine h.set fun _ => ?_
      have := Tm.In.n (t := .mk kd n s l) hg (by assumption)
      simp only [Tm.n] at this
      simp only
      omega
    · split
      · exact h.set fun h => by simp at h
      · split
        · exact h.set fun h => by simp at h
        · split
          · have hl : ∀ t ∈ l, t.Good (v : Int) := fun t ht => Tm.In.arg (t := .mk kd n s l) hg ht
            exact SC v l _ _ hl ((h.set (fun _ => by simp only; omega)).frame s l.length) (by omega) (by simp; omega)
          · exact h
theorem SC (v : Nat) : ∀ (l : List Tm) (c : List Ce) (k : Nat), (∀ t ∈ l, t.Good (v : Int)) → NF v c → v ≤ k → k + l.length ≤ c.length → NF v (eG c k l)
  | [], c, k, _, h, _, _ => by rw [eG]; exact h
  | t :: r, c, k, hl, h, hv, hk => by
    rw [eG]
    simp only [bn] at hk
    have := Di t c k
    exact SC v r _ _ (fun x hx => hl x (by simp [hx])) (aku v t c k (hl t (by simp)) h hv (by omega)) (by omega) (by omega)
end
theorem SE(v:Nat)(t:Tm)(c:List Ce)(hg:t.Good (v:Int))(hk:t.jd)(h:NF v c)(hv:v<=c.length):NF v (aZ c t)/\(aZ c t)[c.length]?=some ⟨t.kind,(t.args.length:Int),t.s⟩:=by
 obtain⟨kd,n,s,l⟩:=t;rcases hk with hk|hk<;>simp only[Tm.kind]at hk<;>subst hk
 ·have e0:aZ c (.mk 1 n s l)=(c++[(⟨0,0,.empty⟩:Ce)]).set c.length ⟨1,0,s⟩:=by simp[aZ,Tm.kind,dG]
  rw[e0];show _/\_=some (⟨1,(l.length:Int),s⟩:Ce);have hl:l=[]:=by cases hg;rfl
  subst hl;have e:(c++[(⟨0,0,.empty⟩:Ce)]).set c.length ⟨1,0,s⟩=c++[⟨1,0,s⟩]:=by rw[List.set_append_right _ _ (zL _)];simp
  rw[e];refine⟨fun i y hy hv hk=>?_,by simp⟩;by_cases hl:i<c.length;·rw[tV hl]at hy;exact h i y hy hv hk
  ·rw[vw (by omega)]at hy;cases hq:i - c.length with|zero=>rw[hq]at hy;simp only[xm,cZ]at hy;subst hy;simp at hk|succ j=>rw[hq]at hy;simp at hy
 ·have e0:aZ c (.mk 3 n s l)=eG (c++⟨3,(l.length:Int),s⟩::List.replicate l.length ⟨0,0,.empty⟩) (c.length+1) l:=by simp[aZ,Tm.kind,uF]
  rw[e0];show _/\_=some (⟨3,(l.length:Int),s⟩:Ce);have hl:∀t∈l,t.Good (v:Int):=fun t ht=>Tm.In.arg (t:= .mk 3 n s l) hg ht;refine⟨SC v l _ _ hl (h.frame s l.length) (by omega) (by simp;omega),?_⟩;rw[Bq l _ _ c.length (by simp) (by omega),vw (zL _)];simp
theorem Nj(v:Nat):∀(l:List Tm)(c:List Ce),(∀t∈l,t.jd/\t.Good (v:Int))->NF v c->v<=c.length->NF v (aO c l).1/\∀(j:Nat)(hj:j<l.length),∃a:Nat,(aO c l).2[j]?=some (a:Int)/\(aO c l).1[a]?=some ⟨l[j].kind,(l[j].args.length:Int),l[j].s⟩|[],c,_,h,_=>⟨h,fun j hj=>by simp at hj⟩|t::r,c,hl,h,hv=>by have hp:=Ni t c;obtain⟨k1,k2⟩:=SE v t c (hl t (by simp)).2 (hl t (by simp)).1 h hv;obtain⟨k3,k4⟩:=Nj v r (aZ c t) (fun x hx=>hl x (by simp[hx])) k1 (by omega);simp only[aO];refine⟨k3,fun j hj=>?_⟩;cases j with|zero=>exact⟨c.length,rfl,by rw[Fz r _ _ hp];exact k2⟩|succ j=>obtain⟨a,e1,e2⟩:=k4 j (by simpa using hj);exact⟨a,by simpa using e1,by simpa using e2⟩
theorem SF(n:Nat):NF n (aK n):=fun i x hx hv _=>by rw[Ep (by rw[jI];exact hv)]at hx;cases hx
section
variable {l F : List Ce} {φ : Int → Int} {E : Env} {N : Int}
def jO(l:List Ce)(N:Int)(φ:Int->Int)(x:Int):Int:=if x<l.length then φ x else N+(x - l.length)
theorem Dx{a:Int}(h:Inb l a):cellAt (l++F.map (dh l.length)) a=cellAt l a/\Inb (l++F.map (dh l.length)) a:=by obtain⟨k,rfl,hk,e⟩:=mJ h;rw[iQ (show k<(l++F.map (dh l.length)).length by simp;omega),Eo hk,e];exact⟨rfl,zN _,by simp;omega⟩
theorem akv(hg:gB l):lM l (l++F.map (dh l.length)) (Inb l) id:=by
 have hok:∀a,Inb l a->(cellAt l a).fo l.length a.toNat:=fun a ha=>by obtain⟨k,rfl,hk,e⟩:=mJ ha;rw[e,dB];exact hg k hk
 refine⟨fun a ha=>⟨ha,(Dx ha).2⟩,fun a ha=>?_,fun a ha hk=>?_,fun a ha hk i hi=>?_,fun a b _ _ h=>h⟩;·show cellAt _ a=_;rw[(Dx ha).1];unfold uE;split<;>rfl
 ·have :=hok a ha;unfold Ce.fo at this;unfold Inb;omega
 ·have h1:=hok a ha;unfold Ce.fo at h1;have :=ha.1;exact⟨⟨by omega,by omega⟩,rfl⟩
theorem Nk{v:Nat}(hF:NF v F){x:Int}(h:gD (l++F.map (dh l.length)) x):(x<l.length/\gD l x)\/((l.length:Int)<=x/\x<l.length+v):=by
 obtain⟨h1,h2,h3⟩:=h;by_cases hl:x<l.length;·have hi:Inb l x:=⟨h1.1,hl⟩;rw[(Dx hi).1]at h2 h3;exact .inl ⟨hl,hi,h2,h3⟩
 ·refine .inr ⟨by omega,Cq fun hn=>?_⟩;have hi:Inb F (x - l.length):=⟨by omega,by have :=h1.2;simp only[bA,jq]at this;omega⟩;obtain⟨e1,e2⟩:=Bt (H:=l) hi;rw[show x - (l.length:Int)+l.length=x by omega]at e1;rw[e1,FB]at h2;rw[e1,FC _ h2]at h3;obtain⟨k,hk,hkl,e⟩:=mJ hi;exact hF k _ (aS hkl) (by omega) (by rw[<-e];exact h2) (by rw[<-e];omega)
theorem SG(hM:Mon N l φ E)(hE:dI N E)(hN:0<=N){v:Nat}(hF:NF v F):Mon (N+v) (l++F.map (dh l.length)) (jO l N φ) E:=by
 refine⟨fun x y hx hy hlt=>?_,fun x hx=>?_,fun x hx=>?_⟩
 ·rcases Nk hF hx with⟨a1,a2⟩|⟨a1,a2⟩<;>rcases Nk hF hy with⟨b1,b2⟩|⟨b1,b2⟩<;>unfold jO;·rw[ah a1,ah b1];exact hM.lt x y a2 b2 hlt
  ·rw[ah a1,ae (by omega)];have :=hM.bd x a2;omega
  ·omega
  ·rw[ae (by omega),ae (by omega)];omega
 ·rcases Nk hF hx with⟨a1,a2⟩|⟨a1,a2⟩<;>unfold jO;·rw[ah a1];have :=hM.bd x a2;omega
  ·rw[ae (by omega)];omega
 ·rcases Nk hF hx with⟨a1,a2⟩|⟨a1,a2⟩<;>unfold jO;·rw[ah a1];exact hM.free x a2
  ·rw[ae (by omega),Q0];intro p hp;have :=hE.key p hp;omega
theorem Nl(hg:gB l){a:Int}{t:Tm}(ha:Inb l a)(h:Hr l φ E (fun _=>True) a t):Hr (l++F.map (dh l.length)) (jO l N φ) E (fun _=>True) a t:=(akv (F:=F) hg).hr (fun x hx _ _=>⟨by show jO l N φ x=φ x;unfold jO;rw[ah hx.2],trivial⟩) h ha
theorem aaS{L:List Ce}{g φ:Int->Int}{v:Int}(hE:dI N E)(hN:0<=N)(Js:N<1000000)(FE:v<=8)(hφ:∀n,0<=n->n<v->φ (g n)=N+n):∀(t:Tm)(a:Int),t.Good v->Laid L g a t->Hr L φ E (fun _=>True) a (fM t N):=by
 intro t;induction t using Tm.induct with
  |h k n s l ih=>
   intro a hgd h;rw[Laid]at h;obtain⟨x,hx,hc⟩:=h;rcases hc with⟨rfl,rfl,rfl,rfl,h5⟩|⟨rfl,rfl,rfl,h4⟩|⟨rfl,rfl,rfl,h4⟩|⟨rfl,rfl,h3,h4⟩
   ·have hn:=Tm.In.n (t:= .mk 0 n .empty []) hgd rfl;simp only[Tm.n]at hn;have e:fM (.mk 0 n .empty []) N=jG (N+n):=by unfold fM jG;simp only[Tm.ren,if_true,Tm.qC,EY hn.1 (show n<1099511627776 by omega),EY hN (show N<1099511627776 by omega)];rw[Hg]
    have hst:aB E (jG (N+n))=jG (N+n):=jF (.inr (by rw[Q0];intro p hp;have :=hE.key p hp;show p.1≠N+n;omega));rw[e];exact .var hx h5 trivial (by rw[hst];rfl) (by rw[hst,hφ n hn.1 hn.2];rfl)
   ·have e:fM (.mk 1 0 s []) N= .mk 1 0 s []:=by simp[fM,Tm.ren,Tm.qC]
    have hst:aB E (.mk 1 0 s [])= .mk 1 0 s []:=jF (.inl (by simp[Tm.kind]));rw[e];exact .leaf hx (by rw[hst,h4]<;>rfl) (by rw[hst];simp[Tm.kind]) (by rw[hst];simp[Tm.kind]) (by rw[hst,h4]<;>rfl) (by rw[hst,h4]<;>rfl) (by rw[hst];rfl)
   ·have e:fM (.mk 2 n .empty []) N= .mk 2 n .empty []:=by simp[fM,Tm.ren,Tm.qC]
    have hst:aB E (.mk 2 n .empty [])= .mk 2 n .empty []:=jF (.inl (by simp[Tm.kind]));rw[e];exact .leaf hx (by rw[hst,h4]<;>rfl) (by rw[hst];simp[Tm.kind]) (by rw[hst];simp[Tm.kind]) (by rw[hst,h4]<;>rfl) (by rw[hst,h4]<;>rfl) (by rw[hst];rfl)
   ·have e:fM (.mk 3 0 s l) N= .mk 3 0 s (l.map fun t=>fM t N):=by simp[fM,Tm.ren,Tm.Hy]
    have hst:aB E (.mk 3 0 s (l.map fun t=>fM t N))= .mk 3 0 s (l.map fun t=>fM t N):=jF (.inl (by simp[Tm.kind]));rw[e];have hL:∀(r:List Tm)(b:Int),Laid.qQ L g b r->∀(i:Nat)(hi:i<r.length),Laid L g (b+(i:Nat)) r[i]:=by intro r;induction r with|nil=>intro b _ i hi;simp at hi|cons y r ihr=>intro b hb i hi;simp only[Laid.qQ]at hb;cases i with|zero=>simpa using hb.1|succ i=>have :=ihr (b+1) hb.2 i (by simpa using hi);rw[show b+((i+1:Nat):Int)=b+1+(i:Nat)by omega];exact this
    refine .comp hx (by rw[h3]) (by rw[hst];rfl) (by rw[hst];rfl) (by rw[hst,h3];simp[Tm.args]) (by rw[hst,h3];rfl) ?_;rw[hst];intro i hi;simp only[Tm.args,jq]at hi;simp only[Tm.args,Ls];exact ih _ (bZ hi) _ (Tm.In.arg (t:= .mk 3 0 s l) hgd (bZ hi)) (hL l _ h4 i hi)
end
open Go.RowKit
noncomputable def FH(k:Nat)(l:List Ce)(t:List Int)(x y:Int):Un:=if(cellAt l x).kind=0/\(cellAt l y).kind=0 then(if x=y then⟨true,l,t,k⟩else⟨true,eQ l (max x y) (min x y),t++[max x y],k⟩)else if(cellAt l x).kind=0\/(cellAt l y).kind=0 then(if(bK l (if(cellAt l y).kind=0 then y else x) k [if(cellAt l y).kind=0 then x else y]).1=true\/(bK l (if(cellAt l y).kind=0 then y else x) k [if(cellAt l y).kind=0 then x else y]).2<0 then⟨false,l,t,(bK l (if(cellAt l y).kind=0 then y else x) k [if(cellAt l y).kind=0 then x else y]).2⟩else⟨true,eQ l (if(cellAt l y).kind=0 then y else x) (if(cellAt l y).kind=0 then x else y),t++[if(cellAt l y).kind=0 then y else x],((min k (bK l (if(cellAt l y).kind=0 then y else x) k [if(cellAt l y).kind=0 then x else y]).2.toNat:Nat):Int)⟩)else if cellAt l x≠cellAt l y then⟨false,l,t,k⟩else if(cellAt l x).kind=3 then aY k ((argsAt x (cellAt l x).n).zip (argsAt y (cellAt l x).n)) l t else⟨true,l,t,k⟩
theorem aaT(k:Nat)(a b:Int)(l:List Ce)(t:List Int):aY (k+1) [(a,b)] l t=if look l a<0\/look l b<0 then⟨false,l,t, -1⟩else FH k l t (look l a) (look l b):=by rw[aY];simp only[EH,nW];rfl
def akw(g base:Nat)(cv tv:Value)(w:World)(u:Un)(e:Ending)(w':World):Prop:=e= .returned (.bool u.ok)/\ko g base cv tv w u.cells u.trail u.work w'
def Nn(g base:Nat)(k:Nat):Prop:=∀(cv tv:Value)(l:List Ce)(t:List Int)(a b:Int)(w:World),gB l->au a->au b->jA g base cv tv l t k w->Calls Tryz.prog 133 #[.pointer (some ⟨g,0,none⟩),.int .i64 a,.int .i64 b] w (akw g base cv tv w (aY k [(a,b)] l t))
theorem akx(g base:Nat):Nn g base 0:=by intro cv tv l t a b w hgood ha hb h;have HU:=zh h;obtain⟨ca,cc,ta,tc,rfl,rfl,e1,e2,e3,e4⟩:=h.vals;have hlt:=h.lt;obtain⟨h1,h2,h3,h4,h5,h6,h7,h8⟩:=h;obtain⟨x0,x1,x2,xf⟩:=fO h1;have hcs:=dz;have HG:=zh hgood;clear h1 h2 h3 hgood;rw[Ia];go_enter Tryz.func133,Tryz.ntmps133;go_wp2_with fail;go_ret;exact⟨rfl,ko.vQ (HU.o.turn (k':= -1) (by decide) (by decide)) (CS _ _ _ _)⟩
theorem aky(g base:Nat)(k:Nat)(ih:∀m,m<=k->Nn g base m):Nn g base (k+1):=by
 intro cv tv l t a b w hgood ha hb h;have HU:=zh h;obtain⟨ca,cc,ta,tc,rfl,rfl,e1,e2,e3,e4⟩:=h.vals;have hlt:=h.lt;have nE:=zh (HU.o.turn (k':=k) (by omega) (by omega));obtain⟨h1,h2,h3,h4,h5,h6,h7,h8⟩:=h;obtain⟨x0,x1,x2,xf⟩:=fO h1;have hcs:=dz;have aiv:(k:Int)<=400:=by omega
 have hk0:(0:Int)<=(k:Int):=zN _;have hkt:(t.length:Int)+1+k<=70000:=by omega
 have xP:=zh ha;have qR:=zh hb;have HG:=zh hgood;have IH:=zh ih;rw[show((k+1:Nat):Int)=(k:Int)+1 by omega]at x2;clear h1 h2 h3 h6 h7 h8 ha hb hgood ih;go_enter Tryz.func133,Tryz.ntmps133;go_wp2_with fail;generalize HW1:w.setCell ⟨g,2,none⟩ (.int .i64 (k:Int))=W1 at nE ⊢;have gp:Hd (∀w',Below W1.heap.size W1 w'->w'.cell? ⟨g,0,none⟩=some (.slice ca l.length cc)/\w'.cell? ⟨g,1,none⟩=some (.slice ta t.length tc)):=zh fun w' hb=>by obtain⟨z0,z1, -⟩:=fO (nE.o.below hb).1;exact⟨z0,z1⟩
 clear x0 x1 x2 xf;refine YL (Inv:=fun w'=>Below W1.heap.size W1 w') (Po:=posts [bq (.pointer (some ⟨g,0,none⟩)),bq (.pointer (some ⟨g,0,none⟩)),bq (.pointer (some ⟨g,0,none⟩)),bq (.agg #[.slice ca l.length cc,.slice ta t.length tc]),bq (.int .i64 a),bq (.int .i64 (look l a)),bq (.pointer (some ⟨g,0,none⟩)),bq (.pointer (some ⟨g,0,none⟩)),bq (.pointer (some ⟨g,0,none⟩)),bq (.agg #[.slice ca l.length cc,.slice ta t.length tc]),bq (.int .i64 b),bq (.int .i64 (look l b)),bq (.int .i64 (look l a)),bq (.int .i64 (look l b))]) (Rl:=fun w w'=>Below w.heap.size w w') (by kernel_rfl) (by kernel_rfl) (by kernel_rfl) ((zB _ _).drew) ?_ ?_ ?_ ?_;·refine Bc fun R hR=>?_;simp only[iG,yC,vD]at hR;rcases hR with rfl|rfl|rfl|rfl|rfl|rfl|rfl|rfl|rfl|rfl|rfl|rfl|rfl|rfl<;>first|exact Ba _|exact FI|exact FJ _|exact FK _|exact FL _|exact FM _|exact FN _|exact FO _|exact FP _|exact CR _ _|exact Bb _ _
 ·exact fun w1 w2 h h'=>h.trans (h'.mono h.size)
 ·intro i o ho f ac ww hinv hpo hdst hold;match i,ho with|0,ho=>obtain rfl:_=o:=zI ho;have t0:=hold 0 (by kernel_rfl);refine Or.inl ⟨aR rfl,?_⟩;clear hdst hpo hold ho hinv;unfold aP;go_simp;exact⟨rfl,zB _ _⟩|1,ho=>obtain rfl:_=o:=zI ho;have t22:=hdst 0 22 (by kernel_rfl) (by kernel_rfl);have p0:=hpo 0 (by kernel_rfl);refine Or.inl ⟨aR rfl,?_⟩;clear hdst hpo hold ho;rw[show f 0=_ from p0]at t22;clear hinv;unfold aP;go_simp;exact⟨rfl,zB _ _⟩|2,ho=>obtain rfl:_=o:=zI ho;have t23:=hdst 1 23 (by kernel_rfl) (by kernel_rfl);have p1:=hpo 1 (by kernel_rfl);refine Or.inl ⟨aR rfl,?_⟩;clear hdst hpo hold ho;rw[show f 1=_ from p1]at t23;clear hinv;unfold aP;go_simp;exact⟨rfl,zB _ _⟩|3,ho=>obtain rfl:_=o:=zI ho;have t24:=hdst 2 24 (by kernel_rfl) (by kernel_rfl);have p2:=hpo 2 (by kernel_rfl);refine Or.inl ⟨aR rfl,?_⟩;clear hdst hpo hold ho;rw[show f 2=_ from p2]at t24;obtain⟨x0,x1⟩:=gp.o ww hinv;unfold aP;go_simp;exact⟨rfl,zB _ _⟩|4,ho=>obtain rfl:_=o:=zI ho;have t1:=hold 1 (by kernel_rfl);refine Or.inl ⟨aR rfl,?_⟩;clear hdst hpo hold ho hinv;unfold aP;go_simp;exact⟨rfl,zB _ _⟩|5,ho=>obtain rfl:_=o:=zI ho;have t25:=hdst 3 25 (by kernel_rfl) (by kernel_rfl);have p3:=hpo 3 (by kernel_rfl);have t26:=hdst 4 26 (by kernel_rfl) (by kernel_rfl);have p4:=hpo 4 (by kernel_rfl);refine Or.inl ⟨aR rfl,?_⟩;clear hdst hpo hold ho;rw[show f 3=_ from p3]at t25;rw[show f 4=_ from p4]at t26;unfold aP;go_simp;have hU:=nE.o.below hinv;refine(look_ok ⟨l,t⟩ a xP.o (fun _=>True) _ _ hU.rep).mono ?_;rintro e w1⟨r,rfl,hb,rfl⟩;exact⟨_,rfl,rfl,hb⟩|6,ho=>obtain rfl:_=o:=zI ho;have t0:=hold 0 (by kernel_rfl);refine Or.inl ⟨aR rfl,?_⟩;clear hdst hpo hold ho hinv;unfold aP;go_simp;exact⟨rfl,zB _ _⟩|7,ho=>obtain rfl:_=o:=zI ho;have t28:=hdst 6 28 (by kernel_rfl) (by kernel_rfl);have p6:=hpo 6 (by kernel_rfl);refine Or.inl ⟨aR rfl,?_⟩;clear hdst hpo hold ho;rw[show f 6=_ from p6]at t28;clear hinv;unfold aP;go_simp;exact⟨rfl,zB _ _⟩|8,ho=>obtain rfl:_=o:=zI ho;have t29:=hdst 7 29 (by kernel_rfl) (by kernel_rfl);have p7:=hpo 7 (by kernel_rfl);refine Or.inl ⟨aR rfl,?_⟩;clear hdst hpo hold ho;rw[show f 7=_ from p7]at t29;clear hinv;unfold aP;go_simp;exact⟨rfl,zB _ _⟩|9,ho=>obtain rfl:_=o:=zI ho;have t30:=hdst 8 30 (by kernel_rfl) (by kernel_rfl);have p8:=hpo 8 (by kernel_rfl);refine Or.inl ⟨aR rfl,?_⟩;clear hdst hpo hold ho;rw[show f 8=_ from p8]at t30;obtain⟨x0,x1⟩:=gp.o ww hinv;unfold aP;go_simp;exact⟨rfl,zB _ _⟩|10,ho=>obtain rfl:_=o:=zI ho;have t2:=hold 2 (by kernel_rfl);refine Or.inl ⟨aR rfl,?_⟩;clear hdst hpo hold ho hinv;unfold aP;go_simp;exact⟨rfl,zB _ _⟩|11,ho=>obtain rfl:_=o:=zI ho;have t31:=hdst 9 31 (by kernel_rfl) (by kernel_rfl);have p9:=hpo 9 (by kernel_rfl);have t32:=hdst 10 32 (by kernel_rfl) (by kernel_rfl);have sJ:=hpo 10 (by kernel_rfl);refine Or.inl ⟨aR rfl,?_⟩;clear hdst hpo hold ho;rw[show f 9=_ from p9]at t31;rw[show f 10=_ from sJ]at t32;unfold aP;go_simp;have hU:=nE.o.below hinv;refine(look_ok ⟨l,t⟩ b qR.o (fun _=>True) _ _ hU.rep).mono ?_;rintro e w1⟨r,rfl,hb,rfl⟩;exact⟨_,rfl,rfl,hb⟩|12,ho=>obtain rfl:_=o:=zI ho;have t27:=hdst 5 27 (by kernel_rfl) (by kernel_rfl);have p5:=hpo 5 (by kernel_rfl);refine Or.inl ⟨aR rfl,?_⟩;clear hdst hpo hold ho;rw[show f 5=_ from p5]at t27;clear hinv;unfold aP;go_simp;exact⟨rfl,zB _ _⟩|13,ho=>obtain rfl:_=o:=zI ho;have t33:=hdst 11 33 (by kernel_rfl) (by kernel_rfl);have wC:=hpo 11 (by kernel_rfl);refine Or.inl ⟨aR rfl,?_⟩;clear hdst hpo hold ho;rw[show f 11=_ from wC]at t33;clear hinv;unfold aP;go_simp;exact⟨rfl,zB _ _⟩|i+14,ho=>simp at ho
 ·intro f ww hinv hpo;have xQ:(bq (.int .i64 (look l a))) (f 12) ww:=hpo 12 (by decide);have Dy:(bq (.int .i64 (look l b))) (f 13) ww:=hpo 13 (by decide);simp only[jv,Co,Aq,Cu];rw[show f 12=_ from xQ,show f 13=_ from Dy];have dJ:=zh (nE.o.below hinv);have dK:=zh (show Ch (fun b=>b=g) w ww from by subst HW1;exact(CS _ _ _ _).tb hinv);have hWz:w.heap.size<=ww.heap.size:=dK.o.size;have hga:=LU l a;have hgb:=LU l b;obtain⟨y0,y1,y2,yf⟩:=fO dJ.o.1;clear hinv hpo xQ Dy HW1;by_cases hneg:look l a<0\/look l b<0;·have HR:=zh (show aY (k+1) [(a,b)] l t=⟨false,l,t, -1⟩by rw[aaT,ah hneg]);go_wp2_with fail;all_goals go_ret;rw[HR.o];exact⟨rfl,ko.vQ (dJ.o.turn (k':= -1) (by decide) (by omega)) (dK.o.Mw _ _)⟩
  obtain⟨x,hx,hxl,hcx⟩:=mJ (H7 (l:=l) (a:=a) (by omega)).1;obtain⟨y,hy,hyl,hcy⟩:=mJ (H7 (l:=l) (a:=b) (by omega)).1;have akz:=zh (aaT k a b l t);have akA:=zh hneg;have HX:=zh hx;have HY:=zh hy;have xR:=zh (show cellAt l (x:Int)=l[x]by rw[<-hx];exact hcx);have Bu:=zh (show cellAt l (y:Int)=l[y]by rw[<-hy];exact hcy);have Jt:=HG.o x hxl;have FQ:=HG.o y hyl;rw[hx,hy];have hx0:(0:Int)<=(x:Int):=zN _;have hx1:(x:Int)<(l.length:Int):=by omega
  have hy0:(0:Int)<=(y:Int):=zN _;have hy1:(y:Int)<(l.length:Int):=by omega
  obtain⟨cb,rfl,bX,c0,c1,c2,hok, -,hcb, -⟩:=iL.cell dJ.o.2.1 hxl;obtain⟨cb',e, -,d0,d1,d2,hok', -, -, -⟩:=iL.cell dJ.o.2.1 hyl;simp only[cZ,Ey,ug]at e;subst e;have gV:=zh bX;have hgw:g<ww.heap.size:=dJ.o.lt.1;clear hx hy hcx hcy hneg hga hgb bX;have xw:=zh (show aY (k+1) [(a,b)] l t=FH k l t x y by rw[akz.o,ae akA.o,HX.o,HY.o]);go_wp2_with fail;refine(xD _ _ _ _ _ _ _ _ dJ.o x hxl).mono ?_;rintro e w3⟨rfl,rfl⟩;by_cases hk:l[x].kind=0
  ·rw[hk];by_cases hk2:l[y].kind=0
   ·have HR:=zh (show aY (k+1) [(a,b)] l t=if(x:Int)=y then⟨true,l,t,k⟩else⟨true,eQ l (max (x:Int) y) (min (x:Int) y),t++[max (x:Int) y],k⟩by rw[xw.o,FH,xR.o,Bu.o,ah ⟨hk,hk2⟩]);go_wp2_with fail;refine(xD _ _ _ _ _ _ _ _ dJ.o y hyl).mono ?_;rintro e w3⟨rfl,rfl⟩;rw[hk2];clear Jt FQ hk hk2 c0 c1 c2 d0 d1 d2;rcases Nat.lt_trichotomy x y with hxy|hxy|hxy
    ·have hxy':((x:Int)!= (y:Int))=true:=by simp;omega
     have hm1:max (x:Int) (y:Int)=(y:Int):=by omega
     have hm2:min (x:Int) (y:Int)=(x:Int):=by omega
     have hres:=zh (show aY (k+1) [(a,b)] l t=⟨true,eQ l (y:Int) (x:Int),t++[(y:Int)],k⟩by rw[HR.o,ae (by omega),hm1,hm2]);have fQ:=zh hm1;have gY:=zh hm2;clear hm1 hm2;go_wp2_with fail;try rw[fQ.o,gY.o]
     refine(bind_ok g base _ _ l t (k:Int) ww dJ.o (by omega) y hyl (x:Int) (by unfold au;omega)).mono ?_;rintro e w6⟨r,rfl,hst⟩;have HST:=zh hst;clear hst;go_wp2_with fail;go_ret;rw[hres.o];exact⟨rfl,ko.trans (dK.o.mono fun x _ e=> .inl e) (fun b h=> .inl h) HST.o⟩
    ·subst hxy;have hres:=zh (show aY (k+1) [(a,b)] l t=⟨true,l,t,k⟩by rw[HR.o,ah rfl]);go_wp2_with fail;go_ret;rw[hres.o];exact⟨rfl,ko.vQ dJ.o dK.o⟩
    ·have hxy':((x:Int)!= (y:Int))=true:=by simp;omega
     have hm1:max (x:Int) (y:Int)=(x:Int):=by omega
     have hm2:min (x:Int) (y:Int)=(y:Int):=by omega
     have hres:=zh (show aY (k+1) [(a,b)] l t=⟨true,eQ l (x:Int) (y:Int),t++[(x:Int)],k⟩by rw[HR.o,ae (by omega),hm1,hm2]);have fQ:=zh hm1;have gY:=zh hm2;clear hm1 hm2;go_wp2_with fail;try rw[fQ.o,gY.o]
     refine(bind_ok g base _ _ l t (k:Int) ww dJ.o (by omega) x hxl (y:Int) (by unfold au;omega)).mono ?_;rintro e w6⟨r,rfl,hst⟩;have HST:=zh hst;clear hst;go_wp2_with fail;go_ret;rw[hres.o];exact⟨rfl,ko.trans (dK.o.mono fun x _ e=> .inl e) (fun b h=> .inl h) HST.o⟩
   ·have xS:(l[y].kind==0)=false:=by simpa using hk2
    have HR:=zh (show aY (k+1) [(a,b)] l t=(if(bK l (x:Int) k [(y:Int)]).1=true\/(bK l (x:Int) k [(y:Int)]).2<0 then⟨false,l,t,(bK l (x:Int) k [(y:Int)]).2⟩else⟨true,eQ l (x:Int) (y:Int),t++[(x:Int)],((min k (bK l (x:Int) k [(y:Int)]).2.toNat:Nat):Int)⟩)by rw[xw.o,FH,xR.o,Bu.o,ae (fun h=>hk2 h.2),ah (.inl hk)];simp only[ae hk2]);go_wp2_with fail;refine(xD _ _ _ _ _ _ _ _ dJ.o y hyl).mono ?_;rintro e w3⟨rfl,rfl⟩;rw[xS];go_wp2_with fail;refine(xD _ _ _ _ _ _ _ _ dJ.o y hyl).mono ?_;rintro e w3⟨rfl,rfl⟩;rw[xS];go_wp2_with fail;refine(xD _ _ _ _ _ _ _ _ dJ.o x hxl).mono ?_;rintro e w3⟨rfl,rfl⟩;rw[hk];clear Jt FQ hk hk2 xS c0 c1 c2 d0 d1 d2;go_wp2_with fail;refine(Zx g base (.slice (some ⟨cb,0,none⟩) l.length cc) (.slice ta t.length tc) l t (x:Int) (by unfold au;omega) HG.o k (y:Int) ww (by unfold au;omega) dJ.o).mono ?_;rintro e w5⟨rfl,kg,kQ⟩;have gH:=zh kQ;have gX:=zh (dK.o.trans kg (fun _ h=> .inl h));obtain⟨q0,q1,q2,qf⟩:=fO kQ.1;have Bd:=EG l (x:Int) k [(y:Int)];have vP:=H9 l (x:Int) k [(y:Int)];generalize bK l (x:Int) k [(y:Int)]=p at*;obtain⟨pf,pw⟩:=p;simp only at Bd vP q0 q1 q2;obtain⟨hp1,hp2⟩:=Bd;have IJ:=zh vP;clear kQ kg vP y0 y1 y2 yf;cases pf with
     |true=>have hpw:0<=pw:=IJ.o rfl;have hres:=zh (show aY (k+1) [(a,b)] l t=⟨false,l,t,pw⟩by rw[HR.o,ah (.inl rfl)]);go_wp2_with fail;go_ret;rw[hres.o];exact⟨rfl,ko.vQ gH.o gX.o⟩
     |false=>
      by_cases hpw:pw<0;·have hres:=zh (show aY (k+1) [(a,b)] l t=⟨false,l,t,pw⟩by rw[HR.o,ah (.inr hpw)]);go_wp2_with fail;go_ret;rw[hres.o];exact⟨rfl,ko.vQ gH.o gX.o⟩
      ·obtain⟨pm,rfl⟩:=eu (show 0<=pw by omega);have hres:=zh (show aY (k+1) [(a,b)] l t=⟨true,eQ l (x:Int) (y:Int),t++[(x:Int)],(pm:Int)⟩by rw[HR.o,ae (by simp),show min k (pm:Int).toNat=pm by simp;omega]);go_wp2_with fail;refine(bind_ok g base _ _ l t (pm:Int) w5 gH.o (by omega) x hxl (y:Int) (by unfold au;omega)).mono ?_;rintro e w6⟨r,rfl,hst⟩;have HST:=zh hst;clear hst q0 q1 q2 qf;go_wp2_with fail;go_ret;rw[hres.o];exact⟨rfl,ko.trans (gX.o.mono fun x _ e=> .inl e) (fun b h=> .inl h) HST.o⟩
  ·have hk':(l[x].kind==0)=false:=by simpa using hk
   rw[hk'];by_cases hk2:l[y].kind=0
   ·have HR:=zh (show aY (k+1) [(a,b)] l t=(if(bK l (y:Int) k [(x:Int)]).1=true\/(bK l (y:Int) k [(x:Int)]).2<0 then⟨false,l,t,(bK l (y:Int) k [(x:Int)]).2⟩else⟨true,eQ l (y:Int) (x:Int),t++[(y:Int)],((min k (bK l (y:Int) k [(x:Int)]).2.toNat:Nat):Int)⟩)by rw[xw.o,FH,xR.o,Bu.o,ae (fun h=>hk h.1),ah (.inr hk2)];simp only[ah hk2]);go_wp2_with fail;refine(xD _ _ _ _ _ _ _ _ dJ.o y hyl).mono ?_;rintro e w3⟨rfl,rfl⟩;rw[hk2];go_wp2_with fail;refine(xD _ _ _ _ _ _ _ _ dJ.o y hyl).mono ?_;rintro e w3⟨rfl,rfl⟩;rw[hk2];clear Jt FQ hk hk2 hk' c0 c1 c2 d0 d1 d2;go_wp2_with fail;refine(Zx g base (.slice (some ⟨cb,0,none⟩) l.length cc) (.slice ta t.length tc) l t (y:Int) (by unfold au;omega) HG.o k (x:Int) ww (by unfold au;omega) dJ.o).mono ?_;rintro e w5⟨rfl,kg,kQ⟩;have gH:=zh kQ;have gX:=zh (dK.o.trans kg (fun _ h=> .inl h));obtain⟨q0,q1,q2,qf⟩:=fO kQ.1;have Bd:=EG l (y:Int) k [(x:Int)];have vP:=H9 l (y:Int) k [(x:Int)];generalize bK l (y:Int) k [(x:Int)]=p at*;obtain⟨pf,pw⟩:=p;simp only at Bd vP q0 q1 q2;obtain⟨hp1,hp2⟩:=Bd;have IJ:=zh vP;clear kQ kg vP y0 y1 y2 yf;cases pf with
     |true=>have hpw:0<=pw:=IJ.o rfl;have hres:=zh (show aY (k+1) [(a,b)] l t=⟨false,l,t,pw⟩by rw[HR.o,ah (.inl rfl)]);go_wp2_with fail;go_ret;rw[hres.o];exact⟨rfl,ko.vQ gH.o gX.o⟩
     |false=>
      by_cases hpw:pw<0;·have hres:=zh (show aY (k+1) [(a,b)] l t=⟨false,l,t,pw⟩by rw[HR.o,ah (.inr hpw)]);go_wp2_with fail;go_ret;rw[hres.o];exact⟨rfl,ko.vQ gH.o gX.o⟩
      ·obtain⟨pm,rfl⟩:=eu (show 0<=pw by omega);have hres:=zh (show aY (k+1) [(a,b)] l t=⟨true,eQ l (y:Int) (x:Int),t++[(y:Int)],(pm:Int)⟩by rw[HR.o,ae (by simp),show min k (pm:Int).toNat=pm by simp;omega]);go_wp2_with fail;refine(bind_ok g base _ _ l t (pm:Int) w5 gH.o (by omega) y hyl (x:Int) (by unfold au;omega)).mono ?_;rintro e w6⟨r,rfl,hst⟩;have HST:=zh hst;clear hst q0 q1 q2 qf;go_wp2_with fail;go_ret;rw[hres.o];exact⟨rfl,ko.trans (gX.o.mono fun x _ e=> .inl e) (fun b h=> .inl h) HST.o⟩
   ·have xS:(l[y].kind==0)=false:=by simpa using hk2
    have HR:=zh (show aY (k+1) [(a,b)] l t=(if l[x]≠l[y]then⟨false,l,t,k⟩else if l[x].kind=3 then aY k ((argsAt (x:Int) l[x].n).zip (argsAt (y:Int) l[x].n)) l t else⟨true,l,t,k⟩)by rw[xw.o,FH,xR.o,Bu.o,ae (fun h=>hk h.1),ae (fun h=>h.elim hk hk2)]);go_wp2_with fail;refine(xD _ _ _ _ _ _ _ _ dJ.o y hyl).mono ?_;rintro e w3⟨rfl,rfl⟩;rw[xS];go_wp2_with fail;refine(xD _ _ _ _ _ _ _ _ dJ.o x hxl).mono ?_;rintro e w3⟨rfl,rfl⟩;rw[hk'];clear hk2 xS hk hk';go_upto_region 19 with fail;go_cut[7,8](fun u7 u8 wr=>∃b7 b8,u7= .pointer (some ⟨b7,0,none⟩)/\u8= .pointer (some ⟨b8,0,none⟩)/\wr.heap[b7]?=some (.cells #[.int .i64 l[x].kind,.int .i64 l[x].n,.string l[x].s] 112 (0,0))/\wr.heap[b8]?=some (.cells #[.int .i64 l[y].kind,.int .i64 l[y].n,.string l[y].s] 112 (0,0))/\Below ww.heap.size ww wr/\ww.heap.size<=b7/\ww.heap.size<=b8);case first=>go_region;all_goals go_wp2_with fail;go_meet;first|exact⟨_,_,rfl,rfl,(mG _ _ _).1,(mG _ _ _).2,(((zB _ _).alloc (zL _) _).alloc (by simp) _).drew,by omega,by omega⟩|exact⟨_,_,rfl,rfl,(mG _ _ _).2,(mG _ _ _).1,(((zB _ _).alloc (zL _) _).alloc (by simp) _).drew,by omega,by omega⟩
    case rest=>
     obtain⟨b7,b8,rfl,rfl,kV,pY,hbel,SH,hz8⟩:=hcut;have CU:=zh (dJ.o.below hbel);have lG:=zh (dK.o.tb hbel);have oQ:=zh kV;obtain⟨p0,p1,p2,pf⟩:=fO kV;obtain⟨r0,r1,r2,rf⟩:=fO pY;clear kV pY hbel c0 c1 c2 d0 d1 d2 y0 y1 y2 yf;by_cases hq:l[x]=l[y];case neg=>
      have hres:=zh (show aY (k+1) [(a,b)] l t=⟨false,l,t,k⟩by rw[HR.o,ah hq]);by_cases q1:l[x].kind=l[y].kind
      ·by_cases q2:l[x].n=l[y].n
       ·by_cases q3:l[x].s.toList=l[y].s.toList;·exfalso;exact hq (Ce.ext' q1 q2 q3)
        ·go_wp2_with fail;go_ret;rw[hres.o];exact⟨rfl,ko.vQ CU.o lG.o⟩
       ·go_wp2_with fail;go_ret;rw[hres.o];exact⟨rfl,ko.vQ CU.o lG.o⟩
      ·go_wp2_with fail;go_ret;rw[hres.o];exact⟨rfl,ko.vQ CU.o lG.o⟩
     case pos=>
      have HQ:=zh hq;rw[<-hq]at r0 r1 r2;clear hq;by_cases hk3:l[x].kind=3;case neg=>
       have Fa:(l[x].kind==3)=false:=by simpa using hk3
       have hres:=zh (show aY (k+1) [(a,b)] l t=⟨true,l,t,k⟩by rw[HR.o,ae (dL HQ.o),ae hk3]);clear hk3;go_wp2_with fail;go_ret;rw[hres.o];exact⟨rfl,ko.vQ CU.o lG.o⟩
      case pos=>
       have hn:1<=l[x].n/\l[x].n<=4/\(x:Int)+l[x].n<l.length:=by unfold Ce.fo at Jt;omega
       have hn2:(y:Int)+l[x].n<l.length:=by rw[<-HQ.o]at FQ;unfold Ce.fo at FQ;omega
       obtain⟨hn1,rX,hnl⟩:=hn;obtain⟨nn,hnn⟩:=eu (show 0<=l[x].n by omega);have hres:=zh (show aY (k+1) [(a,b)] l t=aY k ((argsAt (x:Int) (nn:Int)).zip (argsAt (y:Int) (nn:Int))) l t by rw[HR.o,ae (dL HQ.o),ah hk3,hnn]);have kV:=oQ.o;rw[hk3,hnn]at kV;have akB:=zh kV;rw[hnn]at p1 r1 hn1 rX hnl hn2;rw[hk3]at p0 r0;have hpl:((argsAt (x:Int) (nn:Int)).zip (argsAt (y:Int) (nn:Int))).length=nn:=by simp[argsAt]
       have SI:∀j(hj:j<((argsAt (x:Int) (nn:Int)).zip (argsAt (y:Int) (nn:Int))).length),((argsAt (x:Int) (nn:Int)).zip (argsAt (y:Int) (nn:Int)))[j]=((x:Int)+1+(j:Int),(y:Int)+1+(j:Int)):=fun j hj=>by rw[List.getElem_zip,E9,E9]
       generalize(argsAt (x:Int) (nn:Int)).zip (argsAt (y:Int) (nn:Int))=ps at hres hpl SI;have Np:=zh hpl;have HPG:=zh SI;have Rn:nn<=4:=by omega
       clear hk3 hnn hpl SI kV oQ Jt FQ;go_wp2_with fail;clear p0 p1 p2 pf r0 r1 r2 rf;go_loopw[9](fun i wr=>∃(j m:Nat)(lj:List Ce)(tj:List Int)(Ju:Value),j<=nn/\i= .int .i64 ((j:Int)+1)/\m<=k/\aY k (ps.take j) l t=⟨true,lj,tj,(m:Int)⟩/\gB lj/\jA g base (.slice (some ⟨cb,0,none⟩) l.length cc) Ju lj tj m wr/\Ch (UM g (.slice (some ⟨cb,0,none⟩) l.length cc) (.slice ta t.length tc)) w wr/\(∀b,ownB Ju=some b->ownB (.slice ta t.length tc)=some b\/w.heap.size<=b)/\wr.heap[b7]?=some (.cells #[.int .i64 3,.int .i64 (nn:Int),.string l[x].s] 112 (0,0)))(fun i _=>nn+1 - (intOf i).toNat);case atStart=>exact⟨0,k,l,t,_,dD _,rfl,zL _,by rw[ng,EH],HG.o,CU.o,lG.o.mono (fun x _ e=> .inl e),fun b h=> .inl h,akB.o⟩
       case round=>
        obtain⟨j,m,lj,tj,Ju,hj,rfl,hm,htk,hgj,hu,hch,htv,hbx⟩:=hrel;have fB:=zh htk;have HGJ:=zh hgj;have nG:=zh hu;have j6:=zh hch;have SK:=zh htv;have dH:=zh hbx;obtain⟨z0,z1,z2,zf⟩:=fO hbx;clear htk hgj hu hch htv hbx;by_cases hlt:j<nn
        ·have hja:j<ps.length:=by rw[Np.o];exact hlt
         have hnext:ps.take (j+1)=ps.take j++[((x:Int)+1+(j:Int),(y:Int)+1+(j:Int))]:=by rw[fF hja,HPG.o]
         have hsplit:ps=ps.take (j+1)++ps.drop (j+1):=(G8 _ _).symm;have fV:=zh (show aY k (ps.take (j+1)) l t=aY m [((x:Int)+1+(j:Int),(y:Int)+1+(j:Int))] lj tj by rw[hnext,Ym,fB.o,ah rfl];simp);have dV:=zh (show(aY m [((x:Int)+1+(j:Int),(y:Int)+1+(j:Int))] lj tj).ok=false->aY k ps l t=aY m [((x:Int)+1+(j:Int),(y:Int)+1+(j:Int))] lj tj by
          intro hf;conv=>lhs;rw[hsplit]
          rw[Ym,fV.o,ae (by rw[hf];simp)]);clear hsplit hnext hja;go_wp2_with fail;rw[show(x:Int)+((j:Int)+1)=(x:Int)+1+(j:Int)by omega,show(y:Int)+((j:Int)+1)=(y:Int)+1+(j:Int)by omega];refine(IH.out m hm _ Ju lj tj ((x:Int)+1+(j:Int)) ((y:Int)+1+(j:Int)) wr HGJ.o (by unfold au;omega) (by unfold au;omega) nG.o).mono ?_;rintro e w5⟨rfl,SL,kQ,kg,aaX⟩;have hb5:=(kg.block b7 (aD dH.o) (fun h=>by
          rcases h with h|h|h;·omega
          ·have :=zI (gV.o.symm.trans h);omega
          ·exact af.dU nG.o.2.2.1 dH.o (by decide) h)).trans dH.o;have Jv:Ch (UM g (.slice (some ⟨cb,0,none⟩) l.length cc) (.slice ta t.length tc)) w w5:=j6.o.trans kg (fun b h=>by
          rcases h with h|h|h;·exact .inl (.inl h)
          ·exact .inl (.inr (.inl h))
          ·rcases SK.o b h with h'|h';·exact .inl (.inr (.inr h'))
           ·exact .inr h');have hwr:w.heap.size<=wr.heap.size:=j6.o.size;have aaY:∀b,ownB SL=some b->ownB (.slice ta t.length tc)=some b\/w.heap.size<=b:=fun b h=>by
          rcases aaX b h with h'|h';·exact SK.o b h'
          ·exact .inr (by omega)
         have Dz:=Yl m [((x:Int)+1+(j:Int),(y:Int)+1+(j:Int))] lj tj;have sw:=LV m [((x:Int)+1+(j:Int),(y:Int)+1+(j:Int))] lj tj;generalize aY m [((x:Int)+1+(j:Int),(y:Int)+1+(j:Int))] lj tj=u at*;obtain⟨ok,lu,tu,wu⟩:=u;simp only at Dz sw kQ;have dx:=zh hb5;have I5:=zh Jv;have aaZ:=zh aaY;have gH:=zh kQ;have HWK:=zh Dz;have aa1:=zh sw;clear kQ kg aaX hb5 Jv aaY Dz sw z0 z1 z2 zf;cases ok with
          |false=>have hres2:=zh (hres.o.trans (dV.o rfl));go_wp2_with fail;go_ret;rw[hres2.o];exact⟨rfl,SL,gH.o,I5.o,aaZ.o⟩
          |true=>
           obtain⟨k1,k2,k3⟩:=HWK.o;have k4:=k3 rfl;obtain⟨mm,rfl⟩:=eu k4;obtain⟨vs, -,hvb, -⟩:=aa1.o rfl;have HGU:=zh (hvb.good HGJ.o);have hmm:mm<=k:=by omega
           clear k1 k2 k3 k4 hvb;go_wp2_with fail;go_roundw;case rel=>exact⟨j+1,mm,lu,tu,SL,by omega,by go_num,hmm,fV.o,HGU.o,gH.o,I5.o,aaZ.o,dx.o⟩
           case measure=>simp[intOf];omega
        ·have dm:j=nn:=by omega
         have hres2:=zh (show aY (k+1) [(a,b)] l t=⟨true,lj,tj,(m:Int)⟩by have :=fB.o;rw[jU (by rw[Np.o];omega)]at this;rw[hres.o,this]);clear dm;go_wp2_with fail;go_ret;rw[hres2.o];exact⟨rfl,Ju,nG.o,j6.o,SK.o⟩
theorem akE(g base:Nat):∀k,Nn g base k:=by intro k;induction k using Nat.strongRecOn with|_ k ih=>cases k with|zero=>exact akx g base|succ k=>exact aky g base k fun m hm=>ih m (by omega)
open Classical in noncomputable def gq(h:Hp)(a b:Int):Hp×Bool×Int:=if ¬h.Good then(h,false,1)else if ¬(Inb h.cells a/\Inb h.cells b)then(h,false,4)else let u:=aY 400 [(a,b)] h.cells h.trail;if u.work<0 then(h,false,3)else if u.ok=false then(h,false,0)else if 65536<u.trail.length then(h,false,3)else(⟨u.cells,u.trail⟩,true,0)
def aa2(A:Nat->Prop)(x:Hp×Bool×Int)(r:Value)(w':World):Prop:=∃us,r= .tuple #[.agg us.toArray,.bool x.2.1,.int .i64 x.2.2]/\Hp.rep A w' x.1 us
def SN(base:Nat)(h:Hp):Value->World->Prop:=fun v w=>∃c t,v= .agg #[c,t,.int .i64 400]/\iL w base h.cells c/\dA w base h.trail t
def Jw(base:Nat)(h:Hp):Value->World->Prop:=fun v w=>∃g cv tv,v= .pointer (some ⟨g,0,none⟩)/\jA g base cv tv h.cells h.trail 400 w
theorem akF(base:Nat)(h:Hp):vO (SN base h):=fun v w w'⟨c,t,e,h1,h2⟩hb=>⟨c,t,e,af.below h1 hb,af.below h2 hb⟩
theorem akG(base:Nat)(h:Hp):vO (Jw base h):=fun v w w'⟨g,c,t,e,h1⟩hb=>⟨g,c,t,e,h1.below hb⟩
theorem aa3(h:Hp)(a b:Int)(ha:au a)(hb:au b)(A:Nat->Prop)(w:World)(vs:List Value)(hh:Hp.rep A w h vs):Calls Tryz.prog 111 #[.agg vs.toArray,.int .i64 a,.int .i64 b] w (Pure w (aa2 (fun b=>A b\/New w b) (gq h a b))):=by
 obtain⟨va,cap,vb,aN,rfl,hc1,hc2,hc3,ht1,ht2,ht3,hc,ht⟩:=Hp.kY hh;have HH:=zh hh;have HC:=zh hc;have HT:=zh ht;have xP:=zh ha;have qR:=zh hb;have lZ:=zh (fun w'(hk:ag A w w')=>AQ h A w' _ (Hp.rep.keeps hh hk));clear hh hc ht ha hb;go_enter Tryz.func111,Tryz.ntmps111;go_wp2_with fail;refine(lZ.o _ ((ag.alloc _ _ _).trans (ag.alloc _ _ _))).mono ?_;rintro e w1⟨v,rfl,hb1,t,rfl,ht⟩;have h2:=mG w (.cells #[.slice va h.cells.length cap,.slice vb h.trail.length aN] 59) (.cells #[.slice none 0 0,.slice none 0 0] 59);have bR:=zh (aL h2.1 hb1);have bG:=zh (aL h2.2 hb1);have HB:=zh (show Below w.heap.size w w1 from gU (gU (hb1.mono (by simp))));have hz:w.heap.size+1<w1.heap.size:=by have :=hb1.size;simp at this;omega
 have hz':w.heap.size<w1.heap.size:=by omega
 have kC:=zh ht;have hcs:=dz;clear h2 hb1 ht;obtain⟨x0,x1,xf⟩:=bM bR.o;obtain⟨y0,y1,yf⟩:=bM bG.o;cases t with
  |false=>
   have hg:¬h.Good:=fun hg=>by have :=kC.o.2 hg;cases this
   go_wp2_with fail;refine cK (v:= .tuple #[.agg #[.slice va h.cells.length cap,.slice vb h.trail.length aN],.bool false,.int .i64 1]) (by simp[results,Tryz.results111,go_sem,hcs,x0,x1,y0,y1]) rfl ?_;have hb:Below w.heap.size w ((w1.setCell ⟨w.heap.size+1,0,none⟩ (.slice va h.cells.length cap)).setCell ⟨w.heap.size+1,1,none⟩ (.slice vb h.trail.length aN)):=bH (bH HB.o (by simp) _) (by simp) _;rw[gq,ah hg];exact Pure.mk hb ⟨_,rfl,Hp.rep.mono (Hp.rep.keeps HH.o (ag.ob hb)) (fun _ _ h=> .inl h)⟩
  |true=>
   have HG:=zh (kC.o.1 rfl);have uL:=zh HG.o.2.2.1;have HL2:=zh HG.o.2.2.2;clear kC;by_cases hin:Inb h.cells a/\Inb h.cells b;case neg=>have gW:=zh hin;have hin':¬(0<=a/\a<(h.cells.length:Int)/\0<=b/\b<(h.cells.length:Int)):=fun k=>hin ⟨⟨k.1,k.2.1⟩,k.2.2.1,k.2.2.2⟩;clear hin;go_wp2_with fail;all_goals first|(exfalso;omega)|(refine cK (v:= .tuple #[.agg #[.slice va h.cells.length cap,.slice vb h.trail.length aN],.bool false,.int .i64 4]) (by simp[results,Tryz.results111,go_sem,hcs,x0,x1,y0,y1]) rfl ?_;have hb:Below w.heap.size w ((w1.setCell ⟨w.heap.size+1,0,none⟩ (.slice va h.cells.length cap)).setCell ⟨w.heap.size+1,1,none⟩ (.slice vb h.trail.length aN)):=bH (bH HB.o (by simp) _) (by simp) _;rw[gq,ae (dL HG.o),ah gW.o];exact Pure.mk hb ⟨_,rfl,Hp.rep.mono (Hp.rep.keeps HH.o (ag.ob hb)) (fun _ _ h=> .inl h)⟩)|go_ways
   case pos=>
    have gW:=zh hin;obtain⟨⟨i1,i2⟩,i3,i4⟩:=hin;go_wp2_with fail;obtain⟨W0,rfl⟩:∃z,z=w1:=⟨_,rfl⟩;have gp:Hd (∀w',Below W0.heap.size W0 w'->Below w.heap.size w w'/\w'.cell? ⟨w.heap.size,0,none⟩=some (.slice va h.cells.length cap)/\w'.cell? ⟨w.heap.size,1,none⟩=some (.slice vb h.trail.length aN)/\w'.heap[w.heap.size]?=some (.cells #[.slice va h.cells.length cap,.slice vb h.trail.length aN] 59 (0,0))/\w'.heap[w.heap.size+1]?=some (.cells #[.slice none 0 0,.slice none 0 0] 59 (0,0))):=zh fun w' hb=>by have h1:=aL bR.o hb;have h2:=aL bG.o hb;obtain⟨z0,z1, -⟩:=bM h1;exact⟨HB.o.trans (hb.mono (by omega)),z0,z1,h1,h2⟩
    have hsz':w.heap.size+2<=W0.heap.size:=by omega
    refine YL (Inv:=fun w'=>Below W0.heap.size W0 w') (Po:=posts [bq (.pointer (some ⟨w.heap.size,0,none⟩)),bq (.slice va h.cells.length cap),II W0.heap.size h.cells,bq (.pointer (some ⟨w.heap.size,1,none⟩)),bq (.slice vb h.trail.length aN),pM W0.heap.size h.trail,Rm W0.heap.size h,SN W0.heap.size h,Jw W0.heap.size h,Jw W0.heap.size h]) (Rl:=fun w w'=>Below w.heap.size w w') (by kernel_rfl) (by kernel_rfl) (by kernel_rfl) ((zB _ _).drew) ?_ ?_ ?_ ?_;·refine Bc fun R hR=>?_;simp only[iG,yC,vD]at hR;rcases hR with rfl|rfl|rfl|rfl|rfl|rfl|rfl|rfl|rfl|rfl<;>first|exact Ba _|exact FI|exact FJ _|exact FK _|exact FL _|exact FM _|exact FN _|exact FO _|exact FP _|exact CR _ _|exact Bb _ _|exact air _ _|exact akF _ _|exact akG _ _
    ·exact fun w1 w2 h h'=>h.trans (h'.mono h.size)
    ·intro i o ho f ac ww hinv hpo hdst hold;match i,ho with
      |0,ho=>obtain rfl:_=o:=zI ho;have t3:=hold 3 (by kernel_rfl);refine Or.inl ⟨aR rfl,?_⟩;clear hdst hpo hold ho hinv;unfold aP;go_simp;exact⟨rfl,zB _ _⟩
      |1,ho=>obtain rfl:_=o:=zI ho;have t36:=hdst 0 36 (by kernel_rfl) (by kernel_rfl);have p0:=hpo 0 (by kernel_rfl);refine Or.inl ⟨aR rfl,?_⟩;clear hdst hpo hold ho;rw[show f 0=_ from p0]at t36;obtain⟨-,x0,x1, -⟩:=gp.o ww hinv;unfold aP;go_simp;exact⟨rfl,zB _ _⟩
      |2,ho=>obtain rfl:_=o:=zI ho;have t37:=hdst 1 37 (by kernel_rfl) (by kernel_rfl);have p1:=hpo 1 (by kernel_rfl);refine Or.inl ⟨aR rfl,?_⟩;clear hdst hpo hold ho;rw[show f 1=_ from p1]at t37;unfold aP;go_simp;refine(Ms h.cells A _ _ (aj.keeps Ce.aA HC.o (ag.ob (gp.o ww hinv).1))).mono ?_;rintro e w1⟨r,rfl,hb,hr⟩;exact⟨_,rfl,af.pK hr (fun k hk=>dM hinv.size (af.lt hr k hk).1),hb⟩
      |3,ho=>obtain rfl:_=o:=zI ho;have t3:=hold 3 (by kernel_rfl);refine Or.inl ⟨aR rfl,?_⟩;clear hdst hpo hold ho hinv;unfold aP;go_simp;exact⟨rfl,zB _ _⟩
      |4,ho=>obtain rfl:_=o:=zI ho;have t39:=hdst 3 39 (by kernel_rfl) (by kernel_rfl);have p3:=hpo 3 (by kernel_rfl);refine Or.inl ⟨aR rfl,?_⟩;clear hdst hpo hold ho;rw[show f 3=_ from p3]at t39;obtain⟨-,x0,x1, -⟩:=gp.o ww hinv;unfold aP;go_simp;exact⟨rfl,zB _ _⟩
      |5,ho=>obtain rfl:_=o:=zI ho;have t40:=hdst 4 40 (by kernel_rfl) (by kernel_rfl);have p4:=hpo 4 (by kernel_rfl);refine Or.inl ⟨aR rfl,?_⟩;clear hdst hpo hold ho;rw[show f 4=_ from p4]at t40;unfold aP;go_simp;refine(Rh h.trail A _ _ (aj.keeps aQ HT.o (ag.ob (gp.o ww hinv).1))).mono ?_;rintro e w1⟨r,rfl,hb,hr⟩;exact⟨_,rfl,af.pK hr (fun k hk=>dM hinv.size (af.lt hr k hk).1),hb⟩
      |6,ho=>
       obtain rfl:_=o:=zI ho;have t38:=hdst 2 38 (by kernel_rfl) (by kernel_rfl);have p2:(II W0.heap.size h.cells) (f 2) ww:=hpo 2 (by kernel_rfl);have t41:=hdst 5 41 (by kernel_rfl) (by kernel_rfl);have p5:(pM W0.heap.size h.trail) (f 5) ww:=hpo 5 (by kernel_rfl);refine Or.inl ⟨aR rfl,?_⟩;clear hdst hpo hold ho;have P2:=zh p2;have P5:=zh p5;obtain⟨a1,c1,e2, -⟩:=af.val p2;obtain⟨a2,c2,e5, -⟩:=af.val p5;rw[e2]at t38;rw[e5]at t41;clear hinv p2 p5;unfold aP;go_simp;refine⟨⟨_,rfl,_,_,rfl,?_,?_⟩,zB _ _⟩;·rw[<-e2];exact P2.out
       ·rw[<-e5];exact P5.out
      |7,ho=>obtain rfl:_=o:=zI ho;have t42:=hdst 6 42 (by kernel_rfl) (by kernel_rfl);have p6:(Rm W0.heap.size h) (f 6) ww:=hpo 6 (by kernel_rfl);refine Or.inl ⟨aR rfl,?_⟩;clear hdst hpo hold ho;obtain⟨us,e6,c,t,rfl,hc,ht⟩:=p6;have P2:=zh hc;have P5:=zh ht;obtain⟨a1,c1,rfl, -⟩:=af.val hc;obtain⟨a2,c2,rfl, -⟩:=af.val ht;rw[e6]at t42;clear hinv hc ht;unfold aP;go_simp;exact⟨⟨_,_,rfl,P2.out,P5.out⟩,zB _ _⟩
      |8,ho=>obtain rfl:_=o:=zI ho;have t43:=hdst 7 43 (by kernel_rfl) (by kernel_rfl);have p7:(SN W0.heap.size h) (f 7) ww:=hpo 7 (by kernel_rfl);refine Or.inl ⟨aR rfl,?_⟩;clear hdst hpo hold ho;obtain⟨c,t,e7,hc,ht⟩:=p7;have P2:=zh hc;have P5:=zh ht;have hB:=zh hinv;rw[e7]at t43;clear hinv hc ht;unfold aP;go_simp;refine⟨⟨ww.heap.size,c,t,rfl,bV _ _,af.below P2.out ((zB _ _).alloc (zL _) _),af.below P5.out ((zB _ _).alloc (zL _) _),hB.out.size,uL.o,by have :=HL2.o;omega,by omega,by omega⟩,(zB _ _).alloc (zL _) _⟩
      |9,ho=>obtain rfl:_=o:=zI ho;have t44:=hdst 8 44 (by kernel_rfl) (by kernel_rfl);have p8:(Jw W0.heap.size h) (f 8) ww:=hpo 8 (by kernel_rfl);refine Or.inl ⟨aR rfl,?_⟩;clear hdst hpo hold ho hinv;unfold aP;go_simp;exact⟨p8,zB _ _⟩
      |i+10,ho=>simp at ho
    ·intro f ww hinv hpo;have p9:(Jw W0.heap.size h) (f 9) ww:=hpo 9 (by decide);obtain⟨g,cv,tv,e9,hu⟩:=p9;simp only[jv,Co,Aq,Cu];rw[e9];have HU:=zh hu;have gM:=zh hinv;have hzz:W0.heap.size<=ww.heap.size:=hinv.size;clear hinv hpo hu x0 x1 xf y0 y1 yf;go_wp2_with fail;refine(akE g W0.heap.size 400 cv tv h.cells h.trail a b ww HG.o.1 xP.o qR.o HU.o).mono ?_;rintro e w5⟨rfl,tv',kQ,kg, -⟩;have hb5:Below W0.heap.size W0 w5:=((Ch.of_below (M:=fun _=>False) gM.o).trans kg (fun x hx=> .inr (by
      rcases hx with hx|hx|hx;·rw[hx];exact HU.o.lt.2.1
      ·exact(HU.o.2.1.lt x hx).1
      ·exact(HU.o.2.2.1.lt x hx).1))).below (fun _ _ h=>h);obtain⟨hbw, -, -,hX1,hX2⟩:=gp.o w5 hb5;have bR:=zh hX1;have bG:=zh hX2;have zy:=zh hbw;obtain⟨x0,x1,xf⟩:=bM hX1;obtain⟨y0,y1,yf⟩:=bM hX2;have uM:w.heap.size+1<w5.heap.size:=aD hX2;have asi:w.heap.size<w5.heap.size:=by omega
     have hun:gq h a b=(let u:=aY 400 [(a,b)] h.cells h.trail;if u.work<0 then(h,false,3)else if u.ok=false then(h,false,0)else if 65536<u.trail.length then(h,false,3)else(⟨u.cells,u.trail⟩,true,0)):=by rw[gq,ae (dL HG.o),ae (dL gW.o)]
     have Dz:=Yl 400 [(a,b)] h.cells h.trail;have sw:=LV 400 [(a,b)] h.cells h.trail;generalize aY 400 [(a,b)] h.cells h.trail=u at*;obtain⟨ok,lu,tu,wu⟩:=u;simp only at Dz sw kQ hun;have gZ:=zh hun;have HWK:=zh Dz;have aa1:=zh sw;have gH:=zh kQ;obtain⟨ca,cc,ta,tc,rfl,rfl,e1,e2,e3,e4⟩:=kQ.vals;obtain⟨q0,q1,q2,qf⟩:=fO kQ.1;have hg5:=kQ.lt;have hgb:w.heap.size+2<=g:=dM hsz' hg5.2.1;clear kQ kg hb5 hX1 hX2 hbw hun Dz sw;have HOLD:Hd (∀(w':World)(n e:Int)(o:Bool),Below w.heap.size w w'->aa2 (fun b=>A b\/New w b) (h,o,e) (.tuple #[.agg #[.slice va h.cells.length cap,.slice vb h.trail.length aN],.bool o,.int .i64 e]) w'):=zh fun w' n e o hb=>⟨_,rfl,Hp.rep.mono (Hp.rep.keeps HH.o (ag.ob hb)) (fun _ _ h=> .inl h)⟩;by_cases hw:wu<0;·have hres:=zh (show gq h a b=(h,false,3)by rw[gZ.o,ah hw]);go_wp2_with fail;refine cK (v:= .tuple #[.agg #[.slice va h.cells.length cap,.slice vb h.trail.length aN],.bool false,.int .i64 3]) (by simp[results,Tryz.results111,go_sem,hcs,x0,x1,y0,y1]) rfl ?_;have hb:Below w.heap.size w ((w5.setCell ⟨w.heap.size+1,0,none⟩ (.slice va h.cells.length cap)).setCell ⟨w.heap.size+1,1,none⟩ (.slice vb h.trail.length aN)):=bH (bH zy.o (by simp) _) (by simp) _;rw[hres.o];exact Pure.mk hb (HOLD.o _ 0 _ _ hb)
     ·cases ok with
       |false=>have hres:=zh (show gq h a b=(h,false,0)by rw[gZ.o,ae hw,ah rfl]);go_wp2_with fail;refine cK (v:= .tuple #[.agg #[.slice va h.cells.length cap,.slice vb h.trail.length aN],.bool false,.int .i64 0]) (by simp[results,Tryz.results111,go_sem,hcs,x0,x1,y0,y1]) rfl ?_;have hb:Below w.heap.size w ((w5.setCell ⟨w.heap.size+1,0,none⟩ (.slice va h.cells.length cap)).setCell ⟨w.heap.size+1,1,none⟩ (.slice vb h.trail.length aN)):=bH (bH zy.o (by simp) _) (by simp) _;rw[hres.o];exact Pure.mk hb (HOLD.o _ 0 _ _ hb)
       |true=>
        by_cases htl:65536<tu.length
        ·have aa4:(65536:Int)<(tu.length:Int):=by omega
         have hres:=zh (show gq h a b=(h,false,3)by rw[gZ.o,ae hw,ae (by simp),ah htl]);go_wp2_with fail;refine cK (v:= .tuple #[.agg #[.slice va h.cells.length cap,.slice vb h.trail.length aN],.bool false,.int .i64 3]) (by simp[results,Tryz.results111,go_sem,hcs,x0,x1,y0,y1]) rfl ?_;have hb:Below w.heap.size w ((w5.setCell ⟨w.heap.size+1,0,none⟩ (.slice va h.cells.length cap)).setCell ⟨w.heap.size+1,1,none⟩ (.slice vb h.trail.length aN)):=bH (bH zy.o (by simp) _) (by simp) _;rw[hres.o];exact Pure.mk hb (HOLD.o _ 0 _ _ hb)
        ·have aa4:(tu.length:Int)<=65536:=by omega
         have hres:=zh (show gq h a b=(⟨lu,tu⟩,true,0)by rw[gZ.o,ae hw,ae (by simp),ae htl]);have qU:¬w.heap.size+1=g:=by omega
         go_wp2_with fail;refine cK (v:= .tuple #[.agg #[.slice ca lu.length cc,.slice ta tu.length tc],.bool true,.int .i64 0]) (by simp[results,Tryz.results111,go_sem,hcs,x0,x1,y0,y1]) rfl ?_;have hb:Below w.heap.size w ((w5.setCell ⟨w.heap.size+1,0,none⟩ (.slice ca lu.length cc)).setCell ⟨w.heap.size+1,1,none⟩ (.slice ta tu.length tc)):=bH (bH zy.o (by simp) _) (by simp) _;have hk:∀b,W0.heap.size<=b->((w5.setCell ⟨w.heap.size+1,0,none⟩ (.slice ca lu.length cc)).setCell ⟨w.heap.size+1,1,none⟩ (.slice ta tu.length tc)).heap[b]?=w5.heap[b]?:=fun b hb=>by rw[bC _ _ _ _ (by simp only;omega),bC _ _ _ _ (by simp only;omega)]
         rw[hres.o];refine Pure.mk hb ⟨_,rfl,_,_,rfl,?_,?_⟩;·exact af.sl Ce.jD Ce.yR (af.kept gH.o.2.1 (fun k hk'=>hk k (af.lt gH.o.2.1 k hk').1)) (by have :=gH.o.2.2.2.2.1;omega) (fun k hk'=> .inr (by have :=(af.lt gH.o.2.1 k hk').1;unfold New;omega))
         ·exact af.sl dO xx (af.kept gH.o.2.2.1 (fun k hk'=>hk k (af.lt gH.o.2.2.1 k hk').1)) (by omega) (fun k hk'=> .inr (by have :=(af.lt gH.o.2.2.1 k hk').1;unfold New;omega))
