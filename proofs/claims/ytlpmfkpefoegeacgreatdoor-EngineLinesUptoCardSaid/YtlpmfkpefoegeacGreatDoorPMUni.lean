import Derived.Test.YtlpmfkpefoegeacGreatDoorPSolve2
namespace Go.Proofs.YtlpmfkpefoegeacGreatDoor
set_option maxRecDepth 99999
set_option maxHeartbeats 0
set_option linter.all false
inductive Hr (l : List Ce) (φ : Int → Int) (E : Env) (K : Int → Prop) : Int → Tm → Prop where
  | var {a x : Int} {t : Tm} : Looks l a x → (cellAt l x).kind = 0 → K x → (aB E t).kind = 0 → (aB E t).n = φ x → Hr l φ E K a t
  | leaf {a x : Int} {t : Tm} : Looks l a x → (cellAt l x).kind = (aB E t).kind → (aB E t).kind ≠ 0 → (aB E t).kind ≠ 3 → (cellAt l x).n = (aB E t).n → (cellAt l x).s = (aB E t).s → (aB E t).args = [] → Hr l φ E K a t
  | comp {a x : Int} {t : Tm} : Looks l a x → (cellAt l x).kind = 3 → (aB E t).kind = 3 → (aB E t).n = 0 → (cellAt l x).n = (aB E t).args.length → (cellAt l x).s = (aB E t).s →
      (∀ (i : Nat) (h : i < (aB E t).args.length), Hr l φ E K (x + 1 + (i : Nat)) ((aB E t).args[i])) → Hr l φ E K a t
section
variable {l : List Ce} {φ : Int → Int} {E : Env} {K : Int → Prop} {N : Int}
theorem Hr.looks{a:Int}{t:Tm}(h:Hr l φ E K a t):∃x,Looks l a x:=by cases h<;>exact⟨_,by assumption⟩
theorem Hr.move{a z x:Int}{t u:Tm}(h:Hr l φ E K z t)(hz:Looks l z x)(ha:Looks l a x)(hs:aB E u=aB E t):Hr l φ E K a u:=by cases h with|var h1 h2 h3 h4 h5=>obtain rfl:=hz.H6 h1;exact .var ha h2 h3 (by rw[hs];exact h4) (by rw[hs];exact h5)|leaf h1 h2 h3 h4 h5 h6 h7=>obtain rfl:=hz.H6 h1;exact .leaf ha (by rw[hs];exact h2) (by rw[hs];exact h3) (by rw[hs];exact h4) (by rw[hs];exact h5) (by rw[hs];exact h6) (by rw[hs];exact h7)|comp h1 h2 h3 h4 h5 h6 h7=>obtain rfl:=hz.H6 h1;exact .comp ha h2 (by rw[hs];exact h3) (by rw[hs];exact h4) (by rw[hs];exact h5) (by rw[hs];exact h6) (by rw[hs];exact h7)
theorem Hr.imp{K':Int->Prop}(hK:∀x,K x->K' x){a:Int}{t:Tm}(h:Hr l φ E K a t):Hr l φ E K' a t:=by induction h with|var h1 h2 h3 h4 h5=>exact .var h1 h2 (hK _ h3) h4 h5|leaf h1 h2 h3 h4 h5 h6 h7=>exact .leaf h1 h2 h3 h4 h5 h6 h7|comp h1 h2 h3 h4 h5 h6 _ ih=>exact .comp h1 h2 h3 h4 h5 h6 ih
theorem RY(hE:dI N E){v:Int}{x:Tm}(hE':dI N (E++[(v,x)]))(hx:aB E x=x)(hxv:x.kind=0->x.n≠v)(kT:x.kind=0->jZ E x.n=none):∀(k:Nat)(t:Tm),t.In N->t.n.toNat<k->aB (E++[(v,x)]) t=if(aB E t).kind=0/\(aB E t).n=v then x else aB E t
 |0,t,_,h=>absurd h (Lu _)
 |k+1,t,ht,hk=>by
  have hx':aB (E++[(v,x)]) x=x:=by
   by_cases e:x.kind=0;·refine jF (.inr ?_);rw[Iw,kT e];simp only;rw[ae (fun h=>hxv e h.symm)]
   ·exact jF (.inl e)
  by_cases e:t.kind=0
  ·cases he:jZ E t.n with
    |none=>
     rw[jF (E:=E) (.inr he)];by_cases ev:t.n=v;·rw[ah ⟨e,ev⟩,Q5 (x:=x) hE' ht e (by rw[Iw,he];simp only;rw[ah ev.symm]),hx']
     ·rw[ae (fun h=>ev h.2)];exact jF (.inr (by rw[Iw,he];simp only;rw[ae (fun h=>ev h.symm)]))
    |some y=>
     have hm:=Q3 he;rw[Q5 hE ht e he,Q5 (x:=y) hE' ht e (by rw[Iw,he])];by_cases ey:y.kind=0;·have h1:=hE.less _ hm ey;simp only at h1;have h2:=(hE.tm _ hm).n ey;have h3:=ht.n e;simp only at h2;exact RY hE hE' hx hxv kT k y (hE.tm _ hm) (by omega)
     ·rw[jF (E:=E) (.inl ey),jF (.inl ey),ae (fun h=>ey h.1)]
  ·rw[jF (E:=E) (.inl e),jF (.inl e),ae (fun h=>e h.1)]
structure Mon (N : Int) (l : List Ce) (φ : Int → Int) (E : Env) : Prop where
  lt : ∀ x y, gD l x → gD l y → x < y → φ x < φ y
  bd : ∀ x, gD l x → 0 ≤ φ x ∧ φ x < N
  free : ∀ x, gD l x → jZ E (φ x) = none
theorem Mon.inj(h:Mon N l φ E){x y:Int}(hx:gD l x)(hy:gD l y)(e:φ x=φ y):x=y:=by
 rcases agy x y with h1|h1|h1;·have :=h.lt x y hx hy h1;omega
 ·exact h1
 ·have :=h.lt y x hy hx h1;omega
theorem I8{v z x:Int}(hv:gD l v)(hz:z≠v)(h:gD (eQ l v z) x):gD l x/\x≠v:=by
 obtain⟨h1,h2,h3⟩:=h;have hi:Inb l x:=CG.1 h1;rw[ui hv.1 hi]at h2 h3;by_cases e:x=v;·rw[ah e]at h3;simp only at h3;exact absurd (h3.trans e) hz
 ·rw[ae e]at h2 h3;exact⟨⟨hi,h2,h3⟩,e⟩
section bind
variable {v z : Int} {tz : Tm}
theorem ajZ(hE:dI N E)(hM:Mon N l φ E)(hE':dI N (E++[(φ v,tz)]))(hv:gD l v)(hz:Inb l z)(hs:Stop l z)(hne:z≠v)(htz:aB E tz=tz)(hxv:tz.kind=0->tz.n≠φ v)(kT:tz.kind=0->jZ E tz.n=none){a:Int}{t:Tm}(ht:t.In N)(h:Hr l φ E (fun x=>K x/\x≠v) a t):Hr (eQ l v z) φ (E++[(φ v,tz)]) (fun x=>K x/\x≠v) a t:=by
 have hsn:=fun(t:Tm)(ht:t.In N)=>RY hE hE' htz hxv kT (t.n.toNat+1) t ht (Ql _);induction h with
  |@var a x t h1 h2 h3 h4 h5=>
   have hx:=h1.free h2;have e:aB (E++[(φ v,tz)]) t=aB E t:=by rw[hsn t ht,ae];rintro⟨-,e⟩;exact h3.2 (hM.inj hx hv (h5.symm.trans e))
   refine .var (by have :=EI hv hz hs hne h1;rwa[ae h3.2]at this) (by rw[ui hv.1 hx.1,ae h3.2];exact h2) h3 (by rw[e];exact h4) (by rw[e];exact h5)
  |@leaf a x t h1 h2 h3 h4 h5 h6 h7=>
   have e:aB (E++[(φ v,tz)]) t=aB E t:=by rw[hsn t ht,ae (fun h=>h3 h.1)]
   have hxv:x≠v:=fun e=>by rw[e,hv.2.1]at h2;exact h3 h2.symm
   have hc:cellAt (eQ l v z) x=cellAt l x:=by rw[ui hv.1 h1.end_.1,ae hxv]
   exact .leaf (by have :=EI hv hz hs hne h1;rwa[ae hxv]at this) (by rw[e,hc];exact h2) (by rw[e];exact h3) (by rw[e];exact h4) (by rw[e,hc];exact h5) (by rw[e,hc];exact h6) (by rw[e];exact h7)
  |@comp a x t h1 h2 h3 h4 h5 h6 h7 ih=>
   have e:aB (E++[(φ v,tz)]) t=aB E t:=by rw[hsn t ht,ae (fun h=>by rw[h3]at h;simp at h)]
   have hxv:x≠v:=fun e=>by rw[e,hv.2.1]at h2;simp at h2
   have hc:cellAt (eQ l v z) x=cellAt l x:=by rw[ui hv.1 h1.end_.1,ae hxv]
   refine .comp (by have :=EI hv hz hs hne h1;rwa[ae hxv]at this) (by rw[hc];exact h2) (by rw[e];exact h3) (by rw[e];exact h4) (by rw[e,hc];exact h5) (by rw[e,hc];exact h6) ?_;rw[e];exact fun i hi=>ih i hi ((vL hE ht).arg (bZ hi))
theorem aj0(hE:dI N E)(hM:Mon N l φ E)(hE':dI N (E++[(φ v,tz)]))(hv:gD l v)(hz:Inb l z)(hs:Stop l z)(hne:z≠v)(htz:aB E tz=tz)(hxv:tz.kind=0->tz.n≠φ v)(kT:tz.kind=0->jZ E tz.n=none)(I9:tz.In N)(hzz:Hr l φ E (fun x=>True/\x≠v) z tz){a:Int}{t:Tm}(ht:t.In N)(h:Hr l φ E (fun _=>True) a t):Hr (eQ l v z) φ (E++[(φ v,tz)]) (fun _=>True) a t:=by
 have hsn:=fun(t:Tm)(ht:t.In N)=>RY hE hE' htz hxv kT (t.n.toNat+1) t ht (Ql _);have hz':Hr (eQ l v z) φ (E++[(φ v,tz)]) (fun _=>True) z tz:=(ajZ hE hM hE' hv hz hs hne htz hxv kT I9 hzz).imp fun _ _=>trivial;have hzl:Looks (eQ l v z) z z:= .stop (CG.2 hz) (QH hv.1 hz hs hne);induction h with
  |@var a x t h1 h2 h3 h4 h5=>
   have hx:=h1.free h2;have hl:=EI hv hz hs hne h1;by_cases ex:x=v;·rw[ah ex]at hl;refine hz'.move hzl hl ?_;rw[hsn t ht,ah ⟨h4,by rw[h5,ex]⟩,hsn tz I9,htz,ae (fun h=>hxv h.1 h.2)]
   ·rw[ae ex]at hl;have e:aB (E++[(φ v,tz)]) t=aB E t:=by rw[hsn t ht,ae];rintro⟨-,e⟩;exact ex (hM.inj hx hv (h5.symm.trans e))
    exact .var hl (by rw[ui hv.1 hx.1,ae ex];exact h2) trivial (by rw[e];exact h4) (by rw[e];exact h5)
  |@leaf a x t h1 h2 h3 h4 h5 h6 h7=>
   have e:aB (E++[(φ v,tz)]) t=aB E t:=by rw[hsn t ht,ae (fun h=>h3 h.1)]
   have hxv:x≠v:=fun e=>by rw[e,hv.2.1]at h2;exact h3 h2.symm
   have hc:cellAt (eQ l v z) x=cellAt l x:=by rw[ui hv.1 h1.end_.1,ae hxv]
   exact .leaf (by have :=EI hv hz hs hne h1;rwa[ae hxv]at this) (by rw[e,hc];exact h2) (by rw[e];exact h3) (by rw[e];exact h4) (by rw[e,hc];exact h5) (by rw[e,hc];exact h6) (by rw[e];exact h7)
  |@comp a x t h1 h2 h3 h4 h5 h6 h7 ih=>
   have e:aB (E++[(φ v,tz)]) t=aB E t:=by rw[hsn t ht,ae (fun h=>by rw[h3]at h;simp at h)]
   have hxv:x≠v:=fun e=>by rw[e,hv.2.1]at h2;simp at h2
   have hc:cellAt (eQ l v z) x=cellAt l x:=by rw[ui hv.1 h1.end_.1,ae hxv]
   refine .comp (by have :=EI hv hz hs hne h1;rwa[ae hxv]at this) (by rw[hc];exact h2) (by rw[e];exact h3) (by rw[e];exact h4) (by rw[e,hc];exact h5) (by rw[e,hc];exact h6) ?_;rw[e];exact fun i hi=>ih i hi ((vL hE ht).arg (bZ hi))
end bind
def gP(l:List Ce)(φ:Int->Int)(E:Env)(K:Int->Prop):List Int->List Tm->Prop|[],[]=>True|a::s,t::r=>Hr l φ E K a t/\gP l φ E K s r|_,_=>False
theorem gP.append{s':List Int}{r':List Tm}(h':gP l φ E K s' r'):∀{s:List Int}{r:List Tm},gP l φ E K s r->gP l φ E K (s++s') (r++r')|[],[],_=>h'|a::s,t::r,h=>⟨h.1,gP.append (s:=s) (r:=r) h' h.2⟩
theorem gP.split{s':List Int}{r':List Tm}:∀{s:List Int}{r:List Tm},s.length=r.length->gP l φ E K (s++s') (r++r')->gP l φ E K s r/\gP l φ E K s' r'|[],[],_,h=>⟨trivial,h⟩|a::s,t::r,hl,h=>by obtain⟨h1,h2⟩:=gP.split (s:=s) (r:=r) (by simpa using hl) h.2;exact⟨⟨h.1,h1⟩,h2⟩|[],_::_,hl,_=>by simp at hl|_::_,[],hl,_=>by simp at hl
theorem gP.of{ts:List Tm}{x:Int}(d:Nat)(h:∀(i:Nat)(hi:i<ts.length),Hr l φ E K (x+1+((d+i:Nat):Int)) ts[i]):gP l φ E K ((List.range ts.length).map fun i=>x+1+((d+i:Nat):Int)) ts:=by
 induction ts generalizing d with
  |nil=>trivial
  |cons t r ih=>
   rw[bn,age,qy,Qp];refine⟨h 0 (by simp),?_⟩;have :=ih (d+1) (fun i hi=>by have :=h (i+1) (by simp;omega);rw[G7]at this;rw[show d+1+i=d+(i+1)by omega];exact this);have e:((fun i=>x+1+((d+i:Nat):Int))∘Nat.succ)=fun i=>x+1+((d+1+i:Nat):Int):=by funext i;simp only[agn];omega
   rw[e];exact this
theorem gP.get{ts:List Tm}{x:Int}(d:Nat)(h:gP l φ E K ((List.range ts.length).map fun i=>x+1+((d+i:Nat):Int)) ts):∀(i:Nat)(hi:i<ts.length),Hr l φ E K (x+1+((d+i:Nat):Int)) ts[i]:=by
 induction ts generalizing d with
  |nil=>intro i hi;simp at hi
  |cons t r ih=>
   rw[bn,age,qy,Qp]at h;have e:((fun i=>x+1+((d+i:Nat):Int))∘Nat.succ)=fun i=>x+1+((d+1+i:Nat):Int):=by funext i;simp only[agn];omega
   rw[e]at h;intro i hi;cases i with|zero=>exact h.1|succ i=>have :=ih (d+1) h.2 i (by simpa using hi);rw[show d+1+i=d+(i+1)by omega]at this;exact this
theorem Ja{ts:List Tm}{x n:Int}(hn:n=ts.length):gP l φ E K (argsAt x n) ts↔∀(i:Nat)(hi:i<ts.length),Hr l φ E K (x+1+(i:Nat)) ts[i]:=by
 subst hn;unfold argsAt;rw[dB];constructor;·intro h i hi;have :=gP.get (x:=x) 0 (by simpa using h) i hi;simpa using this
 ·intro h;have :=gP.of (x:=x) (ts:=ts) 0 (fun i hi=>by simpa using h i hi);simpa using this
theorem gP.len:∀{s:List Int}{r:List Tm},gP l φ E K s r->s.length=r.length|[],[],_=>rfl|a::s,t::r,h=>by simp[gP.len h.2]|[],_::_,h=>h.elim|_::_,[],h=>h.elim
theorem RZ(hE:dI N E)(hM:Mon N l φ E){v:Int}(hv:gD l v):∀(w:Nat)(s:List Int)(ts:List Tm),gP l φ E (fun _=>True) s ts->(∀t∈ts,t.In N)->bK l v w s=ow E (φ v) w ts/\((bK l v w s).1=false->0<=(bK l v w s).2->gP l φ E (fun x=>True/\x≠v) s ts)
 |w,[],[],_,_=>by rw[EF,Y8];exact⟨rfl,fun _ _=>trivial⟩
 |w,[],_::_,h,_=>h.elim
 |w,_::_,[],h,_=>h.elim
 |0,z::s,t::r,_,_=>by rw[ah2];exact⟨rfl,fun _ h=>by simp[bK]at h⟩
 |w+1,z::s,t::r,⟨h1,h2⟩,ht=>by
  have hr:∀t∈r,t.In N:=fun x hx=>ht x (by simp[hx]);have ih:=RZ hE hM hv w s r h2 hr;rw[Y9];unfold bK;cases h1 with
   |@var _ x _ k1 k2 k3 k4 k5=>
    have hx0:=k1.lW;rw[il k1,ae (by omega),ah k2,ah k4,k5];by_cases e:x=v;·rw[ah e,ah (by rw[e])];exact⟨rfl,fun h=>by simp at h⟩
    ·have e':¬φ x=φ v:=fun h=>e (hM.inj (k1.free k2) hv h);rw[ae e,ae e'];exact⟨ih.1,fun a b=>⟨.var k1 k2 ⟨trivial,e⟩ k4 k5,ih.2 a b⟩⟩
   |@leaf _ x _ k1 k2 k3 k4 k5 k6 k7=>have hx0:=k1.lW;rw[il k1,ae (by omega),ae (by rw[k2];exact k3),ae (by rw[k2];exact k4),ae k3,k7,xn];exact⟨ih.1,fun a b=>⟨.leaf k1 k2 k3 k4 k5 k6 k7,ih.2 a b⟩⟩
   |@comp _ x _ k1 k2 k3 k4 k5 k6 k7=>
    have hx0:=k1.lW;rw[il k1,ae (by omega),ae (by rw[k2];decide),ah k2,ae (by rw[k3];decide)];have ha:gP l φ E (fun _=>True) (argsAt x (cellAt l x).n) (aB E t).args:=(Ja k5).2 k7;have ih2:=RZ hE hM hv w (argsAt x (cellAt l x).n++s) ((aB E t).args++r) (gP.append h2 ha) (fun y hy=>by
     rcases gy.1 hy with hy|hy;·exact(vL hE (ht t (by simp))).arg hy
     ·exact hr y hy);refine⟨ih2.1,fun a b=>?_⟩;obtain⟨q1,q2⟩:=gP.split ha.len (ih2.2 a b);exact⟨.comp k1 k2 k3 k4 k5 k6 ((Ja k5).1 q1),q2⟩
end
def mQ(l:List Ce)(φ:Int->Int)(E:Env):List (Int×Int)->List (Tm×Tm)->Prop|[],[]=>True|a::s,t::r=>(Hr l φ E (fun _=>True) a.1 t.1/\Hr l φ E (fun _=>True) a.2 t.2)/\mQ l φ E s r|_,_=>False
section
variable {l l' : List Ce} {φ : Int → Int} {E E' : Env} {N : Int}
theorem mQ.imp(h:∀a t,t.In N->Hr l φ E (fun _=>True) a t->Hr l' φ E' (fun _=>True) a t):∀{s:List (Int×Int)}{r:List (Tm×Tm)},(∀p∈r,p.1.In N/\p.2.In N)->mQ l φ E s r->mQ l' φ E' s r|[],[],_,_=>trivial|a::s,t::r,hr,k=>⟨⟨h _ _ (hr t (by simp)).1 k.1.1,h _ _ (hr t (by simp)).2 k.1.2⟩,mQ.imp h (fun p hp=>hr p (by simp[hp])) k.2⟩|[],_::_,_,h=>h.elim|_::_,[],_,h=>h.elim
theorem mQ.append{s':List (Int×Int)}{r':List (Tm×Tm)}(h':mQ l φ E s' r'):∀{s:List (Int×Int)}{r:List (Tm×Tm)},mQ l φ E s r->mQ l φ E (s++s') (r++r')|[],[],_=>h'|a::s,t::r,h=>⟨h.1,mQ.append (s:=s) (r:=r) h' h.2⟩|[],_::_,h=>h.elim|_::_,[],h=>h.elim
theorem mQ.zip:∀{s s':List Int}{r r':List Tm},gP l φ E (fun _=>True) s r->gP l φ E (fun _=>True) s' r'->mQ l φ E (s.zip s') (r.zip r')|[],_,[],_,_,_=>by simp[mQ]|_::_,[],_::_,[],_,_=>by simp[mQ]|a::s,b::s',t::r,u::r',h,h'=>⟨⟨h.1,h'.1⟩,mQ.zip h.2 h'.2⟩|[],_,_::_,_,h,_=>h.elim|_::_,_,[],_,h,_=>h.elim|_::_,[],_::_,_::_,_,h=>h.elim|_::_,_::_,_::_,[],_,h=>h.elim
structure Dh (N : Int) (φ : Int → Int) (l : List Ce) (E : Env) (t : List Int) (u : Un) (u' : US) : Prop where
  ok : u.ok = u'.ok
  work : u.work = u'.work
  tells : u.ok = true → ∀ a x, x.In N → Hr l φ E (fun _ => True) a x → Hr u.cells φ u'.env (fun _ => True) a x
  Jb : u.ok = true → Mon N u.cells φ u'.env
  trail : u.ok = true → ∃ vs, u.trail = t ++ vs ∧ vs.length + E.length = u'.env.length ∧ ∀ v ∈ vs, gD l v
theorem Mon.bind(hM:Mon N l φ E){v z:Int}{tz:Tm}(hv:gD l v)(hne:z≠v):Mon N (eQ l v z) φ (E++[(φ v,tz)]):=by refine⟨fun x y hx hy h=>hM.lt x y (I8 hv hne hx).1 (I8 hv hne hy).1 h,fun x hx=>hM.bd x (I8 hv hne hx).1,fun x hx=>?_⟩;obtain⟨h1,h2⟩:=I8 hv hne hx;rw[Iw,hM.free x h1];simp only;rw[ae (fun e=>h2 (hM.inj h1 hv e.symm))]
theorem Dh.step{t:List Int}{v z:Int}{tz:Tm}{u:Un}{u':US}(hv:gD l v)(hne:z≠v)(hH:∀a x,x.In N->Hr l φ E (fun _=>True) a x->Hr (eQ l v z) φ (E++[(φ v,tz)]) (fun _=>True) a x)(h:Dh N φ (eQ l v z) (E++[(φ v,tz)]) (t++[v]) u u'):Dh N φ l E t u u':=by
 refine⟨h.ok,h.work,fun e a x hx ha=>h.tells e a x hx (hH a x hx ha),h.Jb,fun e=>?_⟩;obtain⟨vs,h1,h2,h3⟩:=h.trail e;refine⟨v::vs,by rw[h1,Au];rfl,by rw[<-h2];simp;omega,fun x hx=>?_⟩;rcases iG.1 hx with rfl|hx;·exact hv
 ·exact(I8 hv hne (h3 x hx)).1
theorem aag:∀(w:Nat)(s:List (Int×Int))(ts:List (Tm×Tm))(l:List Ce)(E:Env)(t:List Int),dI N E->Mon N l φ E->mQ l φ E s ts->(∀p∈ts,p.1.In N/\p.2.In N)->Dh N φ l E t (aY w s l t) (fE w ts E):=by
 intro w;induction w using Nat.strongRecOn with
  |_ w ih=>
   intro s ts l E t hE hM hH hI;match w,s,ts,ih,hH,hI with
    |w,[],[],_,_,_=>rw[EH,Mh];exact⟨rfl,rfl,fun _ a x _ h=>h,fun _=>hM,fun _=>⟨[],by simp,by simp,by simp⟩⟩
    |w,[],_::_,_,h,_=>exact h.elim
    |w,_::_,[],_,h,_=>exact h.elim
    |0,p::s,q::ts,_,_,_=>rw[Ia,Za];exact⟨rfl,rfl,fun h=>by simp at h,fun h=>by simp at h,fun h=>by simp at h⟩
    |w+1,(a,b)::s,(ta,tb)::ts,ih,⟨⟨ha,hb⟩,hr⟩,hI=>
     have Bj:∀p∈ts,p.1.In N/\p.2.In N:=fun p hp=>hI p (by simp[hp]);obtain⟨ia,ib⟩:=hI (ta,tb) (by simp);simp only at ha hb ia ib;have ihr:=ih w (by omega) s ts l E t hE hM hr Bj;have bnd:∀(v z:Int)(tz:Tm)(k:Nat),k<=w->gD l v->Inb l z->Stop l z->z≠v->aB E tz=tz->tz.In N->(tz.kind=0->tz.n<φ v)->(tz.kind=0->jZ E tz.n=none)->Hr l φ E (fun x=>True/\x≠v) z tz->Dh N φ l E t (aY k s (eQ l v z) (t++[v])) (fE k ts (E++[(φ v,tz)])):=fun v z tz k hk hv hz hs hne htz I9 hlt hfz hzz=>by have hE':dI N (E++[(φ v,tz)]):=hE.snoc (hM.bd v hv).1 (hM.bd v hv).2 (hM.free v hv) I9 hlt;have hBd:∀a x,x.In N->Hr l φ E (fun _=>True) a x->Hr (eQ l v z) φ (E++[(φ v,tz)]) (fun _=>True) a x:=fun a x hx h=>aj0 hE hM hE' hv hz hs hne htz (fun h1 h2=>by have :=hlt h1;omega) hfz I9 hzz hx h;exact Dh.step hv hne hBd (ih k (by omega) s ts _ _ _ hE' (hM.bind hv hne) (hr.imp hBd Bj) Bj)
     have one:∀(v z:Int)(tv tz:Tm),gD l v->Hr l φ E (fun _=>True) z tz->Looks l z z->(cellAt l z).kind≠0->aB E tz=tz->tz.In N->tz.kind≠0->Dh N φ l E t (if(bK l v w [z]).1=true\/(bK l v w [z]).2<0 then⟨false,l,t,(bK l v w [z]).2⟩else aY (min w (bK l v w [z]).2.toNat) s (eQ l v z) (t++[v])) (if(ow E (φ v) w [tz]).1=true\/(ow E (φ v) w [tz]).2<0 then⟨false,E,(ow E (φ v) w [tz]).2⟩else fE (min w (ow E (φ v) w [tz]).2.toNat) ts (E++[(φ v,tz)])):=fun v z _ tz hv hz hzz hk htz hti htk=>by
      obtain⟨q1,q2⟩:=RZ hE hM hv w [z] [tz] ⟨hz,trivial⟩ (by simpa using hti);rw[<-q1];split;·exact⟨rfl,rfl,fun h=>by simp at h,fun h=>by simp at h,fun h=>by simp at h⟩
      ·rename_i hn;have q3:=(q2 (by simpa using fun h=>hn (.inl h)) (by omega)).1;exact bnd v z tz _ (by omega) hv hzz.end_.1 hzz.end_.2 (fun e=>hk (e▸hv.2.1)) htz hti (fun h=>absurd h htk) (fun h=>absurd h htk) q3
     rw[aY,fE];simp only;have sa:=Y7 hE ia;have sb:=Y7 hE ib;have na:=vL hE ia;have nb:=vL hE ib;cases ha with
      |@var _ x _ a1 a2 a3 a4 a5=>
       have hx0:=a1.lW;have kT:=a1.free a2;cases hb with
        |@var _ y _ b1 b2 b3 b4 b5=>
         have hy0:=b1.lW;have pV:=b1.free b2;rw[il a1,il b1,ae (show ¬(x<0\/y<0)by omega),ah (show(cellAt l x).kind=0/\(cellAt l y).kind=0 from⟨a2,b2⟩),ah (show(aB E ta).kind=0/\(aB E tb).kind=0 from⟨a4,b4⟩),a5,b5];by_cases e:x=y;·rw[ah e,ah (by rw[e])];exact ihr
         ·have e':¬φ x=φ y:=fun h=>e (hM.inj kT pV h);rw[ae e,ae e'];rcases Int.lt_or_gt_of_ne e with hlt|hlt;·have hlt':=hM.lt x y kT pV hlt;rw[XI (by omega),XL (by omega),XI (by omega),XL (by omega)];have hk:jZ E (jG (φ x)).n=none:=hM.free x kT;exact bnd y x (jG (φ x)) w (zL _) pV kT.1 kT.stop e (jF (.inr hk)) (.var _ (hM.bd x kT).1 (hM.bd x kT).2) (fun _=>hlt') (fun _=>hk) (.var (.stop kT.1 kT.stop) a2 ⟨trivial,e⟩ (by rw[jF (.inr hk)];rfl) (by rw[jF (.inr hk)];rfl))
          ·have hlt':=hM.lt y x pV kT hlt;rw[XM (by omega),XH (by omega),XM (by omega),XH (by omega)];have hk:jZ E (jG (φ y)).n=none:=hM.free y pV;exact bnd x y (jG (φ y)) w (zL _) kT pV.1 pV.stop (fun h=>e h.symm) (jF (.inr hk)) (.var _ (hM.bd y pV).1 (hM.bd y pV).2) (fun _=>hlt') (fun _=>hk) (.var (.stop pV.1 pV.stop) b2 ⟨trivial,fun h=>e h.symm⟩ (by rw[jF (.inr hk)];rfl) (by rw[jF (.inr hk)];rfl))
        |@leaf _ y _ b1 b2 b3 b4 b5 b6 b7=>
         have hy0:=b1.lW;have hyk:(cellAt l y).kind≠0:=by rw[b2];exact b3
         rw[il a1,il b1,ae (show ¬(x<0\/y<0)by omega),ae (show ¬((cellAt l x).kind=0/\(cellAt l y).kind=0)from fun h=>hyk h.2),ae (show ¬((aB E ta).kind=0/\(aB E tb).kind=0)from fun h=>b3 h.2),ah (show(cellAt l x).kind=0\/(cellAt l y).kind=0 from .inl a2),ah (show(aB E ta).kind=0\/(aB E tb).kind=0 from .inl a4),ae hyk,ae hyk,ae b3,ae b3,a5];exact one x y ta (aB E tb) kT (.leaf (.stop b1.end_.1 b1.end_.2) (by rw[sb];exact b2) (by rw[sb];exact b3) (by rw[sb];exact b4) (by rw[sb];exact b5) (by rw[sb];exact b6) (by rw[sb];exact b7)) (.stop b1.end_.1 b1.end_.2) hyk sb nb b3
        |@comp _ y _ b1 b2 b3 b4 b5 b6 b7=>
         have hy0:=b1.lW;have hyk:(cellAt l y).kind≠0:=by rw[b2];decide
         have b3':(aB E tb).kind≠0:=by rw[b3];decide
         rw[il a1,il b1,ae (show ¬(x<0\/y<0)by omega),ae (show ¬((cellAt l x).kind=0/\(cellAt l y).kind=0)from fun h=>hyk h.2),ae (show ¬((aB E ta).kind=0/\(aB E tb).kind=0)from fun h=>b3' h.2),ah (show(cellAt l x).kind=0\/(cellAt l y).kind=0 from .inl a2),ah (show(aB E ta).kind=0\/(aB E tb).kind=0 from .inl a4),ae hyk,ae hyk,ae b3',ae b3',a5];exact one x y ta (aB E tb) kT (.comp (.stop b1.end_.1 b1.end_.2) b2 (by rw[sb];exact b3) (by rw[sb];exact b4) (by rw[sb];exact b5) (by rw[sb];exact b6) (by rw[sb];exact b7)) (.stop b1.end_.1 b1.end_.2) hyk sb nb b3'
      |@leaf _ x _ a1 a2 a3 a4 a5 a6 a7=>
       have hx0:=a1.lW;have hxk:(cellAt l x).kind≠0:=by rw[a2];exact a3
       have hxl:(cellAt l x).kind≠3:=by rw[a2];exact a4
       cases hb with
        |@var _ y _ b1 b2 b3 b4 b5=>have hy0:=b1.lW;have pV:=b1.free b2;rw[il a1,il b1,ae (show ¬(x<0\/y<0)by omega),ae (show ¬((cellAt l x).kind=0/\(cellAt l y).kind=0)from fun h=>hxk h.1),ae (show ¬((aB E ta).kind=0/\(aB E tb).kind=0)from fun h=>a3 h.1),ah (show(cellAt l x).kind=0\/(cellAt l y).kind=0 from .inr b2),ah (show(aB E ta).kind=0\/(aB E tb).kind=0 from .inr b4),ah b2,ah b2,ah b4,ah b4,b5];exact one y x tb (aB E ta) pV (.leaf (.stop a1.end_.1 a1.end_.2) (by rw[sa];exact a2) (by rw[sa];exact a3) (by rw[sa];exact a4) (by rw[sa];exact a5) (by rw[sa];exact a6) (by rw[sa];exact a7)) (.stop a1.end_.1 a1.end_.2) hxk sa na a3
        |@leaf _ y _ b1 b2 b3 b4 b5 b6 b7=>
         have hy0:=b1.lW;have hyk:(cellAt l y).kind≠0:=by rw[b2];exact b3
         rw[il a1,il b1,ae (show ¬(x<0\/y<0)by omega),ae (show ¬((cellAt l x).kind=0/\(cellAt l y).kind=0)from fun h=>hxk h.1),ae (show ¬((aB E ta).kind=0/\(aB E tb).kind=0)from fun h=>a3 h.1),ae (show ¬((cellAt l x).kind=0\/(cellAt l y).kind=0)from fun h=>h.elim hxk hyk),ae (show ¬((aB E ta).kind=0\/(aB E tb).kind=0)from fun h=>h.elim a3 b3)];by_cases e:cellAt l x=cellAt l y;·rw[ae (show ¬(cellAt l x≠cellAt l y)from fun h=>h e),ae (show ¬(¬((aB E ta).kind=(aB E tb).kind/\(aB E ta).n=(aB E tb).n/\(aB E ta).s=(aB E tb).s/\(aB E ta).args.length=(aB E tb).args.length))from fun h=>h ⟨by rw[<-a2,<-b2,e],by rw[<-a5,<-b5,e],by rw[<-a6,<-b6,e],by rw[a7,b7]⟩),ae hxl,a7,List.zip_nil_left,xn];exact ihr
         ·rw[ah (show cellAt l x≠cellAt l y from e),ah (show ¬((aB E ta).kind=(aB E tb).kind/\(aB E ta).n=(aB E tb).n/\(aB E ta).s=(aB E tb).s/\(aB E ta).args.length=(aB E tb).args.length)from fun h=>e (by obtain⟨h1,h2,h3, -⟩:=h;rw[<-a2,<-b2]at h1;rw[<-a5,<-b5]at h2;rw[<-a6,<-b6]at h3;cases hcx:cellAt l x;cases hcy:cellAt l y;rw[hcx,hcy]at h1 h2 h3;simp only at h1 h2 h3;rw[h1,h2,h3]))];exact⟨rfl,rfl,fun h=>by simp at h,fun h=>by simp at h,fun h=>by simp at h⟩
        |@comp _ y _ b1 b2 b3 b4 b5 b6 b7=>
         have hy0:=b1.lW;have hyk:(cellAt l y).kind≠0:=by rw[b2];decide
         have b3':(aB E tb).kind≠0:=by rw[b3];decide
         rw[il a1,il b1,ae (show ¬(x<0\/y<0)by omega),ae (show ¬((cellAt l x).kind=0/\(cellAt l y).kind=0)from fun h=>hxk h.1),ae (show ¬((aB E ta).kind=0/\(aB E tb).kind=0)from fun h=>a3 h.1),ae (show ¬((cellAt l x).kind=0\/(cellAt l y).kind=0)from fun h=>h.elim hxk hyk),ae (show ¬((aB E ta).kind=0\/(aB E tb).kind=0)from fun h=>h.elim a3 b3'),ah (show cellAt l x≠cellAt l y from fun h=>hxl (by rw[h];exact b2)),ah (show ¬((aB E ta).kind=(aB E tb).kind/\(aB E ta).n=(aB E tb).n/\(aB E ta).s=(aB E tb).s/\(aB E ta).args.length=(aB E tb).args.length)from fun h=>a4 (h.1.trans b3))];exact⟨rfl,rfl,fun h=>by simp at h,fun h=>by simp at h,fun h=>by simp at h⟩
      |@comp _ x _ a1 a2 a3 a4 a5 a6 a7=>
       have hx0:=a1.lW;have hxk:(cellAt l x).kind≠0:=by rw[a2];decide
       have a3':(aB E ta).kind≠0:=by rw[a3];decide
       cases hb with
        |@var _ y _ b1 b2 b3 b4 b5=>have hy0:=b1.lW;have pV:=b1.free b2;rw[il a1,il b1,ae (show ¬(x<0\/y<0)by omega),ae (show ¬((cellAt l x).kind=0/\(cellAt l y).kind=0)from fun h=>hxk h.1),ae (show ¬((aB E ta).kind=0/\(aB E tb).kind=0)from fun h=>a3' h.1),ah (show(cellAt l x).kind=0\/(cellAt l y).kind=0 from .inr b2),ah (show(aB E ta).kind=0\/(aB E tb).kind=0 from .inr b4),ah b2,ah b2,ah b4,ah b4,b5];exact one y x tb (aB E ta) pV (.comp (.stop a1.end_.1 a1.end_.2) a2 (by rw[sa];exact a3) (by rw[sa];exact a4) (by rw[sa];exact a5) (by rw[sa];exact a6) (by rw[sa];exact a7)) (.stop a1.end_.1 a1.end_.2) hxk sa na a3'
        |@leaf _ y _ b1 b2 b3 b4 b5 b6 b7=>
         have hy0:=b1.lW;have hyk:(cellAt l y).kind≠0:=by rw[b2];exact b3
         rw[il a1,il b1,ae (show ¬(x<0\/y<0)by omega),ae (show ¬((cellAt l x).kind=0/\(cellAt l y).kind=0)from fun h=>hxk h.1),ae (show ¬((aB E ta).kind=0/\(aB E tb).kind=0)from fun h=>a3' h.1),ae (show ¬((cellAt l x).kind=0\/(cellAt l y).kind=0)from fun h=>h.elim hxk hyk),ae (show ¬((aB E ta).kind=0\/(aB E tb).kind=0)from fun h=>h.elim a3' b3),ah (show cellAt l x≠cellAt l y from fun h=>b4 (by rw[<-b2,<-h];exact a2)),ah (show ¬((aB E ta).kind=(aB E tb).kind/\(aB E ta).n=(aB E tb).n/\(aB E ta).s=(aB E tb).s/\(aB E ta).args.length=(aB E tb).args.length)from fun h=>b4 (by rw[<-h.1];exact a3))];exact⟨rfl,rfl,fun h=>by simp at h,fun h=>by simp at h,fun h=>by simp at h⟩
        |@comp _ y _ b1 b2 b3 b4 b5 b6 b7=>
         have hy0:=b1.lW;have hyk:(cellAt l y).kind≠0:=by rw[b2];decide
         have b3':(aB E tb).kind≠0:=by rw[b3];decide
         rw[il a1,il b1,ae (show ¬(x<0\/y<0)by omega),ae (show ¬((cellAt l x).kind=0/\(cellAt l y).kind=0)from fun h=>hxk h.1),ae (show ¬((aB E ta).kind=0/\(aB E tb).kind=0)from fun h=>a3' h.1),ae (show ¬((cellAt l x).kind=0\/(cellAt l y).kind=0)from fun h=>h.elim hxk hyk),ae (show ¬((aB E ta).kind=0\/(aB E tb).kind=0)from fun h=>h.elim a3' b3')];by_cases e:cellAt l x=cellAt l y
         ·have hl:(aB E ta).args.length=(aB E tb).args.length:=by have :=congrArg Ce.n e;rw[a5,b5]at this;omega
          rw[ae (show ¬(cellAt l x≠cellAt l y)from fun h=>h e),ae (show ¬(¬((aB E ta).kind=(aB E tb).kind/\(aB E ta).n=(aB E tb).n/\(aB E ta).s=(aB E tb).s/\(aB E ta).args.length=(aB E tb).args.length))from fun h=>h ⟨by rw[a3,b3],by rw[a4,b4],by rw[<-a6,<-b6,e],hl⟩),ah a2];have h1:gP l φ E (fun _=>True) (argsAt x (cellAt l x).n) (aB E ta).args:=(Ja a5).2 a7;have h2:gP l φ E (fun _=>True) (argsAt y (cellAt l x).n) (aB E tb).args:=(Ja (by rw[e];exact b5)).2 b7;exact ih w (by omega) _ _ l E t hE hM (mQ.append hr (mQ.zip h1 h2)) (fun p hp=>by
           rcases gy.1 hp with hp|hp;·have :=List.of_mem_zip hp;exact⟨na.arg this.1,nb.arg this.2⟩
           ·exact Bj p hp)
         ·rw[ah (show cellAt l x≠cellAt l y from e),ah (show ¬((aB E ta).kind=(aB E tb).kind/\(aB E ta).n=(aB E tb).n/\(aB E ta).s=(aB E tb).s/\(aB E ta).args.length=(aB E tb).args.length)from fun h=>e (by
           obtain⟨h1,h2,h3,h4⟩:=h;rw[<-a6,<-b6]at h3;have h5:(cellAt l x).n=(cellAt l y).n:=by rw[a5,b5,h4]
           have h6:(cellAt l x).kind=(cellAt l y).kind:=by rw[a2,b2]
           cases hcx:cellAt l x;cases hcy:cellAt l y;rw[hcx,hcy]at h3 h5 h6;simp only at h3 h5 h6;rw[h3,h5,h6]))];exact⟨rfl,rfl,fun h=>by simp at h,fun h=>by simp at h,fun h=>by simp at h⟩
end
