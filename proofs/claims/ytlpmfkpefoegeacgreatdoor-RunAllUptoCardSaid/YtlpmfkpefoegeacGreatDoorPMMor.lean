import Derived.Test.YtlpmfkpefoegeacGreatDoorQSolveE
namespace Go.Proofs.YtlpmfkpefoegeacGreatDoor
set_option maxRecDepth 99999
set_option maxHeartbeats 0
set_option linter.all false
inductive Hr (l : List Ce) (φ : Int → Int) (E : Env) (K : Int → Prop) : Int → Tm → Prop where
  | var {a x : Int} {t : Tm} : Looks l a x → (cellAt l x).kind = 0 → K x → (ax E t).kind = 0 → (ax E t).n = φ x → Hr l φ E K a t
  | leaf {a x : Int} {t : Tm} : Looks l a x → (cellAt l x).kind = (ax E t).kind → (ax E t).kind ≠ 0 → (ax E t).kind ≠ 3 → (cellAt l x).n = (ax E t).n → (cellAt l x).s = (ax E t).s → (ax E t).args = [] → Hr l φ E K a t
  | comp {a x : Int} {t : Tm} : Looks l a x → (cellAt l x).kind = 3 → (ax E t).kind = 3 → (ax E t).n = 0 → (cellAt l x).n = (ax E t).args.length → (cellAt l x).s = (ax E t).s →
      (∀ (i : Nat) (h : i < (ax E t).args.length), Hr l φ E K (x + 1 + (i : Nat)) ((ax E t).args[i])) → Hr l φ E K a t
section
variable {l : List Ce} {φ : Int → Int} {E : Env} {K : Int → Prop} {N : Int}
theorem Hr.looks{a:Int}{t:Tm}(h:Hr l φ E K a t):∃x,Looks l a x:=by cases h<;>exact⟨_,by assumption⟩
theorem Hr.move{a z x:Int}{t u:Tm}(h:Hr l φ E K z t)(hz:Looks l z x)(ha:Looks l a x)(hs:ax E u=ax E t):Hr l φ E K a u:=by cases h with|var h1 h2 h3 h4 h5=>obtain rfl:=hz.JL h1;exact .var ha h2 h3 (by rw[hs];exact h4) (by rw[hs];exact h5)|leaf h1 h2 h3 h4 h5 h6 h7=>obtain rfl:=hz.JL h1;exact .leaf ha (by rw[hs];exact h2) (by rw[hs];exact h3) (by rw[hs];exact h4) (by rw[hs];exact h5) (by rw[hs];exact h6) (by rw[hs];exact h7)|comp h1 h2 h3 h4 h5 h6 h7=>obtain rfl:=hz.JL h1;exact .comp ha h2 (by rw[hs];exact h3) (by rw[hs];exact h4) (by rw[hs];exact h5) (by rw[hs];exact h6) (by rw[hs];exact h7)
theorem Hr.imp{K':Int->Prop}(hK:∀x,K x->K' x){a:Int}{t:Tm}(h:Hr l φ E K a t):Hr l φ E K' a t:=by induction h with|var h1 h2 h3 h4 h5=>exact .var h1 h2 (hK _ h3) h4 h5|leaf h1 h2 h3 h4 h5 h6 h7=>exact .leaf h1 h2 h3 h4 h5 h6 h7|comp h1 h2 h3 h4 h5 h6 _ ih=>exact .comp h1 h2 h3 h4 h5 h6 ih
theorem Xw(hE:cz N E){v:Int}{x:Tm}(hE':cz N (E++[(v,x)]))(hx:ax E x=x)(hxv:x.kind=0->x.n≠v)(mh:x.kind=0->jM E x.n=none):∀(k:Nat)(t:Tm),t.In N->t.n.toNat<k->ax (E++[(v,x)]) t=if(ax E t).kind=0/\(ax E t).n=v then x else ax E t
 |0,t,_,h=>absurd h (Az _)
 |k+1,t,ht,hk=>by
  have hx':ax (E++[(v,x)]) x=x:=by
   by_cases e:x.kind=0;·refine iA (.inr ?_);rw[Kb,mh e];simp only;rw[ag (fun h=>hxv e h.symm)]
   ·exact iA (.inl e)
  by_cases e:t.kind=0
  ·cases he:jM E t.n with
    |none=>
     rw[iA (E:=E) (.inr he)];by_cases ev:t.n=v;·rw[ai ⟨e,ev⟩,Qa (x:=x) hE' ht e (by rw[Kb,he];simp only;rw[ai ev.symm]),hx']
     ·rw[ag (fun h=>ev h.2)];exact iA (.inr (by rw[Kb,he];simp only;rw[ag (fun h=>ev h.symm)]))
    |some y=>
     have hm:=P8 he;rw[Qa hE ht e he,Qa (x:=y) hE' ht e (by rw[Kb,he])];by_cases ey:y.kind=0;·have h1:=hE.less _ hm ey;simp only at h1;have h2:=(hE.tm _ hm).n ey;have h3:=ht.n e;simp only at h2;exact Xw hE hE' hx hxv mh k y (hE.tm _ hm) (by omega)
     ·rw[iA (E:=E) (.inl ey),iA (.inl ey),ag (fun h=>ey h.1)]
  ·rw[iA (E:=E) (.inl e),iA (.inl e),ag (fun h=>e h.1)]
structure Mon (N : Int) (l : List Ce) (φ : Int → Int) (E : Env) : Prop where
  lt : ∀ x y, gV l x → gV l y → x < y → φ x < φ y
  bd : ∀ x, gV l x → 0 ≤ φ x ∧ φ x < N
  free : ∀ x, gV l x → jM E (φ x) = none
theorem Mon.inj(h:Mon N l φ E){x y:Int}(hx:gV l x)(hy:gV l y)(e:φ x=φ y):x=y:=by
 rcases al6 x y with h1|h1|h1;·have :=h.lt x y hx hy h1;omega
 ·exact h1
 ·have :=h.lt y x hy hx h1;omega
theorem Lt{v z x:Int}(hv:gV l v)(hz:z≠v)(h:gV (fB l v z) x):gV l x/\x≠v:=by
 obtain⟨h1,h2,h3⟩:=h;have hi:Inb l x:=Ej.1 h1;rw[wE hv.1 hi]at h2 h3;by_cases e:x=v;·rw[ai e]at h3;simp only at h3;exact absurd (h3.trans e) hz
 ·rw[ag e]at h2 h3;exact⟨⟨hi,h2,h3⟩,e⟩
section bind
variable {v z : Int} {tz : Tm}
theorem apc(hE:cz N E)(hM:Mon N l φ E)(hE':cz N (E++[(φ v,tz)]))(hv:gV l v)(hz:Inb l z)(hs:Stop l z)(hne:z≠v)(htz:ax E tz=tz)(hxv:tz.kind=0->tz.n≠φ v)(mh:tz.kind=0->jM E tz.n=none){a:Int}{t:Tm}(ht:t.In N)(h:Hr l φ E (fun x=>K x/\x≠v) a t):Hr (fB l v z) φ (E++[(φ v,tz)]) (fun x=>K x/\x≠v) a t:=by
 have hsn:=fun(t:Tm)(ht:t.In N)=>Xw hE hE' htz hxv mh (t.n.toNat+1) t ht (Gb _);induction h with
  |@var a x t h1 h2 h3 h4 h5=>
   have hx:=h1.free h2;have e:ax (E++[(φ v,tz)]) t=ax E t:=by rw[hsn t ht,ag];rintro⟨-,e⟩;exact h3.2 (hM.inj hx hv (h5.symm.trans e))
   refine .var (by have :=GD hv hz hs hne h1;rwa[ag h3.2]at this) (by rw[wE hv.1 hx.1,ag h3.2];exact h2) h3 (by rw[e];exact h4) (by rw[e];exact h5)
  |@leaf a x t h1 h2 h3 h4 h5 h6 h7=>
   have e:ax (E++[(φ v,tz)]) t=ax E t:=by rw[hsn t ht,ag (fun h=>h3 h.1)]
   have hxv:x≠v:=fun e=>by rw[e,hv.2.1]at h2;exact h3 h2.symm
   have hc:cellAt (fB l v z) x=cellAt l x:=by rw[wE hv.1 h1.end_.1,ag hxv]
   exact .leaf (by have :=GD hv hz hs hne h1;rwa[ag hxv]at this) (by rw[e,hc];exact h2) (by rw[e];exact h3) (by rw[e];exact h4) (by rw[e,hc];exact h5) (by rw[e,hc];exact h6) (by rw[e];exact h7)
  |@comp a x t h1 h2 h3 h4 h5 h6 h7 ih=>
   have e:ax (E++[(φ v,tz)]) t=ax E t:=by rw[hsn t ht,ag (fun h=>by rw[h3]at h;simp at h)]
   have hxv:x≠v:=fun e=>by rw[e,hv.2.1]at h2;simp at h2
   have hc:cellAt (fB l v z) x=cellAt l x:=by rw[wE hv.1 h1.end_.1,ag hxv]
   refine .comp (by have :=GD hv hz hs hne h1;rwa[ag hxv]at this) (by rw[hc];exact h2) (by rw[e];exact h3) (by rw[e];exact h4) (by rw[e,hc];exact h5) (by rw[e,hc];exact h6) ?_;rw[e];exact fun i hi=>ih i hi ((oz hE ht).arg (bO hi))
theorem apd(hE:cz N E)(hM:Mon N l φ E)(hE':cz N (E++[(φ v,tz)]))(hv:gV l v)(hz:Inb l z)(hs:Stop l z)(hne:z≠v)(htz:ax E tz=tz)(hxv:tz.kind=0->tz.n≠φ v)(mh:tz.kind=0->jM E tz.n=none)(Lu:tz.In N)(hzz:Hr l φ E (fun x=>True/\x≠v) z tz){a:Int}{t:Tm}(ht:t.In N)(h:Hr l φ E (fun _=>True) a t):Hr (fB l v z) φ (E++[(φ v,tz)]) (fun _=>True) a t:=by
 have hsn:=fun(t:Tm)(ht:t.In N)=>Xw hE hE' htz hxv mh (t.n.toNat+1) t ht (Gb _);have hz':Hr (fB l v z) φ (E++[(φ v,tz)]) (fun _=>True) z tz:=(apc hE hM hE' hv hz hs hne htz hxv mh Lu hzz).imp fun _ _=>trivial;have hzl:Looks (fB l v z) z z:= .stop (Ej.2 hz) (VF hv.1 hz hs hne);induction h with
  |@var a x t h1 h2 h3 h4 h5=>
   have hx:=h1.free h2;have hl:=GD hv hz hs hne h1;by_cases ex:x=v;·rw[ai ex]at hl;refine hz'.move hzl hl ?_;rw[hsn t ht,ai ⟨h4,by rw[h5,ex]⟩,hsn tz Lu,htz,ag (fun h=>hxv h.1 h.2)]
   ·rw[ag ex]at hl;have e:ax (E++[(φ v,tz)]) t=ax E t:=by rw[hsn t ht,ag];rintro⟨-,e⟩;exact ex (hM.inj hx hv (h5.symm.trans e))
    exact .var hl (by rw[wE hv.1 hx.1,ag ex];exact h2) trivial (by rw[e];exact h4) (by rw[e];exact h5)
  |@leaf a x t h1 h2 h3 h4 h5 h6 h7=>
   have e:ax (E++[(φ v,tz)]) t=ax E t:=by rw[hsn t ht,ag (fun h=>h3 h.1)]
   have hxv:x≠v:=fun e=>by rw[e,hv.2.1]at h2;exact h3 h2.symm
   have hc:cellAt (fB l v z) x=cellAt l x:=by rw[wE hv.1 h1.end_.1,ag hxv]
   exact .leaf (by have :=GD hv hz hs hne h1;rwa[ag hxv]at this) (by rw[e,hc];exact h2) (by rw[e];exact h3) (by rw[e];exact h4) (by rw[e,hc];exact h5) (by rw[e,hc];exact h6) (by rw[e];exact h7)
  |@comp a x t h1 h2 h3 h4 h5 h6 h7 ih=>
   have e:ax (E++[(φ v,tz)]) t=ax E t:=by rw[hsn t ht,ag (fun h=>by rw[h3]at h;simp at h)]
   have hxv:x≠v:=fun e=>by rw[e,hv.2.1]at h2;simp at h2
   have hc:cellAt (fB l v z) x=cellAt l x:=by rw[wE hv.1 h1.end_.1,ag hxv]
   refine .comp (by have :=GD hv hz hs hne h1;rwa[ag hxv]at this) (by rw[hc];exact h2) (by rw[e];exact h3) (by rw[e];exact h4) (by rw[e,hc];exact h5) (by rw[e,hc];exact h6) ?_;rw[e];exact fun i hi=>ih i hi ((oz hE ht).arg (bO hi))
end bind
def iD(l:List Ce)(φ:Int->Int)(E:Env)(K:Int->Prop):List Int->List Tm->Prop|[],[]=>True|a::s,t::r=>Hr l φ E K a t/\iD l φ E K s r|_,_=>False
theorem iD.append{s':List Int}{r':List Tm}(h':iD l φ E K s' r'):∀{s:List Int}{r:List Tm},iD l φ E K s r->iD l φ E K (s++s') (r++r')|[],[],_=>h'|a::s,t::r,h=>⟨h.1,iD.append (s:=s) (r:=r) h' h.2⟩
theorem iD.split{s':List Int}{r':List Tm}:∀{s:List Int}{r:List Tm},s.length=r.length->iD l φ E K (s++s') (r++r')->iD l φ E K s r/\iD l φ E K s' r'|[],[],_,h=>⟨trivial,h⟩|a::s,t::r,hl,h=>by obtain⟨h1,h2⟩:=iD.split (s:=s) (r:=r) (by simpa using hl) h.2;exact⟨⟨h.1,h1⟩,h2⟩|[],_::_,hl,_=>by simp at hl|_::_,[],hl,_=>by simp at hl
theorem iD.of{ts:List Tm}{x:Int}(d:Nat)(h:∀(i:Nat)(hi:i<ts.length),Hr l φ E K (x+1+((d+i:Nat):Int)) ts[i]):iD l φ E K ((List.range ts.length).map fun i=>x+1+((d+i:Nat):Int)) ts:=by
 induction ts generalizing d with
  |nil=>trivial
  |cons t r ih=>
   rw[cK,alO,qp,Vq];refine⟨h 0 (by simp),?_⟩;have :=ih (d+1) (fun i hi=>by have :=h (i+1) (by simp;omega);rw[abY]at this;rw[show d+1+i=d+(i+1)by omega];exact this);have e:((fun i=>x+1+((d+i:Nat):Int))∘Nat.succ)=fun i=>x+1+((d+1+i:Nat):Int):=by funext i;simp only[alZ];omega
   rw[e];exact this
theorem iD.get{ts:List Tm}{x:Int}(d:Nat)(h:iD l φ E K ((List.range ts.length).map fun i=>x+1+((d+i:Nat):Int)) ts):∀(i:Nat)(hi:i<ts.length),Hr l φ E K (x+1+((d+i:Nat):Int)) ts[i]:=by
 induction ts generalizing d with
  |nil=>intro i hi;simp at hi
  |cons t r ih=>
   rw[cK,alO,qp,Vq]at h;have e:((fun i=>x+1+((d+i:Nat):Int))∘Nat.succ)=fun i=>x+1+((d+1+i:Nat):Int):=by funext i;simp only[alZ];omega
   rw[e]at h;intro i hi;cases i with|zero=>exact h.1|succ i=>have :=ih (d+1) h.2 i (by simpa using hi);rw[show d+1+i=d+(i+1)by omega]at this;exact this
theorem Lv{ts:List Tm}{x n:Int}(hn:n=ts.length):iD l φ E K (argsAt x n) ts↔∀(i:Nat)(hi:i<ts.length),Hr l φ E K (x+1+(i:Nat)) ts[i]:=by
 subst hn;unfold argsAt;rw[dG];constructor;·intro h i hi;have :=iD.get (x:=x) 0 (by simpa using h) i hi;simpa using this
 ·intro h;have :=iD.of (x:=x) (ts:=ts) 0 (fun i hi=>by simpa using h i hi);simpa using this
theorem iD.len:∀{s:List Int}{r:List Tm},iD l φ E K s r->s.length=r.length|[],[],_=>rfl|a::s,t::r,h=>by simp[iD.len h.2]|[],_::_,h=>h.elim|_::_,[],h=>h.elim
theorem Xx(hE:cz N E)(hM:Mon N l φ E){v:Int}(hv:gV l v):∀(w:Nat)(s:List Int)(ts:List Tm),iD l φ E (fun _=>True) s ts->(∀t∈ts,t.In N)->bR l v w s=fq E (φ v) w ts/\((bR l v w s).1=false->0<=(bR l v w s).2->iD l φ E (fun x=>True/\x≠v) s ts)
 |w,[],[],_,_=>by rw[Gy,Qb];exact⟨rfl,fun _ _=>trivial⟩
 |w,[],_::_,h,_=>h.elim
 |w,_::_,[],h,_=>h.elim
 |0,z::s,t::r,_,_=>by rw[adk];exact⟨rfl,fun _ h=>by simp[bR]at h⟩
 |w+1,z::s,t::r,⟨h1,h2⟩,ht=>by
  have hr:∀t∈r,t.In N:=fun x hx=>ht x (by simp[hx]);have ih:=Xx hE hM hv w s r h2 hr;rw[Ke];unfold bR;cases h1 with
   |@var _ x _ k1 k2 k3 k4 k5=>
    have hx0:=k1.nC;rw[iQ k1,ag (by omega),ai k2,ai k4,k5];by_cases e:x=v;·rw[ai e,ai (by rw[e])];exact⟨rfl,fun h=>by simp at h⟩
    ·have e':¬φ x=φ v:=fun h=>e (hM.inj (k1.free k2) hv h);rw[ag e,ag e'];exact⟨ih.1,fun a b=>⟨.var k1 k2 ⟨trivial,e⟩ k4 k5,ih.2 a b⟩⟩
   |@leaf _ x _ k1 k2 k3 k4 k5 k6 k7=>have hx0:=k1.nC;rw[iQ k1,ag (by omega),ag (by rw[k2];exact k3),ag (by rw[k2];exact k4),ag k3,k7,tK];exact⟨ih.1,fun a b=>⟨.leaf k1 k2 k3 k4 k5 k6 k7,ih.2 a b⟩⟩
   |@comp _ x _ k1 k2 k3 k4 k5 k6 k7=>
    have hx0:=k1.nC;rw[iQ k1,ag (by omega),ag (by rw[k2];decide),ai k2,ag (by rw[k3];decide)];have ha:iD l φ E (fun _=>True) (argsAt x (cellAt l x).n) (ax E t).args:=(Lv k5).2 k7;have ih2:=Xx hE hM hv w (argsAt x (cellAt l x).n++s) ((ax E t).args++r) (iD.append h2 ha) (fun y hy=>by
     rcases fE.1 hy with hy|hy;·exact(oz hE (ht t (by simp))).arg hy
     ·exact hr y hy);refine⟨ih2.1,fun a b=>?_⟩;obtain⟨q1,q2⟩:=iD.split ha.len (ih2.2 a b);exact⟨.comp k1 k2 k3 k4 k5 k6 ((Lv k5).1 q1),q2⟩
end
def oN(l:List Ce)(φ:Int->Int)(E:Env):List (Int×Int)->List (Tm×Tm)->Prop|[],[]=>True|a::s,t::r=>(Hr l φ E (fun _=>True) a.1 t.1/\Hr l φ E (fun _=>True) a.2 t.2)/\oN l φ E s r|_,_=>False
section
variable {l l' : List Ce} {φ : Int → Int} {E E' : Env} {N : Int}
theorem oN.imp(h:∀a t,t.In N->Hr l φ E (fun _=>True) a t->Hr l' φ E' (fun _=>True) a t):∀{s:List (Int×Int)}{r:List (Tm×Tm)},(∀p∈r,p.1.In N/\p.2.In N)->oN l φ E s r->oN l' φ E' s r|[],[],_,_=>trivial|a::s,t::r,hr,k=>⟨⟨h _ _ (hr t (by simp)).1 k.1.1,h _ _ (hr t (by simp)).2 k.1.2⟩,oN.imp h (fun p hp=>hr p (by simp[hp])) k.2⟩|[],_::_,_,h=>h.elim|_::_,[],_,h=>h.elim
theorem oN.append{s':List (Int×Int)}{r':List (Tm×Tm)}(h':oN l φ E s' r'):∀{s:List (Int×Int)}{r:List (Tm×Tm)},oN l φ E s r->oN l φ E (s++s') (r++r')|[],[],_=>h'|a::s,t::r,h=>⟨h.1,oN.append (s:=s) (r:=r) h' h.2⟩|[],_::_,h=>h.elim|_::_,[],h=>h.elim
theorem oN.zip:∀{s s':List Int}{r r':List Tm},iD l φ E (fun _=>True) s r->iD l φ E (fun _=>True) s' r'->oN l φ E (s.zip s') (r.zip r')|[],_,[],_,_,_=>by simp[oN]|_::_,[],_::_,[],_,_=>by simp[oN]|a::s,b::s',t::r,u::r',h,h'=>⟨⟨h.1,h'.1⟩,oN.zip h.2 h'.2⟩|[],_,_::_,_,h,_=>h.elim|_::_,_,[],_,h,_=>h.elim|_::_,[],_::_,_::_,_,h=>h.elim|_::_,_::_,_::_,[],_,h=>h.elim
structure Fa (N : Int) (φ : Int → Int) (l : List Ce) (E : Env) (t : List Int) (u : Un) (u' : US) : Prop where
  ok : u.ok = u'.ok
  work : u.work = u'.work
  tells : u.ok = true → ∀ a x, x.In N → Hr l φ E (fun _ => True) a x → Hr u.cells φ u'.env (fun _ => True) a x
  Lx : u.ok = true → Mon N u.cells φ u'.env
  trail : u.ok = true → ∃ vs, u.trail = t ++ vs ∧ vs.length + E.length = u'.env.length ∧ ∀ v ∈ vs, gV l v
theorem Mon.bind(hM:Mon N l φ E){v z:Int}{tz:Tm}(hv:gV l v)(hne:z≠v):Mon N (fB l v z) φ (E++[(φ v,tz)]):=by refine⟨fun x y hx hy h=>hM.lt x y (Lt hv hne hx).1 (Lt hv hne hy).1 h,fun x hx=>hM.bd x (Lt hv hne hx).1,fun x hx=>?_⟩;obtain⟨h1,h2⟩:=Lt hv hne hx;rw[Kb,hM.free x h1];simp only;rw[ag (fun e=>h2 (hM.inj h1 hv e.symm))]
theorem Fa.step{t:List Int}{v z:Int}{tz:Tm}{u:Un}{u':US}(hv:gV l v)(hne:z≠v)(hH:∀a x,x.In N->Hr l φ E (fun _=>True) a x->Hr (fB l v z) φ (E++[(φ v,tz)]) (fun _=>True) a x)(h:Fa N φ (fB l v z) (E++[(φ v,tz)]) (t++[v]) u u'):Fa N φ l E t u u':=by
 refine⟨h.ok,h.work,fun e a x hx ha=>h.tells e a x hx (hH a x hx ha),h.Lx,fun e=>?_⟩;obtain⟨vs,h1,h2,h3⟩:=h.trail e;refine⟨v::vs,by rw[h1,wD];rfl,by rw[<-h2];simp;omega,fun x hx=>?_⟩;rcases gK.1 hx with rfl|hx;·exact hv
 ·exact(Lt hv hne (h3 x hx)).1
theorem aeR:∀(w:Nat)(s:List (Int×Int))(ts:List (Tm×Tm))(l:List Ce)(E:Env)(t:List Int),cz N E->Mon N l φ E->oN l φ E s ts->(∀p∈ts,p.1.In N/\p.2.In N)->Fa N φ l E t (bD w s l t) (bM w ts E):=by
 intro w;induction w using Nat.strongRecOn with
  |_ w ih=>
   intro s ts l E t hE hM hH hI;match w,s,ts,ih,hH,hI with
    |w,[],[],_,_,_=>rw[GA,AR];exact⟨rfl,rfl,fun _ a x _ h=>h,fun _=>hM,fun _=>⟨[],by simp,by simp,by simp⟩⟩
    |w,[],_::_,_,h,_=>exact h.elim
    |w,_::_,[],_,h,_=>exact h.elim
    |0,p::s,q::ts,_,_,_=>rw[JS,Qc];exact⟨rfl,rfl,fun h=>by simp at h,fun h=>by simp at h,fun h=>by simp at h⟩
    |w+1,(a,b)::s,(ta,tb)::ts,ih,⟨⟨ha,hb⟩,hr⟩,hI=>
     have De:∀p∈ts,p.1.In N/\p.2.In N:=fun p hp=>hI p (by simp[hp]);obtain⟨ia,ib⟩:=hI (ta,tb) (by simp);simp only at ha hb ia ib;have ihr:=ih w (by omega) s ts l E t hE hM hr De;have bnd:∀(v z:Int)(tz:Tm)(k:Nat),k<=w->gV l v->Inb l z->Stop l z->z≠v->ax E tz=tz->tz.In N->(tz.kind=0->tz.n<φ v)->(tz.kind=0->jM E tz.n=none)->Hr l φ E (fun x=>True/\x≠v) z tz->Fa N φ l E t (bD k s (fB l v z) (t++[v])) (bM k ts (E++[(φ v,tz)])):=fun v z tz k hk hv hz hs hne htz Lu hlt hfz hzz=>by have hE':cz N (E++[(φ v,tz)]):=hE.snoc (hM.bd v hv).1 (hM.bd v hv).2 (hM.free v hv) Lu hlt;have hBd:∀a x,x.In N->Hr l φ E (fun _=>True) a x->Hr (fB l v z) φ (E++[(φ v,tz)]) (fun _=>True) a x:=fun a x hx h=>apd hE hM hE' hv hz hs hne htz (fun h1 h2=>by have :=hlt h1;omega) hfz Lu hzz hx h;exact Fa.step hv hne hBd (ih k (by omega) s ts _ _ _ hE' (hM.bind hv hne) (hr.imp hBd De) De)
     have one:∀(v z:Int)(tv tz:Tm),gV l v->Hr l φ E (fun _=>True) z tz->Looks l z z->(cellAt l z).kind≠0->ax E tz=tz->tz.In N->tz.kind≠0->Fa N φ l E t (if(bR l v w [z]).1=true\/(bR l v w [z]).2<0 then⟨false,l,t,(bR l v w [z]).2⟩else bD (min w (bR l v w [z]).2.toNat) s (fB l v z) (t++[v])) (if(fq E (φ v) w [tz]).1=true\/(fq E (φ v) w [tz]).2<0 then⟨false,E,(fq E (φ v) w [tz]).2⟩else bM (min w (fq E (φ v) w [tz]).2.toNat) ts (E++[(φ v,tz)])):=fun v z _ tz hv hz hzz hk htz hti htk=>by
      obtain⟨q1,q2⟩:=Xx hE hM hv w [z] [tz] ⟨hz,trivial⟩ (by simpa using hti);rw[<-q1];split;·exact⟨rfl,rfl,fun h=>by simp at h,fun h=>by simp at h,fun h=>by simp at h⟩
      ·rename_i hn;have q3:=(q2 (by simpa using fun h=>hn (.inl h)) (by omega)).1;exact bnd v z tz _ (by omega) hv hzz.end_.1 hzz.end_.2 (fun e=>hk (e▸hv.2.1)) htz hti (fun h=>absurd h htk) (fun h=>absurd h htk) q3
     rw[bD,bM];simp only;have sa:=adi hE ia;have sb:=adi hE ib;have na:=oz hE ia;have nb:=oz hE ib;cases ha with
      |@var _ x _ a1 a2 a3 a4 a5=>
       have hx0:=a1.nC;have mh:=a1.free a2;cases hb with
        |@var _ y _ b1 b2 b3 b4 b5=>
         have hy0:=b1.nC;have sI:=b1.free b2;rw[iQ a1,iQ b1,ag (show ¬(x<0\/y<0)by omega),ai (show(cellAt l x).kind=0/\(cellAt l y).kind=0 from⟨a2,b2⟩),ai (show(ax E ta).kind=0/\(ax E tb).kind=0 from⟨a4,b4⟩),a5,b5];by_cases e:x=y;·rw[ai e,ai (by rw[e])];exact ihr
         ·have e':¬φ x=φ y:=fun h=>e (hM.inj mh sI h);rw[ag e,ag e'];rcases Int.lt_or_gt_of_ne e with hlt|hlt;·have hlt':=hM.lt x y mh sI hlt;rw[ace (by omega),acj (by omega),ace (by omega),acj (by omega)];have hk:jM E (fw (φ x)).n=none:=hM.free x mh;exact bnd y x (fw (φ x)) w (zL _) sI mh.1 mh.stop e (iA (.inr hk)) (.var _ (hM.bd x mh).1 (hM.bd x mh).2) (fun _=>hlt') (fun _=>hk) (.var (.stop mh.1 mh.stop) a2 ⟨trivial,e⟩ (by rw[iA (.inr hk)];rfl) (by rw[iA (.inr hk)];rfl))
          ·have hlt':=hM.lt y x sI mh hlt;rw[ack (by omega),acd (by omega),ack (by omega),acd (by omega)];have hk:jM E (fw (φ y)).n=none:=hM.free y sI;exact bnd x y (fw (φ y)) w (zL _) mh sI.1 sI.stop (fun h=>e h.symm) (iA (.inr hk)) (.var _ (hM.bd y sI).1 (hM.bd y sI).2) (fun _=>hlt') (fun _=>hk) (.var (.stop sI.1 sI.stop) b2 ⟨trivial,fun h=>e h.symm⟩ (by rw[iA (.inr hk)];rfl) (by rw[iA (.inr hk)];rfl))
        |@leaf _ y _ b1 b2 b3 b4 b5 b6 b7=>
         have hy0:=b1.nC;have hyk:(cellAt l y).kind≠0:=by rw[b2];exact b3
         rw[iQ a1,iQ b1,ag (show ¬(x<0\/y<0)by omega),ag (show ¬((cellAt l x).kind=0/\(cellAt l y).kind=0)from fun h=>hyk h.2),ag (show ¬((ax E ta).kind=0/\(ax E tb).kind=0)from fun h=>b3 h.2),ai (show(cellAt l x).kind=0\/(cellAt l y).kind=0 from .inl a2),ai (show(ax E ta).kind=0\/(ax E tb).kind=0 from .inl a4),ag hyk,ag hyk,ag b3,ag b3,a5];exact one x y ta (ax E tb) mh (.leaf (.stop b1.end_.1 b1.end_.2) (by rw[sb];exact b2) (by rw[sb];exact b3) (by rw[sb];exact b4) (by rw[sb];exact b5) (by rw[sb];exact b6) (by rw[sb];exact b7)) (.stop b1.end_.1 b1.end_.2) hyk sb nb b3
        |@comp _ y _ b1 b2 b3 b4 b5 b6 b7=>
         have hy0:=b1.nC;have hyk:(cellAt l y).kind≠0:=by rw[b2];decide
         have b3':(ax E tb).kind≠0:=by rw[b3];decide
         rw[iQ a1,iQ b1,ag (show ¬(x<0\/y<0)by omega),ag (show ¬((cellAt l x).kind=0/\(cellAt l y).kind=0)from fun h=>hyk h.2),ag (show ¬((ax E ta).kind=0/\(ax E tb).kind=0)from fun h=>b3' h.2),ai (show(cellAt l x).kind=0\/(cellAt l y).kind=0 from .inl a2),ai (show(ax E ta).kind=0\/(ax E tb).kind=0 from .inl a4),ag hyk,ag hyk,ag b3',ag b3',a5];exact one x y ta (ax E tb) mh (.comp (.stop b1.end_.1 b1.end_.2) b2 (by rw[sb];exact b3) (by rw[sb];exact b4) (by rw[sb];exact b5) (by rw[sb];exact b6) (by rw[sb];exact b7)) (.stop b1.end_.1 b1.end_.2) hyk sb nb b3'
      |@leaf _ x _ a1 a2 a3 a4 a5 a6 a7=>
       have hx0:=a1.nC;have hxk:(cellAt l x).kind≠0:=by rw[a2];exact a3
       have hxl:(cellAt l x).kind≠3:=by rw[a2];exact a4
       cases hb with
        |@var _ y _ b1 b2 b3 b4 b5=>have hy0:=b1.nC;have sI:=b1.free b2;rw[iQ a1,iQ b1,ag (show ¬(x<0\/y<0)by omega),ag (show ¬((cellAt l x).kind=0/\(cellAt l y).kind=0)from fun h=>hxk h.1),ag (show ¬((ax E ta).kind=0/\(ax E tb).kind=0)from fun h=>a3 h.1),ai (show(cellAt l x).kind=0\/(cellAt l y).kind=0 from .inr b2),ai (show(ax E ta).kind=0\/(ax E tb).kind=0 from .inr b4),ai b2,ai b2,ai b4,ai b4,b5];exact one y x tb (ax E ta) sI (.leaf (.stop a1.end_.1 a1.end_.2) (by rw[sa];exact a2) (by rw[sa];exact a3) (by rw[sa];exact a4) (by rw[sa];exact a5) (by rw[sa];exact a6) (by rw[sa];exact a7)) (.stop a1.end_.1 a1.end_.2) hxk sa na a3
        |@leaf _ y _ b1 b2 b3 b4 b5 b6 b7=>
         have hy0:=b1.nC;have hyk:(cellAt l y).kind≠0:=by rw[b2];exact b3
         rw[iQ a1,iQ b1,ag (show ¬(x<0\/y<0)by omega),ag (show ¬((cellAt l x).kind=0/\(cellAt l y).kind=0)from fun h=>hxk h.1),ag (show ¬((ax E ta).kind=0/\(ax E tb).kind=0)from fun h=>a3 h.1),ag (show ¬((cellAt l x).kind=0\/(cellAt l y).kind=0)from fun h=>h.elim hxk hyk),ag (show ¬((ax E ta).kind=0\/(ax E tb).kind=0)from fun h=>h.elim a3 b3)];by_cases e:cellAt l x=cellAt l y;·rw[ag (show ¬(cellAt l x≠cellAt l y)from fun h=>h e),ag (show ¬(¬((ax E ta).kind=(ax E tb).kind/\(ax E ta).n=(ax E tb).n/\(ax E ta).s=(ax E tb).s/\(ax E ta).args.length=(ax E tb).args.length))from fun h=>h ⟨by rw[<-a2,<-b2,e],by rw[<-a5,<-b5,e],by rw[<-a6,<-b6,e],by rw[a7,b7]⟩),ag hxl,a7,List.zip_nil_left,tK];exact ihr
         ·rw[ai (show cellAt l x≠cellAt l y from e),ai (show ¬((ax E ta).kind=(ax E tb).kind/\(ax E ta).n=(ax E tb).n/\(ax E ta).s=(ax E tb).s/\(ax E ta).args.length=(ax E tb).args.length)from fun h=>e (by obtain⟨h1,h2,h3, -⟩:=h;rw[<-a2,<-b2]at h1;rw[<-a5,<-b5]at h2;rw[<-a6,<-b6]at h3;cases hcx:cellAt l x;cases hcy:cellAt l y;rw[hcx,hcy]at h1 h2 h3;simp only at h1 h2 h3;rw[h1,h2,h3]))];exact⟨rfl,rfl,fun h=>by simp at h,fun h=>by simp at h,fun h=>by simp at h⟩
        |@comp _ y _ b1 b2 b3 b4 b5 b6 b7=>
         have hy0:=b1.nC;have hyk:(cellAt l y).kind≠0:=by rw[b2];decide
         have b3':(ax E tb).kind≠0:=by rw[b3];decide
         rw[iQ a1,iQ b1,ag (show ¬(x<0\/y<0)by omega),ag (show ¬((cellAt l x).kind=0/\(cellAt l y).kind=0)from fun h=>hxk h.1),ag (show ¬((ax E ta).kind=0/\(ax E tb).kind=0)from fun h=>a3 h.1),ag (show ¬((cellAt l x).kind=0\/(cellAt l y).kind=0)from fun h=>h.elim hxk hyk),ag (show ¬((ax E ta).kind=0\/(ax E tb).kind=0)from fun h=>h.elim a3 b3'),ai (show cellAt l x≠cellAt l y from fun h=>hxl (by rw[h];exact b2)),ai (show ¬((ax E ta).kind=(ax E tb).kind/\(ax E ta).n=(ax E tb).n/\(ax E ta).s=(ax E tb).s/\(ax E ta).args.length=(ax E tb).args.length)from fun h=>a4 (h.1.trans b3))];exact⟨rfl,rfl,fun h=>by simp at h,fun h=>by simp at h,fun h=>by simp at h⟩
      |@comp _ x _ a1 a2 a3 a4 a5 a6 a7=>
       have hx0:=a1.nC;have hxk:(cellAt l x).kind≠0:=by rw[a2];decide
       have a3':(ax E ta).kind≠0:=by rw[a3];decide
       cases hb with
        |@var _ y _ b1 b2 b3 b4 b5=>have hy0:=b1.nC;have sI:=b1.free b2;rw[iQ a1,iQ b1,ag (show ¬(x<0\/y<0)by omega),ag (show ¬((cellAt l x).kind=0/\(cellAt l y).kind=0)from fun h=>hxk h.1),ag (show ¬((ax E ta).kind=0/\(ax E tb).kind=0)from fun h=>a3' h.1),ai (show(cellAt l x).kind=0\/(cellAt l y).kind=0 from .inr b2),ai (show(ax E ta).kind=0\/(ax E tb).kind=0 from .inr b4),ai b2,ai b2,ai b4,ai b4,b5];exact one y x tb (ax E ta) sI (.comp (.stop a1.end_.1 a1.end_.2) a2 (by rw[sa];exact a3) (by rw[sa];exact a4) (by rw[sa];exact a5) (by rw[sa];exact a6) (by rw[sa];exact a7)) (.stop a1.end_.1 a1.end_.2) hxk sa na a3'
        |@leaf _ y _ b1 b2 b3 b4 b5 b6 b7=>
         have hy0:=b1.nC;have hyk:(cellAt l y).kind≠0:=by rw[b2];exact b3
         rw[iQ a1,iQ b1,ag (show ¬(x<0\/y<0)by omega),ag (show ¬((cellAt l x).kind=0/\(cellAt l y).kind=0)from fun h=>hxk h.1),ag (show ¬((ax E ta).kind=0/\(ax E tb).kind=0)from fun h=>a3' h.1),ag (show ¬((cellAt l x).kind=0\/(cellAt l y).kind=0)from fun h=>h.elim hxk hyk),ag (show ¬((ax E ta).kind=0\/(ax E tb).kind=0)from fun h=>h.elim a3' b3),ai (show cellAt l x≠cellAt l y from fun h=>b4 (by rw[<-b2,<-h];exact a2)),ai (show ¬((ax E ta).kind=(ax E tb).kind/\(ax E ta).n=(ax E tb).n/\(ax E ta).s=(ax E tb).s/\(ax E ta).args.length=(ax E tb).args.length)from fun h=>b4 (by rw[<-h.1];exact a3))];exact⟨rfl,rfl,fun h=>by simp at h,fun h=>by simp at h,fun h=>by simp at h⟩
        |@comp _ y _ b1 b2 b3 b4 b5 b6 b7=>
         have hy0:=b1.nC;have hyk:(cellAt l y).kind≠0:=by rw[b2];decide
         have b3':(ax E tb).kind≠0:=by rw[b3];decide
         rw[iQ a1,iQ b1,ag (show ¬(x<0\/y<0)by omega),ag (show ¬((cellAt l x).kind=0/\(cellAt l y).kind=0)from fun h=>hxk h.1),ag (show ¬((ax E ta).kind=0/\(ax E tb).kind=0)from fun h=>a3' h.1),ag (show ¬((cellAt l x).kind=0\/(cellAt l y).kind=0)from fun h=>h.elim hxk hyk),ag (show ¬((ax E ta).kind=0\/(ax E tb).kind=0)from fun h=>h.elim a3' b3')];by_cases e:cellAt l x=cellAt l y
         ·have hl:(ax E ta).args.length=(ax E tb).args.length:=by have :=congrArg Ce.n e;rw[a5,b5]at this;omega
          rw[ag (show ¬(cellAt l x≠cellAt l y)from fun h=>h e),ag (show ¬(¬((ax E ta).kind=(ax E tb).kind/\(ax E ta).n=(ax E tb).n/\(ax E ta).s=(ax E tb).s/\(ax E ta).args.length=(ax E tb).args.length))from fun h=>h ⟨by rw[a3,b3],by rw[a4,b4],by rw[<-a6,<-b6,e],hl⟩),ai a2];have h1:iD l φ E (fun _=>True) (argsAt x (cellAt l x).n) (ax E ta).args:=(Lv a5).2 a7;have h2:iD l φ E (fun _=>True) (argsAt y (cellAt l x).n) (ax E tb).args:=(Lv (by rw[e];exact b5)).2 b7;exact ih w (by omega) _ _ l E t hE hM (oN.append hr (oN.zip h1 h2)) (fun p hp=>by
           rcases fE.1 hp with hp|hp;·have :=al8 hp;exact⟨na.arg this.1,nb.arg this.2⟩
           ·exact De p hp)
         ·rw[ai (show cellAt l x≠cellAt l y from e),ai (show ¬((ax E ta).kind=(ax E tb).kind/\(ax E ta).n=(ax E tb).n/\(ax E ta).s=(ax E tb).s/\(ax E ta).args.length=(ax E tb).args.length)from fun h=>e (by
           obtain⟨h1,h2,h3,h4⟩:=h;rw[<-a6,<-b6]at h3;have h5:(cellAt l x).n=(cellAt l y).n:=by rw[a5,b5,h4]
           have h6:(cellAt l x).kind=(cellAt l y).kind:=by rw[a2,b2]
           cases hcx:cellAt l x;cases hcy:cellAt l y;rw[hcx,hcy]at h3 h5 h6;simp only at h3 h5 h6;rw[h3,h5,h6]))];exact⟨rfl,rfl,fun h=>by simp at h,fun h=>by simp at h,fun h=>by simp at h⟩
end
section
variable {h : Hp} {roots : List Int}
def RP(h:Hp)(roots:List Int)(a:Int):Prop:=0<=a/\Reach h.cells roots a.toNat
theorem RP.nat{a:Int}(hr:RP h roots a)(hg:gU h.cells):∃k:Nat,a=(k:Int)/\k<h.cells.length/\Reach h.cells roots k:=by obtain⟨h0,h1⟩:=hr;obtain⟨k,rfl⟩:=dQ h0;rw[dG]at h1;exact⟨k,rfl,h1.lt hg,h1⟩
theorem RP.of{k:Nat}(hr:Reach h.cells roots k):RP h roots (k:Int):=⟨zN _,by rw[dG];exact hr⟩
theorem xg(m:List Bool)(k:Nat):ahead m (k:Int)=(cnt m k:Nat):=by unfold ahead;rw[dG]
theorem ape(hg:gU h.cells){a:Int}(hr:RP h roots a):cellAt (iR h roots).cells (ahead (marks h.cells roots) a)=ow (marks h.cells roots) (cellAt h.cells a):=by obtain⟨k,rfl,hk,hr⟩:=hr.nat hg;rw[xg,VH k hk hr]
theorem aeS(hg:gU h.cells){a:Int}(hr:RP h roots a):Inb (iR h roots).cells (ahead (marks h.cells roots) a)/\Inb h.cells a:=by obtain⟨k,rfl,hk,hr⟩:=hr.nat hg;have :=J3 (h:=h) hk hr;rw[xg];unfold Inb;omega
theorem RP.next(hg:gU h.cells){a:Int}(hr:RP h roots a)(hk:(cellAt h.cells a).kind=0):RP h roots (cellAt h.cells a).n:=by obtain⟨k,rfl,hkl,hr⟩:=hr.nat hg;have h1:=hg k hkl;rw[jv hkl]at hk ⊢;unfold Ce.fF at h1;obtain⟨m,hm⟩:=dQ (show 0<=h.cells[k].n by omega);rw[hm];exact RP.of (.step hr (.inl (by rw[jv hkl];exact⟨hk,hm⟩)))
theorem apf(hg:gU h.cells){a:Int}(hr:RP h roots a)(hk:(cellAt h.cells a).kind=3):argsAt (ahead (marks h.cells roots) a) (cellAt h.cells a).n=(argsAt a (cellAt h.cells a).n).map (ahead (marks h.cells roots))/\∀x∈argsAt a (cellAt h.cells a).n,RP h roots x:=by
 obtain⟨k,rfl,hkl,hr⟩:=hr.nat hg;have h1:=hg k hkl;have hk':=hk;rw[jv hkl]at hk';unfold Ce.fF at h1;have hn:0<=(cellAt h.cells (k:Int)).n:=by rw[jv hkl];omega
 obtain⟨n,hn⟩:=dQ hn;rw[hn];have key:∀i,i<n->cnt (marks h.cells roots) (k+1+i)=cnt (marks h.cells roots) k+1+i/\Reach h.cells roots (k+1+i):=fun i hi=>by refine⟨(J4 hg hkl hr hk i (by omega)).1,?_⟩;have :=(J4 hg hkl hr hk (i+1) (by omega)).2 (by omega);rw[show k+1+i=k+(i+1)by omega];exact this
 constructor;·unfold argsAt;rw[Vq];refine ab0 fun i hi=>?_;rw[ko,dG]at hi;obtain⟨k1,k2⟩:=key i hi;simp only[alZ];rw[show(k:Int)+1+(i:Nat)=((k+1+i:Nat):Int)by omega,xg,xg,k1];omega
 ·intro x hx;unfold argsAt at hx;obtain⟨i,hi,rfl⟩:=fZ.1 hx;rw[ko,dG]at hi;rw[show(k:Int)+1+(i:Nat)=((k+1+i:Nat):Int)by omega];exact RP.of (key i hi).2
end
def xh(mv:Int->Int)(c:Ce):Ce:=if c.kind=0 then{c with n:=mv c.n}else c
structure mU (l l' : List Ce) (S : Int → Prop) (mv : Int → Int) : Prop where
  jF : ∀ a, S a → Inb l a ∧ Inb l' (mv a)
  cell : ∀ a, S a → cellAt l' (mv a) = xh mv (cellAt l a)
  next : ∀ a, S a → (cellAt l a).kind = 0 → S (cellAt l a).n
  args : ∀ a, S a → (cellAt l a).kind = 3 → ∀ i : Nat, (i : Int) < (cellAt l a).n → S (a + 1 + (i : Nat)) ∧ mv (a + 1 + (i : Nat)) = mv a + 1 + (i : Nat)
  lt : ∀ a b, S a → S b → a < b → mv a < mv b
section
variable {l l' : List Ce} {S : Int → Prop} {mv : Int → Int} {φ φ' : Int → Int} {E : Env} {K K' : Int → Prop} {N : Int}
theorem mU.inj(h:mU l l' S mv){a b:Int}(ha:S a)(hb:S b)(e:mv a=mv b):a=b:=by
 rcases al6 a b with h1|h1|h1;·have :=h.lt a b ha hb h1;omega
 ·exact h1
 ·have :=h.lt b a hb ha h1;omega
theorem zV(mv:Int->Int)(c:Ce):(xh mv c).kind=c.kind:=by unfold xh;split<;>rfl
theorem Ib(mv:Int->Int)(c:Ce):(xh mv c).s=c.s:=by unfold xh;split<;>rfl
theorem Rf(mv:Int->Int){c:Ce}(h:c.kind≠0):(xh mv c).n=c.n:=by unfold xh;rw[ag h]
theorem Rh(mv:Int->Int){c:Ce}(h:c.kind=0):(xh mv c).n=mv c.n:=by unfold xh;rw[ai h]
theorem mU.stop(h:mU l l' S mv){a:Int}(ha:S a):Stop l' (mv a)↔Stop l a:=by
 unfold Stop;rw[h.cell a ha,zV];by_cases hk:(cellAt l a).kind=0
 ·rw[Rh mv hk];constructor
  ·rintro(e|e);·exact .inl e
   ·exact .inr (h.inj (h.next a ha hk) ha e)
  ·rintro(e|e);·exact .inl e
   ·exact .inr (by rw[e])
 ·exact⟨fun _=> .inl hk,fun _=> .inl hk⟩
theorem mU.looks(h:mU l l' S mv){a x:Int}(hl:Looks l a x)(ha:S a):Looks l' (mv a) (mv x)/\S x:=by induction hl with|stop h1 h2=>exact⟨.stop (h.jF _ ha).2 ((h.stop ha).2 h2),ha⟩|@next a x h1 h2 _ ih=>have hk:(cellAt l a).kind=0:=F6 fun hk=>h2 (.inl hk);obtain⟨k1,k2⟩:=ih (h.next a ha hk);refine⟨.next (h.jF _ ha).2 (fun hs=>h2 ((h.stop ha).1 hs)) ?_,k2⟩;rw[h.cell a ha,Rh mv hk];exact k1
theorem mU.free(h:mU l l' S mv){a:Int}(ha:S a):gV l' (mv a)↔gV l a:=by
 unfold gV;rw[h.cell a ha,zV];by_cases hk:(cellAt l a).kind=0;·rw[Rh mv hk];exact⟨fun⟨_,_,e⟩=>⟨(h.jF a ha).1,hk,h.inj (h.next a ha hk) ha e⟩,fun⟨_,_,e⟩=>⟨(h.jF a ha).2,hk,by rw[e]⟩⟩
 ·exact⟨fun⟨_,e,_⟩=>absurd e hk,fun⟨_,e,_⟩=>absurd e hk⟩
theorem mU.hr(h:mU l l' S mv)(hφ:∀x,S x->gV l x->K x->φ' (mv x)=φ x/\K' (mv x)){a:Int}{t:Tm}(hr:Hr l φ E K a t):S a->Hr l' φ' E K' (mv a) t:=by
 induction hr with
  |@var a x t h1 h2 h3 h4 h5=>intro ha;obtain⟨k1,k2⟩:=h.looks h1 ha;obtain⟨k3,k4⟩:=hφ x k2 (h1.free h2) h3;exact .var k1 (by rw[h.cell x k2,zV];exact h2) k4 h4 (by rw[k3];exact h5)
  |@leaf a x t h1 h2 h3 h4 h5 h6 h7=>
   intro ha;obtain⟨k1,k2⟩:=h.looks h1 ha;have hk:(cellAt l x).kind≠0:=by rw[h2];exact h3
   exact .leaf k1 (by rw[h.cell x k2,zV];exact h2) h3 h4 (by rw[h.cell x k2,Rf mv hk];exact h5) (by rw[h.cell x k2,Ib];exact h6) h7
  |@comp a x t h1 h2 h3 h4 h5 h6 h7 ih=>
   intro ha;obtain⟨k1,k2⟩:=h.looks h1 ha;have hk:(cellAt l x).kind≠0:=by rw[h2];decide
   refine .comp k1 (by rw[h.cell x k2,zV];exact h2) h3 h4 (by rw[h.cell x k2,Rf mv hk];exact h5) (by rw[h.cell x k2,Ib];exact h6) fun i hi=>?_;obtain⟨q1,q2⟩:=h.args x k2 h2 i (by rw[h5];omega);rw[<-q2];exact ih i hi q1
open Classical in noncomputable def Ic(S:Int->Prop)(mv:Int->Int)(y:Int):Int:=if h:∃x,S x/\mv x=y then Classical.choose h else 0
theorem mU.back(h:mU l l' S mv){a:Int}(ha:S a):Ic S mv (mv a)=a:=by have he:∃x,S x/\mv x=mv a:=⟨a,ha,rfl⟩;unfold Ic;rw[AB he];obtain⟨h1,h2⟩:=Classical.choose_spec he;exact h.inj h1 ha h2
theorem mU.all(h:mU l l' S mv)(Df:∀y,Inb l' y->∃x,S x/\mv x=y)(hM:Mon N l φ E):Mon N l' (fun y=>φ (Ic S mv y)) E/\∀a t,S a->Hr l φ E (fun _=>True) a t->Hr l' (fun y=>φ (Ic S mv y)) E (fun _=>True) (mv a) t:=by
 refine⟨⟨fun x y hx hy hlt=>?_,fun x hx=>?_,fun x hx=>?_⟩,fun a t ha hr=>h.hr (fun x hx _ _=>⟨by rw[h.back hx],trivial⟩) hr ha⟩
 ·obtain⟨a,ha,rfl⟩:=Df x hx.1;obtain⟨b,hb,rfl⟩:=Df y hy.1;rw[h.back ha,h.back hb];refine hM.lt a b ((h.free ha).1 hx) ((h.free hb).1 hy) ?_;rcases al6 a b with h1|h1|h1;·exact h1
  ·subst h1;omega
  ·have :=h.lt b a hb ha h1;omega
 ·obtain⟨a,ha,rfl⟩:=Df x hx.1;rw[h.back ha];exact hM.bd a ((h.free ha).1 hx)
 ·obtain⟨a,ha,rfl⟩:=Df x hx.1;rw[h.back ha];exact hM.free a ((h.free ha).1 hx)
end
def eu(h:Hp)(top tr:Nat):Hp:=⟨(iw h.cells (h.trail.drop tr)).take top,h.trail.take tr⟩
def vG(m:List Bool)(v:Int):Bool:=(m[v.toNat]?).getD false
theorem Xy(m:List Bool)(t:List Int):∀(k:Nat),k<=t.length->jU m t k=((t.take k).filter (vG m)).map (ahead m)
 |0,_=>by simp[jU]
 |k+1,hk=>by
  have hlt:k<t.length:=by omega
  rw[dX hlt,al1,ru,<-Xy m t k (by omega),jU];have e:(bu m t)[k]?=some (vG m t[k]):=by unfold bu;rw[Aw,aT hlt];rfl
  rw[e];cases hq:vG m t[k]with|true=>rw[ai rfl,aT hlt];simp[hq]|false=>rw[ag (by simp)];simp[hq]
section
variable {h : Hp} {roots : List Int}
theorem aeT(hg:h.Good):mU h.cells (iR h roots).cells (RP h roots) (ahead (marks h.cells roots)):=by
 refine⟨fun a ha=>⟨(aeS hg.1 ha).2,(aeS hg.1 ha).1⟩,fun a ha=>ape hg.1 ha,fun a ha hk=>ha.next hg.1 hk,fun a ha hk i hi=>?_,fun a b ha hb hlt=>?_⟩
 ·obtain⟨h1,h2⟩:=apf hg.1 ha hk;have hm:a+1+(i:Nat)∈argsAt a (cellAt h.cells a).n:=by unfold argsAt;exact fZ.2 ⟨i,ko.2 (by omega),rfl⟩
  refine⟨h2 _ hm,?_⟩;have h3:=congrArg (fun l=>l[i]?) h1;unfold argsAt at h3;simp only[Aw,ab2 (show i<(cellAt h.cells a).n.toNat by omega),pq,dm]at h3;exact h3.symm
 ·obtain⟨k,rfl,hk,ha⟩:=ha.nat hg.1;obtain⟨m,rfl,hm,hb⟩:=hb.nat hg.1;rw[xg,xg];have :=cnt_lt (m:=marks h.cells roots) (i:=k) (j:=m) (by omega) ((uU hk).2 ha);omega
theorem apg(hg:h.Good):∀y,Inb (iR h roots).cells y->∃x,RP h roots x/\ahead (marks h.cells roots) x=y:=by intro y hy;obtain⟨k,rfl⟩:=dQ hy.1;obtain⟨i,h1,h2,h3⟩:=acZ (h:=h) (roots:=roots) (j:=k) (by have :=hy.2;omega);exact⟨(i:Int),RP.of h2,by rw[xg,h3]⟩
theorem Xz(hg:h.Good){v:Int}(hv:v∈h.trail):vG (marks h.cells roots) v=true↔RP h roots v:=by
 obtain⟨j,hj,rfl⟩:=ng.1 hv;obtain⟨k,e,hk, -⟩:=hg.2.1 j hj;rw[e];unfold vG RP;rw[dG];constructor;·intro h1;refine⟨zN _,(uU hk).1 ?_⟩;cases hq:(marks h.cells roots)[k]? with|none=>rw[hq]at h1;simp at h1|some b=>rw[hq]at h1;simp only[nW]at h1;rw[h1]
 ·intro h1;rw[(uU hk).2 h1.2];rfl
theorem aeU(tr:Nat)(htr:tr<=h.trail.length):(iR h roots).trail.take (cnt (bu (marks h.cells roots) h.trail) tr)=((h.trail.take tr).filter (vG (marks h.cells roots))).map (ahead (marks h.cells roots))/\(iR h roots).trail.drop (cnt (bu (marks h.cells roots) h.trail) tr)=((h.trail.drop tr).filter (vG (marks h.cells roots))).map (ahead (marks h.cells roots)):=by
 have h1:(iR h roots).trail=(h.trail.filter (vG (marks h.cells roots))).map (ahead (marks h.cells roots)):=by show jU _ _ _=_;rw[Xy _ _ _ (zL _),jd]
 have h2:cnt (bu (marks h.cells roots) h.trail) tr=(((h.trail.take tr).filter (vG (marks h.cells roots))).map (ahead (marks h.cells roots))).length:=by rw[<-uV,Xy _ _ _ htr]
 have h3:(h.trail.filter (vG (marks h.cells roots))).map (ahead (marks h.cells roots))=((h.trail.take tr).filter (vG (marks h.cells roots))).map (ahead (marks h.cells roots))++((h.trail.drop tr).filter (vG (marks h.cells roots))).map (ahead (marks h.cells roots)):=by rw[<-ru,<-al1,Ju]
 rw[h1,h2,h3];exact⟨Jy rfl,List.drop_left' rfl⟩
theorem Bl(top tr:Nat)(htop:top<=h.cells.length):(eu h top tr).cells.length=top:=by show((iw _ _).take top).length=top;rw[eY,uT];omega
theorem Ri{top tr:Nat}{a:Int}(htop:top<=h.cells.length)(h0:0<=a)(h1:a<top):cellAt (eu h top tr).cells a=if a∈h.trail.drop tr then{cellAt h.cells a with n:=a}else cellAt h.cells a:=by
 obtain⟨k,rfl⟩:=dQ h0;have hk:k<(eu h top tr).cells.length:=by rw[Bl top tr htop];omega
 have hk2:k<h.cells.length:=by omega
 rw[jv hk,jv hk2];have hk':k<((iw h.cells (h.trail.drop tr)).take top).length:=hk;show((iw h.cells (h.trail.drop tr)).take top)[k]'hk'=_;rw[List.getElem_take,JV]
theorem aeV(hg:h.Good){top tr:Nat}(htop:top<=h.cells.length)(htr:tr<=h.trail.length)(ho:(eu h top tr).Good):mU (eu h top tr).cells (eu (iR h roots) (cnt (marks h.cells roots) top) (cnt (bu (marks h.cells roots) h.trail) tr)).cells (fun a=>RP h roots a/\a<top) (ahead (marks h.cells roots))/\(∀y,Inb (eu (iR h roots) (cnt (marks h.cells roots) top) (cnt (bu (marks h.cells roots) h.trail) tr)).cells y->∃x,(RP h roots x/\x<top)/\ahead (marks h.cells roots) x=y):=by
 have hlen:=Bl (h:=h) top tr htop;have aeW:cnt (marks h.cells roots) top<=(iR h roots).cells.length:=by show _<=(jK _ _ _).length;rw[qC];exact GH htop
 have hlen':=Bl (h:=iR h roots) (cnt (marks h.cells roots) top) (cnt (bu (marks h.cells roots) h.trail) tr) aeW;have hM:=aeT (roots:=roots) hg;have hin:∀a,RP h roots a->a<top->0<=ahead (marks h.cells roots) a/\ahead (marks h.cells roots) a<(cnt (marks h.cells roots) top:Nat):=fun a ha hlt=>by obtain⟨k,rfl,hk,hr⟩:=ha.nat hg.1;rw[xg];have :=cnt_lt (m:=marks h.cells roots) (i:=k) (j:=top) (by omega) ((uU hk).2 hr);omega
 have hun:∀a,RP h roots a->(ahead (marks h.cells roots) a∈(iR h roots).trail.drop (cnt (bu (marks h.cells roots) h.trail) tr)↔a∈h.trail.drop tr):=fun a ha=>by
  rw[(aeU tr htr).2];constructor;·intro hm;obtain⟨x,hx,e⟩:=fZ.1 hm;obtain⟨hx1,hx2⟩:=aci.1 hx;rw[<-hM.inj ((Xz hg (F7 hx1)).1 hx2) ha e];exact hx1
  ·intro hm;exact fZ.2 ⟨a,aci.2 ⟨hm,(Xz hg (F7 hm)).2 ha⟩,rfl⟩
 have htk:∀a,a∈h.trail->(cellAt h.cells a).kind=0:=fun a ha=>by obtain⟨j,hj,rfl⟩:=ng.1 ha;obtain⟨k,e,hk,hk0⟩:=hg.2.1 j hj;rw[e,jv hk];exact hk0
 have hok:∀a:Int,0<=a->a<(top:Int)->(cellAt (eu h top tr).cells a).fF top a.toNat:=fun a h0 h1=>by
  obtain⟨k,rfl⟩:=dQ h0;have hk:k<(eu h top tr).cells.length:=by omega
  have :=ho.1 k hk;rw[jv hk,dG];rwa[hlen]at this
 refine⟨⟨fun a⟨ha,hlt⟩=>⟨⟨ha.1,by omega⟩,by have :=hin a ha hlt;unfold Inb;omega⟩,fun a⟨ha,hlt⟩=>?_,fun a⟨ha,hlt⟩hk=>?_,fun a⟨ha,hlt⟩hk i hi=>?_,fun a b ha hb hlt=>hM.lt a b ha.1 hb.1 hlt⟩,fun y hy=>?_⟩
 ·obtain⟨q1,q2⟩:=hin a ha hlt;rw[Ri aeW q1 q2,Ri htop ha.1 hlt,hM.cell a ha];by_cases hm:a∈h.trail.drop tr;·rw[ai hm,ai ((hun a ha).2 hm)];have hk:=htk a (F7 hm);unfold xh;rw[ai hk,ai hk]
  ·rw[ag hm,ag (fun h=>hm ((hun a ha).1 h))]
 ·have h1:=hok a ha.1 hlt;rw[Ri htop ha.1 hlt]at h1 hk ⊢;by_cases hm:a∈h.trail.drop tr;·rw[ai hm];exact⟨ha,hlt⟩
  ·rw[ag hm]at h1 hk ⊢;unfold Ce.fF at h1;exact⟨hM.next a ha hk,by omega⟩
 ·have h1:=hok a ha.1 hlt;rw[Ri htop ha.1 hlt]at h1 hk hi;have hm:¬a∈h.trail.drop tr:=fun hm=>by rw[ai hm]at hk;have :=htk a (F7 hm);simp only at hk;omega
  rw[ag hm]at h1 hk hi;obtain⟨k1,k2⟩:=hM.args a ha hk i hi;unfold Ce.fF at h1;have :=ha.1;exact⟨⟨k1,by omega⟩,k2⟩
 ·obtain⟨j,rfl⟩:=dQ hy.1;have hj:j<cnt (marks h.cells roots) top:=by have :=hy.2;omega
  obtain⟨i,h1,h2,h3⟩:=JZ _ _ hj;exact⟨(i:Int),⟨RP.of ((uU (by omega)).1 h2),by omega⟩,by rw[xg,h3]⟩
theorem mU.good{l l':List Ce}{S:Int->Prop}{mv:Int->Int}(hM:mU l l' S mv)(Df:∀y,Inb l' y->∃x,S x/\mv x=y)(hg:gU l):gU l':=by
 intro i hi;obtain⟨x,hx,e⟩:=Df (i:Int) ⟨zN _,by omega⟩;have h1:=hM.cell x hx;rw[e,jv hi]at h1;obtain⟨k,rfl,hk,hc⟩:=oq (hM.jF x hx).1;have h2:=hg k hk;rw[h1];have hnext:=hM.next _ hx;have hargs:=hM.args _ hx;rw[hc]at hnext hargs ⊢;unfold Ce.fF at h2 ⊢;rcases h2 with⟨a1,a2,a3,a4⟩|⟨a1,a2,a3⟩|⟨a1,a2⟩|⟨a1,a2,a3,a4,a5⟩;·left;have hb:=(hM.jF _ (hnext a1)).2;unfold Inb at hb;rw[zV,Ib,Rh mv a1];exact⟨a1,hb.1,hb.2,a4⟩
 ·right;left;rw[zV,Ib,Rf mv (by omega)];exact⟨a1,a2,a3⟩
 ·right;right;left;rw[zV,Ib];exact⟨a1,a2⟩
 ·right;right;right;rw[zV,Ib,Rf mv (by omega)];obtain⟨k1,k2⟩:=hargs a1 ((l[k]).n.toNat - 1) (by omega);have hb:=(hM.jF _ k1).2;unfold Inb at hb;exact⟨a1,a2,a3,by omega,a5⟩
theorem aph(hg:h.Good){top tr:Nat}(htop:top<=h.cells.length)(htr:tr<=h.trail.length)(ho:(eu h top tr).Good):(eu (iR h roots) (cnt (marks h.cells roots) top) (cnt (bu (marks h.cells roots) h.trail) tr)).Good:=by
 obtain⟨hM,Df⟩:=aeV (roots:=roots) hg htop htr ho;have hgg:=ac0 (roots:=roots) hg;have hlen:=Bl (h:=h) top tr htop;refine⟨hM.good Df ho.1,fun j hj=>?_,?_,?_⟩;·have e:(eu (iR h roots) (cnt (marks h.cells roots) top) (cnt (bu (marks h.cells roots) h.trail) tr)).trail=_:=(aeU tr htr).1;have hm:(eu (iR h roots) (cnt (marks h.cells roots) top) (cnt (bu (marks h.cells roots) h.trail) tr)).trail[j]∈((h.trail.take tr).filter (vG (marks h.cells roots))).map (ahead (marks h.cells roots)):=e▸bO hj;obtain⟨x,hx,ex⟩:=fZ.1 hm;obtain⟨hx1,hx2⟩:=aci.1 hx;have hxt:=(Xz (roots:=roots) hg (Vf hx1)).1 hx2;obtain⟨i,hi,ei⟩:=ng.1 (show x∈(eu h top tr).trail from hx1);obtain⟨k,ek,hk,hk0⟩:=ho.2.1 i hi;have hxk:x=(k:Int):=ei.symm.trans ek;have hS:RP h roots x/\x<top:=⟨hxt,by omega⟩;have hb:=(hM.jF x hS).2;obtain⟨m,hm,rW,hmc⟩:=oq hb;refine⟨m,by rw[<-hm];exact ex.symm,rW,?_⟩;rw[<-hmc,hM.cell x hS,zV,hxk,jv hk];exact hk0
 ·show((iw _ _).take _).length<=_;rw[eY,uT];have :=hgg.2.2.1;omega
 ·show(List.take _ _).length<=_;rw[eY];have :=hgg.2.2.2;omega
end
