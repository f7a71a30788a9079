import Derived.Test.YtlpmfkpefoegeacPSolveF
import Derived.Test.YtlpmfkpefoegeacQIsHeap
import Derived.Test.YtlpmfkpefoegeacHCol
import Derived.Test.YtlpmfkpefoegeacHBack
namespace Go.Proofs.Ytlpmfkpefoegeac
set_option maxRecDepth 100000
set_option maxHeartbeats 16000000
set_option linter.all false
inductive Hr (l : List Ce) (φ : Int → Int) (E : Env) (K : Int → Prop) : Int → Tm → Prop where
  | var {a x : Int} {t : Tm} : Looks l a x → (Zaa l x).kind = 0 → K x → (slook E t).kind = 0 → (slook E t).n = φ x → Hr l φ E K a t
  | leaf {a x : Int} {t : Tm} : Looks l a x → (Zaa l x).kind = (slook E t).kind → (slook E t).kind ≠ 0 → (slook E t).kind ≠ 3 → (Zaa l x).n = (slook E t).n → (Zaa l x).s = (slook E t).s → (slook E t).args = [] → Hr l φ E K a t
  | comp {a x : Int} {t : Tm} : Looks l a x → (Zaa l x).kind = 3 → (slook E t).kind = 3 → (slook E t).n = 0 → (Zaa l x).n = (slook E t).args.length → (Zaa l x).s = (slook E t).s →
      (∀ (i : Nat) (h : i < (slook E t).args.length), Hr l φ E K (x + 1 + (i : Nat)) ((slook E t).args[i])) → Hr l φ E K a t
section
variable {l : List Ce} {φ : Int → Int} {E : Env} {K : Int → Prop} {N : Int}
theorem Hr.looks{a:Int}{t:Tm}(h:Hr l φ E K a t):∃x,Looks l a x:=by cases h<;>exact⟨_,by assumption⟩
theorem Hr.move{a z x:Int}{t u:Tm}(h:Hr l φ E K z t)(hz:Looks l z x)(ha:Looks l a x)(hs:slook E u=slook E t):Hr l φ E K a u:=by cases h with|var h1 h2 h3 h4 h5=>obtain rfl:=hz.fun_ h1;exact .var ha h2 h3 (by rw[hs];exact h4) (by rw[hs];exact h5)|leaf h1 h2 h3 h4 h5 h6 h7=>obtain rfl:=hz.fun_ h1;exact .leaf ha (by rw[hs];exact h2) (by rw[hs];exact h3) (by rw[hs];exact h4) (by rw[hs];exact h5) (by rw[hs];exact h6) (by rw[hs];exact h7)|comp h1 h2 h3 h4 h5 h6 h7=>obtain rfl:=hz.fun_ h1;exact .comp ha h2 (by rw[hs];exact h3) (by rw[hs];exact h4) (by rw[hs];exact h5) (by rw[hs];exact h6) (by rw[hs];exact h7)
theorem Hr.imp{K':Int->Prop}(hK:∀x,K x->K' x){a:Int}{t:Tm}(h:Hr l φ E K a t):Hr l φ E K' a t:=by induction h with|var h1 h2 h3 h4 h5=>exact .var h1 h2 (hK _ h3) h4 h5|leaf h1 h2 h3 h4 h5 h6 h7=>exact .leaf h1 h2 h3 h4 h5 h6 h7|comp h1 h2 h3 h4 h5 h6 _ ih=>exact .comp h1 h2 h3 h4 h5 h6 ih
theorem ZeG(hE:EnvOk N E){v:Int}{x:Tm}(hE':EnvOk N (E++[(v,x)]))(hx:slook E x=x)(hxv:x.kind=0->x.n≠v)(hxf:x.kind=0->eget E x.n=none):∀(k:Nat)(t:Tm),t.In N->t.n.toNat<k->slook (E++[(v,x)]) t=if(slook E t).kind=0/\(slook E t).n=v then x else slook E t
 |0,t,_,h=>absurd h (Nat.not_lt_zero _)
 |k+1,t,ht,hk=>by
  have hx':slook (E++[(v,x)]) x=x:=by
   by_cases e:x.kind=0;·refine Zay (.inr ?_);rw[Zdb,hxf e];simp only;rw[if_neg (fun h=>hxv e h.symm)]
   ·exact Zay (.inl e)
  by_cases e:t.kind=0
  ·cases he:eget E t.n with
    |none=>
     rw[Zay (E:=E) (.inr he)];by_cases ev:t.n=v;·rw[if_pos ⟨e,ev⟩,ZdA (x:=x) hE' ht e (by rw[Zdb,he];simp only;rw[if_pos ev.symm]),hx']
     ·rw[if_neg (fun h=>ev h.2)];exact Zay (.inr (by rw[Zdb,he];simp only;rw[if_neg (fun h=>ev h.symm)]))
    |some y=>
     have hm:=Zea he;rw[ZdA hE ht e he,ZdA (x:=y) hE' ht e (by rw[Zdb,he])];by_cases ey:y.kind=0;·have h1:=hE.less _ hm ey;simp only at h1;have h2:=(hE.tm _ hm).n ey;have h3:=ht.n e;simp only at h2;exact ZeG hE hE' hx hxv hxf k y (hE.tm _ hm) (by omega)
     ·rw[Zay (E:=E) (.inl ey),Zay (.inl ey),if_neg (fun h=>ey h.1)]
  ·rw[Zay (E:=E) (.inl e),Zay (.inl e),if_neg (fun h=>e h.1)]
structure Mon (N : Int) (l : List Ce) (φ : Int → Int) (E : Env) : Prop where
  lt : ∀ x y, Free l x → Free l y → x < y → φ x < φ y
  bd : ∀ x, Free l x → 0 ≤ φ x ∧ φ x < N
  free : ∀ x, Free l x → eget E (φ x) = none
theorem Mon.inj(h:Mon N l φ E){x y:Int}(hx:Free l x)(hy:Free l y)(e:φ x=φ y):x=y:=by
 rcases Int.lt_trichotomy x y with h1|h1|h1;·have :=h.lt x y hx hy h1;omega
 ·exact h1
 ·have :=h.lt y x hy hx h1;omega
theorem Zds{v z x:Int}(hv:Free l v)(hz:z≠v)(h:Free (Za8 l v z) x):Free l x/\x≠v:=by
 obtain⟨h1,h2,h3⟩:=h;have hi:Inb l x:=inb_bind.1 h1;rw[ZaU hv.1 hi]at h2 h3;by_cases e:x=v;·rw[if_pos e]at h3;simp only at h3;exact absurd (h3.trans e) hz
 ·rw[if_neg e]at h2 h3;exact⟨⟨hi,h2,h3⟩,e⟩
section bind
variable {v z : Int} {tz : Tm}
theorem Zmh(hE:EnvOk N E)(hM:Mon N l φ E)(hE':EnvOk N (E++[(φ v,tz)]))(hv:Free l v)(hz:Inb l z)(hs:Stop l z)(hne:z≠v)(htz:slook E tz=tz)(hxv:tz.kind=0->tz.n≠φ v)(hxf:tz.kind=0->eget E tz.n=none){a:Int}{t:Tm}(ht:t.In N)(h:Hr l φ E (fun x=>K x/\x≠v) a t):Hr (Za8 l v z) φ (E++[(φ v,tz)]) (fun x=>K x/\x≠v) a t:=by
 have hsn:=fun(t:Tm)(ht:t.In N)=>ZeG hE hE' htz hxv hxf (t.n.toNat+1) t ht (Nat.lt_succ_self _);induction h with
  |@var a x t h1 h2 h3 h4 h5=>
   have hx:=h1.free h2;have e:slook (E++[(φ v,tz)]) t=slook E t:=by rw[hsn t ht,if_neg];rintro⟨-,e⟩;exact h3.2 (hM.inj hx hv (h5.symm.trans e))
   refine .var (by have :=Zci hv hz hs hne h1;rwa[if_neg h3.2]at this) (by rw[ZaU hv.1 hx.1,if_neg h3.2];exact h2) h3 (by rw[e];exact h4) (by rw[e];exact h5)
  |@leaf a x t h1 h2 h3 h4 h5 h6 h7=>
   have e:slook (E++[(φ v,tz)]) t=slook E t:=by rw[hsn t ht,if_neg (fun h=>h3 h.1)]
   have hxv:x≠v:=fun e=>by rw[e,hv.2.1]at h2;exact h3 h2.symm
   have hc:Zaa (Za8 l v z) x=Zaa l x:=by rw[ZaU hv.1 h1.end_.1,if_neg hxv]
   exact .leaf (by have :=Zci hv hz hs hne h1;rwa[if_neg hxv]at this) (by rw[e,hc];exact h2) (by rw[e];exact h3) (by rw[e];exact h4) (by rw[e,hc];exact h5) (by rw[e,hc];exact h6) (by rw[e];exact h7)
  |@comp a x t h1 h2 h3 h4 h5 h6 h7 ih=>
   have e:slook (E++[(φ v,tz)]) t=slook E t:=by rw[hsn t ht,if_neg (fun h=>by rw[h3]at h;simp at h)]
   have hxv:x≠v:=fun e=>by rw[e,hv.2.1]at h2;simp at h2
   have hc:Zaa (Za8 l v z) x=Zaa l x:=by rw[ZaU hv.1 h1.end_.1,if_neg hxv]
   refine .comp (by have :=Zci hv hz hs hne h1;rwa[if_neg hxv]at this) (by rw[hc];exact h2) (by rw[e];exact h3) (by rw[e];exact h4) (by rw[e,hc];exact h5) (by rw[e,hc];exact h6) ?_;rw[e];exact fun i hi=>ih i hi ((ZaY hE ht).arg (List.getElem_mem hi))
theorem Zm8(hE:EnvOk N E)(hM:Mon N l φ E)(hE':EnvOk N (E++[(φ v,tz)]))(hv:Free l v)(hz:Inb l z)(hs:Stop l z)(hne:z≠v)(htz:slook E tz=tz)(hxv:tz.kind=0->tz.n≠φ v)(hxf:tz.kind=0->eget E tz.n=none)(htzi:tz.In N)(hzz:Hr l φ E (fun x=>True/\x≠v) z tz){a:Int}{t:Tm}(ht:t.In N)(h:Hr l φ E (fun _=>True) a t):Hr (Za8 l v z) φ (E++[(φ v,tz)]) (fun _=>True) a t:=by
 have hsn:=fun(t:Tm)(ht:t.In N)=>ZeG hE hE' htz hxv hxf (t.n.toNat+1) t ht (Nat.lt_succ_self _);have hz':Hr (Za8 l v z) φ (E++[(φ v,tz)]) (fun _=>True) z tz:=(Zmh hE hM hE' hv hz hs hne htz hxv hxf htzi hzz).imp fun _ _=>trivial;have hzl:Looks (Za8 l v z) z z:= .stop (inb_bind.2 hz) (Zfp hv.1 hz hs hne);induction h with
  |@var a x t h1 h2 h3 h4 h5=>
   have hx:=h1.free h2;have hl:=Zci hv hz hs hne h1;by_cases ex:x=v;·rw[if_pos ex]at hl;refine hz'.move hzl hl ?_;rw[hsn t ht,if_pos ⟨h4,by rw[h5,ex]⟩,hsn tz htzi,htz,if_neg (fun h=>hxv h.1 h.2)]
   ·rw[if_neg ex]at hl;have e:slook (E++[(φ v,tz)]) t=slook E t:=by rw[hsn t ht,if_neg];rintro⟨-,e⟩;exact ex (hM.inj hx hv (h5.symm.trans e))
    exact .var hl (by rw[ZaU hv.1 hx.1,if_neg ex];exact h2) trivial (by rw[e];exact h4) (by rw[e];exact h5)
  |@leaf a x t h1 h2 h3 h4 h5 h6 h7=>
   have e:slook (E++[(φ v,tz)]) t=slook E t:=by rw[hsn t ht,if_neg (fun h=>h3 h.1)]
   have hxv:x≠v:=fun e=>by rw[e,hv.2.1]at h2;exact h3 h2.symm
   have hc:Zaa (Za8 l v z) x=Zaa l x:=by rw[ZaU hv.1 h1.end_.1,if_neg hxv]
   exact .leaf (by have :=Zci hv hz hs hne h1;rwa[if_neg hxv]at this) (by rw[e,hc];exact h2) (by rw[e];exact h3) (by rw[e];exact h4) (by rw[e,hc];exact h5) (by rw[e,hc];exact h6) (by rw[e];exact h7)
  |@comp a x t h1 h2 h3 h4 h5 h6 h7 ih=>
   have e:slook (E++[(φ v,tz)]) t=slook E t:=by rw[hsn t ht,if_neg (fun h=>by rw[h3]at h;simp at h)]
   have hxv:x≠v:=fun e=>by rw[e,hv.2.1]at h2;simp at h2
   have hc:Zaa (Za8 l v z) x=Zaa l x:=by rw[ZaU hv.1 h1.end_.1,if_neg hxv]
   refine .comp (by have :=Zci hv hz hs hne h1;rwa[if_neg hxv]at this) (by rw[hc];exact h2) (by rw[e];exact h3) (by rw[e];exact h4) (by rw[e,hc];exact h5) (by rw[e,hc];exact h6) ?_;rw[e];exact fun i hi=>ih i hi ((ZaY hE ht).arg (List.getElem_mem hi))
end bind
def HrL(l:List Ce)(φ:Int->Int)(E:Env)(K:Int->Prop):List Int->List Tm->Prop|[],[]=>True|a::s,t::r=>Hr l φ E K a t/\HrL l φ E K s r|_,_=>False
theorem HrL.append{s':List Int}{r':List Tm}(h':HrL l φ E K s' r'):∀{s:List Int}{r:List Tm},HrL l φ E K s r->HrL l φ E K (s++s') (r++r')|[],[],_=>h'|a::s,t::r,h=>⟨h.1,HrL.append (s:=s) (r:=r) h' h.2⟩
theorem HrL.split{s':List Int}{r':List Tm}:∀{s:List Int}{r:List Tm},s.length=r.length->HrL l φ E K (s++s') (r++r')->HrL l φ E K s r/\HrL l φ E K s' r'|[],[],_,h=>⟨trivial,h⟩|a::s,t::r,hl,h=>by obtain⟨h1,h2⟩:=HrL.split (s:=s) (r:=r) (by simpa using hl) h.2;exact⟨⟨h.1,h1⟩,h2⟩|[],_::_,hl,_=>by simp at hl|_::_,[],hl,_=>by simp at hl
theorem HrL.of{ts:List Tm}{x:Int}(d:Nat)(h:∀(i:Nat)(hi:i<ts.length),Hr l φ E K (x+1+((d+i:Nat):Int)) ts[i]):HrL l φ E K ((List.range ts.length).map fun i=>x+1+((d+i:Nat):Int)) ts:=by
 induction ts generalizing d with
  |nil=>trivial
  |cons t r ih=>
   rw[List.length_cons,List.range_succ_eq_map,List.map_cons,List.map_map];refine⟨h 0 (by simp),?_⟩;have :=ih (d+1) (fun i hi=>by have :=h (i+1) (by simp;omega);rw[List.getElem_cons_succ]at this;rw[show d+1+i=d+(i+1)by omega];exact this);have e:((fun i=>x+1+((d+i:Nat):Int))∘Nat.succ)=fun i=>x+1+((d+1+i:Nat):Int):=by funext i;simp only[Function.comp_apply];omega
   rw[e];exact this
theorem HrL.get{ts:List Tm}{x:Int}(d:Nat)(h:HrL l φ E K ((List.range ts.length).map fun i=>x+1+((d+i:Nat):Int)) ts):∀(i:Nat)(hi:i<ts.length),Hr l φ E K (x+1+((d+i:Nat):Int)) ts[i]:=by
 induction ts generalizing d with
  |nil=>intro i hi;simp at hi
  |cons t r ih=>
   rw[List.length_cons,List.range_succ_eq_map,List.map_cons,List.map_map]at h;have e:((fun i=>x+1+((d+i:Nat):Int))∘Nat.succ)=fun i=>x+1+((d+1+i:Nat):Int):=by funext i;simp only[Function.comp_apply];omega
   rw[e]at h;intro i hi;cases i with|zero=>exact h.1|succ i=>have :=ih (d+1) h.2 i (by simpa using hi);rw[show d+1+i=d+(i+1)by omega]at this;exact this
theorem ZfN{ts:List Tm}{x n:Int}(hn:n=ts.length):HrL l φ E K (Zap x n) ts↔∀(i:Nat)(hi:i<ts.length),Hr l φ E K (x+1+(i:Nat)) ts[i]:=by
 subst hn;unfold Zap;rw[Int.toNat_natCast];constructor;·intro h i hi;have :=HrL.get (x:=x) 0 (by simpa using h) i hi;simpa using this
 ·intro h;have :=HrL.of (x:=x) (ts:=ts) 0 (fun i hi=>by simpa using h i hi);simpa using this
theorem HrL.len:∀{s:List Int}{r:List Tm},HrL l φ E K s r->s.length=r.length|[],[],_=>rfl|a::s,t::r,h=>by simp[HrL.len h.2]|[],_::_,h=>h.elim|_::_,[],h=>h.elim
theorem Zij(hE:EnvOk N E)(hM:Mon N l φ E){v:Int}(hv:Free l v):∀(w:Nat)(s:List Int)(ts:List Tm),HrL l φ E (fun _=>True) s ts->(∀t∈ts,t.In N)->inL l v w s=inS E (φ v) w ts/\((inL l v w s).1=false->0<=(inL l v w s).2->HrL l φ E (fun x=>True/\x≠v) s ts)
 |w,[],[],_,_=>by rw[ZeA,ZdU];exact⟨rfl,fun _ _=>trivial⟩
 |w,[],_::_,h,_=>h.elim
 |w,_::_,[],h,_=>h.elim
 |0,z::s,t::r,_,_=>by rw[Zlx];exact⟨rfl,fun _ h=>by simp[inL]at h⟩
 |w+1,z::s,t::r,⟨h1,h2⟩,ht=>by
  have hr:∀t∈r,t.In N:=fun x hx=>ht x (by simp[hx]);have ih:=Zij hE hM hv w s r h2 hr;rw[Zcx];unfold inL;cases h1 with
   |@var _ x _ k1 k2 k3 k4 k5=>
    have hx0:=k1.nonneg;rw[ZaN k1,if_neg (by omega),if_pos k2,if_pos k4,k5];by_cases e:x=v;·rw[if_pos e,if_pos (by rw[e])];exact⟨rfl,fun h=>by simp at h⟩
    ·have e':¬φ x=φ v:=fun h=>e (hM.inj (k1.free k2) hv h);rw[if_neg e,if_neg e'];exact⟨ih.1,fun a b=>⟨.var k1 k2 ⟨trivial,e⟩ k4 k5,ih.2 a b⟩⟩
   |@leaf _ x _ k1 k2 k3 k4 k5 k6 k7=>have hx0:=k1.nonneg;rw[ZaN k1,if_neg (by omega),if_neg (by rw[k2];exact k3),if_neg (by rw[k2];exact k4),if_neg k3,k7,List.nil_append];exact⟨ih.1,fun a b=>⟨.leaf k1 k2 k3 k4 k5 k6 k7,ih.2 a b⟩⟩
   |@comp _ x _ k1 k2 k3 k4 k5 k6 k7=>
    have hx0:=k1.nonneg;rw[ZaN k1,if_neg (by omega),if_neg (by rw[k2];decide),if_pos k2,if_neg (by rw[k3];decide)];have ha:HrL l φ E (fun _=>True) (Zap x (Zaa l x).n) (slook E t).args:=(ZfN k5).2 k7;have ih2:=Zij hE hM hv w (Zap x (Zaa l x).n++s) ((slook E t).args++r) (HrL.append h2 ha) (fun y hy=>by
     rcases List.mem_append.1 hy with hy|hy;·exact(ZaY hE (ht t (by simp))).arg hy
     ·exact hr y hy);refine⟨ih2.1,fun a b=>?_⟩;obtain⟨q1,q2⟩:=HrL.split ha.len (ih2.2 a b);exact⟨.comp k1 k2 k3 k4 k5 k6 ((ZfN k5).1 q1),q2⟩
end
def HrP(l:List Ce)(φ:Int->Int)(E:Env):List (Int×Int)->List (Tm×Tm)->Prop|[],[]=>True|a::s,t::r=>(Hr l φ E (fun _=>True) a.1 t.1/\Hr l φ E (fun _=>True) a.2 t.2)/\HrP l φ E s r|_,_=>False
section
variable {l l' : List Ce} {φ : Int → Int} {E E' : Env} {N : Int}
theorem HrP.imp(h:∀a t,t.In N->Hr l φ E (fun _=>True) a t->Hr l' φ E' (fun _=>True) a t):∀{s:List (Int×Int)}{r:List (Tm×Tm)},(∀p∈r,p.1.In N/\p.2.In N)->HrP l φ E s r->HrP l' φ E' s r|[],[],_,_=>trivial|a::s,t::r,hr,k=>⟨⟨h _ _ (hr t (by simp)).1 k.1.1,h _ _ (hr t (by simp)).2 k.1.2⟩,HrP.imp h (fun p hp=>hr p (by simp[hp])) k.2⟩|[],_::_,_,h=>h.elim|_::_,[],_,h=>h.elim
theorem HrP.append{s':List (Int×Int)}{r':List (Tm×Tm)}(h':HrP l φ E s' r'):∀{s:List (Int×Int)}{r:List (Tm×Tm)},HrP l φ E s r->HrP l φ E (s++s') (r++r')|[],[],_=>h'|a::s,t::r,h=>⟨h.1,HrP.append (s:=s) (r:=r) h' h.2⟩|[],_::_,h=>h.elim|_::_,[],h=>h.elim
theorem HrP.zip:∀{s s':List Int}{r r':List Tm},HrL l φ E (fun _=>True) s r->HrL l φ E (fun _=>True) s' r'->HrP l φ E (s.zip s') (r.zip r')|[],_,[],_,_,_=>by simp[HrP]|_::_,[],_::_,[],_,_=>by simp[HrP]|a::s,b::s',t::r,u::r',h,h'=>⟨⟨h.1,h'.1⟩,HrP.zip h.2 h'.2⟩|[],_,_::_,_,h,_=>h.elim|_::_,_,[],_,h,_=>h.elim|_::_,[],_::_,_::_,_,h=>h.elim|_::_,_::_,_::_,[],_,h=>h.elim
structure UniOut (N : Int) (φ : Int → Int) (l : List Ce) (E : Env) (t : List Int) (u : Un) (u' : US) : Prop where
  ok : u.ok = u'.ok
  work : u.work = u'.work
  tells : u.ok = true → ∀ a x, x.In N → Hr l φ E (fun _ => True) a x → Hr u.cells φ u'.env (fun _ => True) a x
  mon : u.ok = true → Mon N u.cells φ u'.env
  trail : u.ok = true → ∃ vs, u.trail = t ++ vs ∧ vs.length + E.length = u'.env.length ∧ ∀ v ∈ vs, Free l v
theorem Mon.bind(hM:Mon N l φ E){v z:Int}{tz:Tm}(hv:Free l v)(hne:z≠v):Mon N (Za8 l v z) φ (E++[(φ v,tz)]):=by refine⟨fun x y hx hy h=>hM.lt x y (Zds hv hne hx).1 (Zds hv hne hy).1 h,fun x hx=>hM.bd x (Zds hv hne hx).1,fun x hx=>?_⟩;obtain⟨h1,h2⟩:=Zds hv hne hx;rw[Zdb,hM.free x h1];simp only;rw[if_neg (fun e=>h2 (hM.inj h1 hv e.symm))]
theorem UniOut.step{t:List Int}{v z:Int}{tz:Tm}{u:Un}{u':US}(hv:Free l v)(hne:z≠v)(hH:∀a x,x.In N->Hr l φ E (fun _=>True) a x->Hr (Za8 l v z) φ (E++[(φ v,tz)]) (fun _=>True) a x)(h:UniOut N φ (Za8 l v z) (E++[(φ v,tz)]) (t++[v]) u u'):UniOut N φ l E t u u':=by
 refine⟨h.ok,h.work,fun e a x hx ha=>h.tells e a x hx (hH a x hx ha),h.mon,fun e=>?_⟩;obtain⟨vs,h1,h2,h3⟩:=h.trail e;refine⟨v::vs,by rw[h1,List.append_assoc];rfl,by rw[<-h2];simp;omega,fun x hx=>?_⟩;rcases List.mem_cons.1 hx with rfl|hx;·exact hv
 ·exact(Zds hv hne (h3 x hx)).1
theorem Zi9:∀(w:Nat)(s:List (Int×Int))(ts:List (Tm×Tm))(l:List Ce)(E:Env)(t:List Int),EnvOk N E->Mon N l φ E->HrP l φ E s ts->(∀p∈ts,p.1.In N/\p.2.In N)->UniOut N φ l E t (uniL w s l t) (uniS w ts E):=by
 intro w;induction w using Nat.strongRecOn with
  |_ w ih=>
   intro s ts l E t hE hM hH hI;match w,s,ts,ih,hH,hI with
    |w,[],[],_,_,_=>rw[Zdy,Zb3];exact⟨rfl,rfl,fun _ a x _ h=>h,fun _=>hM,fun _=>⟨[],by simp,by simp,by simp⟩⟩
    |w,[],_::_,_,h,_=>exact h.elim
    |w,_::_,[],_,h,_=>exact h.elim
    |0,p::s,q::ts,_,_,_=>rw[Zc6,ZcL];exact⟨rfl,rfl,fun h=>by simp at h,fun h=>by simp at h,fun h=>by simp at h⟩
    |w+1,(a,b)::s,(ta,tb)::ts,ih,⟨⟨ha,hb⟩,hr⟩,hI=>
     have hIr:∀p∈ts,p.1.In N/\p.2.In N:=fun p hp=>hI p (by simp[hp]);obtain⟨ia,ib⟩:=hI (ta,tb) (by simp);simp only at ha hb ia ib;have ihr:=ih w (by omega) s ts l E t hE hM hr hIr;have bnd:∀(v z:Int)(tz:Tm)(k:Nat),k<=w->Free l v->Inb l z->Stop l z->z≠v->slook E tz=tz->tz.In N->(tz.kind=0->tz.n<φ v)->(tz.kind=0->eget E tz.n=none)->Hr l φ E (fun x=>True/\x≠v) z tz->UniOut N φ l E t (uniL k s (Za8 l v z) (t++[v])) (uniS k ts (E++[(φ v,tz)])):=fun v z tz k hk hv hz hs hne htz htzi hlt hfz hzz=>by have hE':EnvOk N (E++[(φ v,tz)]):=hE.snoc (hM.bd v hv).1 (hM.bd v hv).2 (hM.free v hv) htzi hlt;have hBd:∀a x,x.In N->Hr l φ E (fun _=>True) a x->Hr (Za8 l v z) φ (E++[(φ v,tz)]) (fun _=>True) a x:=fun a x hx h=>Zm8 hE hM hE' hv hz hs hne htz (fun h1 h2=>by have :=hlt h1;omega) hfz htzi hzz hx h;exact UniOut.step hv hne hBd (ih k (by omega) s ts _ _ _ hE' (hM.bind hv hne) (hr.imp hBd hIr) hIr)
     have one:∀(v z:Int)(tv tz:Tm),Free l v->Hr l φ E (fun _=>True) z tz->Looks l z z->(Zaa l z).kind≠0->slook E tz=tz->tz.In N->tz.kind≠0->UniOut N φ l E t (if(inL l v w [z]).1=true\/(inL l v w [z]).2<0 then⟨false,l,t,(inL l v w [z]).2⟩else uniL (min w (inL l v w [z]).2.toNat) s (Za8 l v z) (t++[v])) (if(inS E (φ v) w [tz]).1=true\/(inS E (φ v) w [tz]).2<0 then⟨false,E,(inS E (φ v) w [tz]).2⟩else uniS (min w (inS E (φ v) w [tz]).2.toNat) ts (E++[(φ v,tz)])):=fun v z _ tz hv hz hzz hk htz hti htk=>by
      obtain⟨q1,q2⟩:=Zij hE hM hv w [z] [tz] ⟨hz,trivial⟩ (by simpa using hti);rw[<-q1];split;·exact⟨rfl,rfl,fun h=>by simp at h,fun h=>by simp at h,fun h=>by simp at h⟩
      ·rename_i hn;have q3:=(q2 (by simpa using fun h=>hn (.inl h)) (by omega)).1;exact bnd v z tz _ (by omega) hv hzz.end_.1 hzz.end_.2 (fun e=>hk (e▸hv.2.1)) htz hti (fun h=>absurd h htk) (fun h=>absurd h htk) q3
     rw[uniL,uniS];simp only;have sa:=ZdB hE ia;have sb:=ZdB hE ib;have na:=ZaY hE ia;have nb:=ZaY hE ib;have fa:=Zb0 hE ia;have fb:=Zb0 hE ib;cases ha with
      |@var _ x _ a1 a2 a3 a4 a5=>
       have hx0:=a1.nonneg;have hxf:=a1.free a2;cases hb with
        |@var _ y _ b1 b2 b3 b4 b5=>
         have hy0:=b1.nonneg;have hyf:=b1.free b2;rw[ZaN a1,ZaN b1,if_neg (show ¬(x<0\/y<0)by omega),if_pos (show(Zaa l x).kind=0/\(Zaa l y).kind=0 from⟨a2,b2⟩),if_pos (show(slook E ta).kind=0/\(slook E tb).kind=0 from⟨a4,b4⟩),a5,b5];by_cases e:x=y;·rw[if_pos e,if_pos (by rw[e])];exact ihr
         ·have e':¬φ x=φ y:=fun h=>e (hM.inj hxf hyf h);rw[if_neg e,if_neg e'];rcases Int.lt_or_gt_of_ne e with hlt|hlt;·have hlt':=hM.lt x y hxf hyf hlt;rw[Int.max_eq_right (by omega),Int.min_eq_left (by omega),Int.max_eq_right (by omega),Int.min_eq_left (by omega)];have hk:eget E (tvar (φ x)).n=none:=hM.free x hxf;exact bnd y x (tvar (φ x)) w (zL _) hyf hxf.1 hxf.stop e (Zay (.inr hk)) (.var _ (hM.bd x hxf).1 (hM.bd x hxf).2) (fun _=>hlt') (fun _=>hk) (.var (.stop hxf.1 hxf.stop) a2 ⟨trivial,e⟩ (by rw[Zay (.inr hk)];rfl) (by rw[Zay (.inr hk)];rfl))
          ·have hlt':=hM.lt y x hyf hxf hlt;rw[Int.max_eq_left (by omega),Int.min_eq_right (by omega),Int.max_eq_left (by omega),Int.min_eq_right (by omega)];have hk:eget E (tvar (φ y)).n=none:=hM.free y hyf;exact bnd x y (tvar (φ y)) w (zL _) hxf hyf.1 hyf.stop (fun h=>e h.symm) (Zay (.inr hk)) (.var _ (hM.bd y hyf).1 (hM.bd y hyf).2) (fun _=>hlt') (fun _=>hk) (.var (.stop hyf.1 hyf.stop) b2 ⟨trivial,fun h=>e h.symm⟩ (by rw[Zay (.inr hk)];rfl) (by rw[Zay (.inr hk)];rfl))
        |@leaf _ y _ b1 b2 b3 b4 b5 b6 b7=>
         have hy0:=b1.nonneg;have hyk:(Zaa l y).kind≠0:=by rw[b2];exact b3
         rw[ZaN a1,ZaN b1,if_neg (show ¬(x<0\/y<0)by omega),if_neg (show ¬((Zaa l x).kind=0/\(Zaa l y).kind=0)from fun h=>hyk h.2),if_neg (show ¬((slook E ta).kind=0/\(slook E tb).kind=0)from fun h=>b3 h.2),if_pos (show(Zaa l x).kind=0\/(Zaa l y).kind=0 from .inl a2),if_pos (show(slook E ta).kind=0\/(slook E tb).kind=0 from .inl a4),if_neg hyk,if_neg hyk,if_neg b3,if_neg b3,a5];exact one x y ta (slook E tb) hxf (.leaf (.stop b1.end_.1 b1.end_.2) (by rw[sb];exact b2) (by rw[sb];exact b3) (by rw[sb];exact b4) (by rw[sb];exact b5) (by rw[sb];exact b6) (by rw[sb];exact b7)) (.stop b1.end_.1 b1.end_.2) hyk sb nb b3
        |@comp _ y _ b1 b2 b3 b4 b5 b6 b7=>
         have hy0:=b1.nonneg;have hyk:(Zaa l y).kind≠0:=by rw[b2];decide
         have b3':(slook E tb).kind≠0:=by rw[b3];decide
         rw[ZaN a1,ZaN b1,if_neg (show ¬(x<0\/y<0)by omega),if_neg (show ¬((Zaa l x).kind=0/\(Zaa l y).kind=0)from fun h=>hyk h.2),if_neg (show ¬((slook E ta).kind=0/\(slook E tb).kind=0)from fun h=>b3' h.2),if_pos (show(Zaa l x).kind=0\/(Zaa l y).kind=0 from .inl a2),if_pos (show(slook E ta).kind=0\/(slook E tb).kind=0 from .inl a4),if_neg hyk,if_neg hyk,if_neg b3',if_neg b3',a5];exact one x y ta (slook E tb) hxf (.comp (.stop b1.end_.1 b1.end_.2) b2 (by rw[sb];exact b3) (by rw[sb];exact b4) (by rw[sb];exact b5) (by rw[sb];exact b6) (by rw[sb];exact b7)) (.stop b1.end_.1 b1.end_.2) hyk sb nb b3'
      |@leaf _ x _ a1 a2 a3 a4 a5 a6 a7=>
       have hx0:=a1.nonneg;have hxk:(Zaa l x).kind≠0:=by rw[a2];exact a3
       have hxl:(Zaa l x).kind≠3:=by rw[a2];exact a4
       cases hb with
        |@var _ y _ b1 b2 b3 b4 b5=>have hy0:=b1.nonneg;have hyf:=b1.free b2;rw[ZaN a1,ZaN b1,if_neg (show ¬(x<0\/y<0)by omega),if_neg (show ¬((Zaa l x).kind=0/\(Zaa l y).kind=0)from fun h=>hxk h.1),if_neg (show ¬((slook E ta).kind=0/\(slook E tb).kind=0)from fun h=>a3 h.1),if_pos (show(Zaa l x).kind=0\/(Zaa l y).kind=0 from .inr b2),if_pos (show(slook E ta).kind=0\/(slook E tb).kind=0 from .inr b4),if_pos b2,if_pos b2,if_pos b4,if_pos b4,b5];exact one y x tb (slook E ta) hyf (.leaf (.stop a1.end_.1 a1.end_.2) (by rw[sa];exact a2) (by rw[sa];exact a3) (by rw[sa];exact a4) (by rw[sa];exact a5) (by rw[sa];exact a6) (by rw[sa];exact a7)) (.stop a1.end_.1 a1.end_.2) hxk sa na a3
        |@leaf _ y _ b1 b2 b3 b4 b5 b6 b7=>
         have hy0:=b1.nonneg;have hyk:(Zaa l y).kind≠0:=by rw[b2];exact b3
         rw[ZaN a1,ZaN b1,if_neg (show ¬(x<0\/y<0)by omega),if_neg (show ¬((Zaa l x).kind=0/\(Zaa l y).kind=0)from fun h=>hxk h.1),if_neg (show ¬((slook E ta).kind=0/\(slook E tb).kind=0)from fun h=>a3 h.1),if_neg (show ¬((Zaa l x).kind=0\/(Zaa l y).kind=0)from fun h=>h.elim hxk hyk),if_neg (show ¬((slook E ta).kind=0\/(slook E tb).kind=0)from fun h=>h.elim a3 b3)];by_cases e:Zaa l x=Zaa l y;·rw[if_neg (show ¬(Zaa l x≠Zaa l y)from fun h=>h e),if_neg (show ¬(¬((slook E ta).kind=(slook E tb).kind/\(slook E ta).n=(slook E tb).n/\(slook E ta).s=(slook E tb).s/\(slook E ta).args.length=(slook E tb).args.length))from fun h=>h ⟨by rw[<-a2,<-b2,e],by rw[<-a5,<-b5,e],by rw[<-a6,<-b6,e],by rw[a7,b7]⟩),if_neg hxl,a7,List.zip_nil_left,List.nil_append];exact ihr
         ·rw[if_pos (show Zaa l x≠Zaa l y from e),if_pos (show ¬((slook E ta).kind=(slook E tb).kind/\(slook E ta).n=(slook E tb).n/\(slook E ta).s=(slook E tb).s/\(slook E ta).args.length=(slook E tb).args.length)from fun h=>e (by obtain⟨h1,h2,h3, -⟩:=h;rw[<-a2,<-b2]at h1;rw[<-a5,<-b5]at h2;rw[<-a6,<-b6]at h3;cases hcx:Zaa l x;cases hcy:Zaa l y;rw[hcx,hcy]at h1 h2 h3;simp only at h1 h2 h3;rw[h1,h2,h3]))];exact⟨rfl,rfl,fun h=>by simp at h,fun h=>by simp at h,fun h=>by simp at h⟩
        |@comp _ y _ b1 b2 b3 b4 b5 b6 b7=>
         have hy0:=b1.nonneg;have hyk:(Zaa l y).kind≠0:=by rw[b2];decide
         have b3':(slook E tb).kind≠0:=by rw[b3];decide
         rw[ZaN a1,ZaN b1,if_neg (show ¬(x<0\/y<0)by omega),if_neg (show ¬((Zaa l x).kind=0/\(Zaa l y).kind=0)from fun h=>hxk h.1),if_neg (show ¬((slook E ta).kind=0/\(slook E tb).kind=0)from fun h=>a3 h.1),if_neg (show ¬((Zaa l x).kind=0\/(Zaa l y).kind=0)from fun h=>h.elim hxk hyk),if_neg (show ¬((slook E ta).kind=0\/(slook E tb).kind=0)from fun h=>h.elim a3 b3'),if_pos (show Zaa l x≠Zaa l y from fun h=>hxl (by rw[h];exact b2)),if_pos (show ¬((slook E ta).kind=(slook E tb).kind/\(slook E ta).n=(slook E tb).n/\(slook E ta).s=(slook E tb).s/\(slook E ta).args.length=(slook E tb).args.length)from fun h=>a4 (h.1.trans b3))];exact⟨rfl,rfl,fun h=>by simp at h,fun h=>by simp at h,fun h=>by simp at h⟩
      |@comp _ x _ a1 a2 a3 a4 a5 a6 a7=>
       have hx0:=a1.nonneg;have hxk:(Zaa l x).kind≠0:=by rw[a2];decide
       have a3':(slook E ta).kind≠0:=by rw[a3];decide
       cases hb with
        |@var _ y _ b1 b2 b3 b4 b5=>have hy0:=b1.nonneg;have hyf:=b1.free b2;rw[ZaN a1,ZaN b1,if_neg (show ¬(x<0\/y<0)by omega),if_neg (show ¬((Zaa l x).kind=0/\(Zaa l y).kind=0)from fun h=>hxk h.1),if_neg (show ¬((slook E ta).kind=0/\(slook E tb).kind=0)from fun h=>a3' h.1),if_pos (show(Zaa l x).kind=0\/(Zaa l y).kind=0 from .inr b2),if_pos (show(slook E ta).kind=0\/(slook E tb).kind=0 from .inr b4),if_pos b2,if_pos b2,if_pos b4,if_pos b4,b5];exact one y x tb (slook E ta) hyf (.comp (.stop a1.end_.1 a1.end_.2) a2 (by rw[sa];exact a3) (by rw[sa];exact a4) (by rw[sa];exact a5) (by rw[sa];exact a6) (by rw[sa];exact a7)) (.stop a1.end_.1 a1.end_.2) hxk sa na a3'
        |@leaf _ y _ b1 b2 b3 b4 b5 b6 b7=>
         have hy0:=b1.nonneg;have hyk:(Zaa l y).kind≠0:=by rw[b2];exact b3
         rw[ZaN a1,ZaN b1,if_neg (show ¬(x<0\/y<0)by omega),if_neg (show ¬((Zaa l x).kind=0/\(Zaa l y).kind=0)from fun h=>hxk h.1),if_neg (show ¬((slook E ta).kind=0/\(slook E tb).kind=0)from fun h=>a3' h.1),if_neg (show ¬((Zaa l x).kind=0\/(Zaa l y).kind=0)from fun h=>h.elim hxk hyk),if_neg (show ¬((slook E ta).kind=0\/(slook E tb).kind=0)from fun h=>h.elim a3' b3),if_pos (show Zaa l x≠Zaa l y from fun h=>b4 (by rw[<-b2,<-h];exact a2)),if_pos (show ¬((slook E ta).kind=(slook E tb).kind/\(slook E ta).n=(slook E tb).n/\(slook E ta).s=(slook E tb).s/\(slook E ta).args.length=(slook E tb).args.length)from fun h=>b4 (by rw[<-h.1];exact a3))];exact⟨rfl,rfl,fun h=>by simp at h,fun h=>by simp at h,fun h=>by simp at h⟩
        |@comp _ y _ b1 b2 b3 b4 b5 b6 b7=>
         have hy0:=b1.nonneg;have hyk:(Zaa l y).kind≠0:=by rw[b2];decide
         have b3':(slook E tb).kind≠0:=by rw[b3];decide
         rw[ZaN a1,ZaN b1,if_neg (show ¬(x<0\/y<0)by omega),if_neg (show ¬((Zaa l x).kind=0/\(Zaa l y).kind=0)from fun h=>hxk h.1),if_neg (show ¬((slook E ta).kind=0/\(slook E tb).kind=0)from fun h=>a3' h.1),if_neg (show ¬((Zaa l x).kind=0\/(Zaa l y).kind=0)from fun h=>h.elim hxk hyk),if_neg (show ¬((slook E ta).kind=0\/(slook E tb).kind=0)from fun h=>h.elim a3' b3')];by_cases e:Zaa l x=Zaa l y
         ·have hl:(slook E ta).args.length=(slook E tb).args.length:=by have :=congrArg Ce.n e;rw[a5,b5]at this;omega
          rw[if_neg (show ¬(Zaa l x≠Zaa l y)from fun h=>h e),if_neg (show ¬(¬((slook E ta).kind=(slook E tb).kind/\(slook E ta).n=(slook E tb).n/\(slook E ta).s=(slook E tb).s/\(slook E ta).args.length=(slook E tb).args.length))from fun h=>h ⟨by rw[a3,b3],by rw[a4,b4],by rw[<-a6,<-b6,e],hl⟩),if_pos a2];have h1:HrL l φ E (fun _=>True) (Zap x (Zaa l x).n) (slook E ta).args:=(ZfN a5).2 a7;have h2:HrL l φ E (fun _=>True) (Zap y (Zaa l x).n) (slook E tb).args:=(ZfN (by rw[e];exact b5)).2 b7;exact ih w (by omega) _ _ l E t hE hM (HrP.append hr (HrP.zip h1 h2)) (fun p hp=>by
           rcases List.mem_append.1 hp with hp|hp;·have :=List.of_mem_zip hp;exact⟨na.arg this.1,nb.arg this.2⟩
           ·exact hIr p hp)
         ·rw[if_pos (show Zaa l x≠Zaa l y from e),if_pos (show ¬((slook E ta).kind=(slook E tb).kind/\(slook E ta).n=(slook E tb).n/\(slook E ta).s=(slook E tb).s/\(slook E ta).args.length=(slook E tb).args.length)from fun h=>e (by
           obtain⟨h1,h2,h3,h4⟩:=h;rw[<-a6,<-b6]at h3;have h5:(Zaa l x).n=(Zaa l y).n:=by rw[a5,b5,h4]
           have h6:(Zaa l x).kind=(Zaa l y).kind:=by rw[a2,b2]
           cases hcx:Zaa l x;cases hcy:Zaa l y;rw[hcx,hcy]at h3 h5 h6;simp only at h3 h5 h6;rw[h3,h5,h6]))];exact⟨rfl,rfl,fun h=>by simp at h,fun h=>by simp at h,fun h=>by simp at h⟩
end
section
variable {h : Hp} {roots : List Int}
def RP(h:Hp)(roots:List Int)(a:Int):Prop:=0<=a/\Reach h.cells roots a.toNat
theorem RP.nat{a:Int}(hr:RP h roots a)(hg:GoodC h.cells):∃k:Nat,a=(k:Int)/\k<h.cells.length/\Reach h.cells roots k:=by obtain⟨h0,h1⟩:=hr;obtain⟨k,rfl⟩:=Int.eq_ofNat_of_zero_le h0;rw[Int.toNat_natCast]at h1;exact⟨k,rfl,h1.lt hg,h1⟩
theorem RP.of{k:Nat}(hr:Reach h.cells roots k):RP h roots (k:Int):=⟨zN _,by rw[Int.toNat_natCast];exact hr⟩
theorem Zbm(m:List Bool)(k:Nat):ahead m (k:Int)=(cnt m k:Nat):=by unfold ahead;rw[Int.toNat_natCast]
theorem Zm9(hg:GoodC h.cells){a:Int}(hr:RP h roots a):Zaa (gcH h roots).cells (ahead (marks h.cells roots) a)=adj (marks h.cells roots) (Zaa h.cells a):=by obtain⟨k,rfl,hk,hr⟩:=hr.nat hg;rw[Zbm,Zfs k hk hr]
theorem ZmD(hg:GoodC h.cells){a:Int}(hr:RP h roots a):Inb (gcH h roots).cells (ahead (marks h.cells roots) a)/\Inb h.cells a:=by obtain⟨k,rfl,hk,hr⟩:=hr.nat hg;have :=Zg5 (h:=h) hk hr;rw[Zbm];unfold Inb;omega
theorem RP.next(hg:GoodC h.cells){a:Int}(hr:RP h roots a)(hk:(Zaa h.cells a).kind=0):RP h roots (Zaa h.cells a).n:=by obtain⟨k,rfl,hkl,hr⟩:=hr.nat hg;have h1:=hg k hkl;rw[ZaA hkl]at hk ⊢;unfold Ce.OkAt at h1;obtain⟨m,hm⟩:=Int.eq_ofNat_of_zero_le (show 0<=h.cells[k].n by omega);rw[hm];exact RP.of (.step hr (.inl (by rw[ZaA hkl];exact⟨hk,hm⟩)))
theorem Zna(hg:GoodC h.cells){a:Int}(hr:RP h roots a)(hk:(Zaa h.cells a).kind=3):Zap (ahead (marks h.cells roots) a) (Zaa h.cells a).n=(Zap a (Zaa h.cells a).n).map (ahead (marks h.cells roots))/\∀x∈Zap a (Zaa h.cells a).n,RP h roots x:=by
 obtain⟨k,rfl,hkl,hr⟩:=hr.nat hg;have h1:=hg k hkl;have hk':=hk;rw[ZaA hkl]at hk';unfold Ce.OkAt at h1;have hn:0<=(Zaa h.cells (k:Int)).n:=by rw[ZaA hkl];omega
 obtain⟨n,hn⟩:=Int.eq_ofNat_of_zero_le hn;rw[hn];have key:∀i,i<n->cnt (marks h.cells roots) (k+1+i)=cnt (marks h.cells roots) k+1+i/\Reach h.cells roots (k+1+i):=fun i hi=>by refine⟨(Zd6 hg hkl hr hk i (by omega)).1,?_⟩;have :=(Zd6 hg hkl hr hk (i+1) (by omega)).2 (by omega);rw[show k+1+i=k+(i+1)by omega];exact this
 constructor;·unfold Zap;rw[List.map_map];refine List.map_congr_left fun i hi=>?_;rw[List.mem_range,Int.toNat_natCast]at hi;obtain⟨k1,k2⟩:=key i hi;simp only[Function.comp_apply];rw[show(k:Int)+1+(i:Nat)=((k+1+i:Nat):Int)by omega,Zbm,Zbm,k1];omega
 ·intro x hx;unfold Zap at hx;obtain⟨i,hi,rfl⟩:=List.mem_map.1 hx;rw[List.mem_range,Int.toNat_natCast]at hi;rw[show(k:Int)+1+(i:Nat)=((k+1+i:Nat):Int)by omega];exact RP.of (key i hi).2
end
def mvC(mv:Int->Int)(c:Ce):Ce:=if c.kind=0 then{c with n:=mv c.n}else c
structure Mor (l l' : List Ce) (S : Int → Prop) (mv : Int → Int) : Prop where
  inb : ∀ a, S a → Inb l a ∧ Inb l' (mv a)
  cell : ∀ a, S a → Zaa l' (mv a) = mvC mv (Zaa l a)
  next : ∀ a, S a → (Zaa l a).kind = 0 → S (Zaa l a).n
  args : ∀ a, S a → (Zaa l a).kind = 3 → ∀ i : Nat, (i : Int) < (Zaa l a).n → S (a + 1 + (i : Nat)) ∧ mv (a + 1 + (i : Nat)) = mv a + 1 + (i : Nat)
  lt : ∀ a b, S a → S b → a < b → mv a < mv b
section
variable {l l' : List Ce} {S : Int → Prop} {mv : Int → Int} {φ φ' : Int → Int} {E : Env} {K K' : Int → Prop} {N : Int}
theorem Mor.inj(h:Mor l l' S mv){a b:Int}(ha:S a)(hb:S b)(e:mv a=mv b):a=b:=by
 rcases Int.lt_trichotomy a b with h1|h1|h1;·have :=h.lt a b ha hb h1;omega
 ·exact h1
 ·have :=h.lt b a hb ha h1;omega
theorem Zb5(mv:Int->Int)(c:Ce):(mvC mv c).kind=c.kind:=by unfold mvC;split<;>rfl
theorem ZjV(mv:Int->Int)(c:Ce):(mvC mv c).s=c.s:=by unfold mvC;split<;>rfl
theorem Zmi(mv:Int->Int){c:Ce}(h:c.kind≠0):(mvC mv c).n=c.n:=by unfold mvC;rw[if_neg h]
theorem Zja(mv:Int->Int){c:Ce}(h:c.kind=0):(mvC mv c).n=mv c.n:=by unfold mvC;rw[if_pos h]
theorem Mor.stop(h:Mor l l' S mv){a:Int}(ha:S a):Stop l' (mv a)↔Stop l a:=by
 unfold Stop;rw[h.cell a ha,Zb5];by_cases hk:(Zaa l a).kind=0
 ·rw[Zja mv hk];constructor
  ·rintro(e|e);·exact .inl e
   ·exact .inr (h.inj (h.next a ha hk) ha e)
  ·rintro(e|e);·exact .inl e
   ·exact .inr (by rw[e])
 ·exact⟨fun _=> .inl hk,fun _=> .inl hk⟩
theorem Mor.looks(h:Mor l l' S mv){a x:Int}(hl:Looks l a x)(ha:S a):Looks l' (mv a) (mv x)/\S x:=by induction hl with|stop h1 h2=>exact⟨.stop (h.inb _ ha).2 ((h.stop ha).2 h2),ha⟩|@next a x h1 h2 _ ih=>have hk:(Zaa l a).kind=0:=Classical.byContradiction fun hk=>h2 (.inl hk);obtain⟨k1,k2⟩:=ih (h.next a ha hk);refine⟨.next (h.inb _ ha).2 (fun hs=>h2 ((h.stop ha).1 hs)) ?_,k2⟩;rw[h.cell a ha,Zja mv hk];exact k1
theorem Mor.free(h:Mor l l' S mv){a:Int}(ha:S a):Free l' (mv a)↔Free l a:=by
 unfold Free;rw[h.cell a ha,Zb5];by_cases hk:(Zaa l a).kind=0;·rw[Zja mv hk];exact⟨fun⟨_,_,e⟩=>⟨(h.inb a ha).1,hk,h.inj (h.next a ha hk) ha e⟩,fun⟨_,_,e⟩=>⟨(h.inb a ha).2,hk,by rw[e]⟩⟩
 ·exact⟨fun⟨_,e,_⟩=>absurd e hk,fun⟨_,e,_⟩=>absurd e hk⟩
theorem Mor.hr(h:Mor l l' S mv)(hφ:∀x,S x->Free l x->K x->φ' (mv x)=φ x/\K' (mv x)){a:Int}{t:Tm}(hr:Hr l φ E K a t):S a->Hr l' φ' E K' (mv a) t:=by
 induction hr with
  |@var a x t h1 h2 h3 h4 h5=>intro ha;obtain⟨k1,k2⟩:=h.looks h1 ha;obtain⟨k3,k4⟩:=hφ x k2 (h1.free h2) h3;exact .var k1 (by rw[h.cell x k2,Zb5];exact h2) k4 h4 (by rw[k3];exact h5)
  |@leaf a x t h1 h2 h3 h4 h5 h6 h7=>
   intro ha;obtain⟨k1,k2⟩:=h.looks h1 ha;have hk:(Zaa l x).kind≠0:=by rw[h2];exact h3
   exact .leaf k1 (by rw[h.cell x k2,Zb5];exact h2) h3 h4 (by rw[h.cell x k2,Zmi mv hk];exact h5) (by rw[h.cell x k2,ZjV];exact h6) h7
  |@comp a x t h1 h2 h3 h4 h5 h6 h7 ih=>
   intro ha;obtain⟨k1,k2⟩:=h.looks h1 ha;have hk:(Zaa l x).kind≠0:=by rw[h2];decide
   refine .comp k1 (by rw[h.cell x k2,Zb5];exact h2) h3 h4 (by rw[h.cell x k2,Zmi mv hk];exact h5) (by rw[h.cell x k2,ZjV];exact h6) fun i hi=>?_;obtain⟨q1,q2⟩:=h.args x k2 h2 i (by rw[h5];omega);rw[<-q2];exact ih i hi q1
open Classical in
/-- where a place came from -/
noncomputable def ZjW (S : Int → Prop) (mv : Int → Int) (y : Int) : Int := if h : ∃ x, S x ∧ mv x = y then Classical.choose h else 0
theorem Mor.back(h:Mor l l' S mv){a:Int}(ha:S a):ZjW S mv (mv a)=a:=by have he:∃x,S x/\mv x=mv a:=⟨a,ha,rfl⟩;unfold ZjW;rw[dif_pos he];obtain⟨h1,h2⟩:=Classical.choose_spec he;exact h.inj h1 ha h2
theorem Mor.all(h:Mor l l' S mv)(hsur:∀y,Inb l' y->∃x,S x/\mv x=y)(hM:Mon N l φ E):Mon N l' (fun y=>φ (ZjW S mv y)) E/\∀a t,S a->Hr l φ E (fun _=>True) a t->Hr l' (fun y=>φ (ZjW S mv y)) E (fun _=>True) (mv a) t:=by
 refine⟨⟨fun x y hx hy hlt=>?_,fun x hx=>?_,fun x hx=>?_⟩,fun a t ha hr=>h.hr (fun x hx _ _=>⟨by rw[h.back hx],trivial⟩) hr ha⟩
 ·obtain⟨a,ha,rfl⟩:=hsur x hx.1;obtain⟨b,hb,rfl⟩:=hsur y hy.1;rw[h.back ha,h.back hb];refine hM.lt a b ((h.free ha).1 hx) ((h.free hb).1 hy) ?_;rcases Int.lt_trichotomy a b with h1|h1|h1;·exact h1
  ·subst h1;omega
  ·have :=h.lt b a hb ha h1;omega
 ·obtain⟨a,ha,rfl⟩:=hsur x hx.1;rw[h.back ha];exact hM.bd a ((h.free ha).1 hx)
 ·obtain⟨a,ha,rfl⟩:=hsur x hx.1;rw[h.back ha];exact hM.free a ((h.free ha).1 hx)
end
def Zcu(h:Hp)(top tr:Nat):Hp:=⟨(ZbB h.cells (h.trail.drop tr)).take top,h.trail.take tr⟩
def ZeH(m:List Bool)(v:Int):Bool:=(m[v.toNat]?).getD false
theorem ZdZ(m:List Bool)(t:List Int):∀(k:Nat),k<=t.length->Ze2 m t k=((t.take k).filter (ZeH m)).map (ahead m)
 |0,_=>by simp[Ze2]
 |k+1,hk=>by
  have hlt:k<t.length:=by omega
  rw[List.take_succ_eq_append_getElem hlt,List.filter_append,List.map_append,<-ZdZ m t k (by omega),Ze2];have e:(Zar m t)[k]?=some (ZeH m t[k]):=by unfold Zar;rw[List.getElem?_map,List.getElem?_eq_getElem hlt];rfl
  rw[e];cases hq:ZeH m t[k]with|true=>rw[if_pos rfl,List.getElem?_eq_getElem hlt];simp[hq]|false=>rw[if_neg (by simp)];simp[hq]
section
variable {h : Hp} {roots : List Int}
theorem ZmE(hg:h.Good):Mor h.cells (gcH h roots).cells (RP h roots) (ahead (marks h.cells roots)):=by
 refine⟨fun a ha=>⟨(ZmD hg.1 ha).2,(ZmD hg.1 ha).1⟩,fun a ha=>Zm9 hg.1 ha,fun a ha hk=>ha.next hg.1 hk,fun a ha hk i hi=>?_,fun a b ha hb hlt=>?_⟩
 ·obtain⟨h1,h2⟩:=Zna hg.1 ha hk;have hm:a+1+(i:Nat)∈Zap a (Zaa h.cells a).n:=by unfold Zap;exact List.mem_map.2 ⟨i,List.mem_range.2 (by omega),rfl⟩
  refine⟨h2 _ hm,?_⟩;have h3:=congrArg (fun l=>l[i]?) h1;unfold Zap at h3;simp only[List.getElem?_map,List.getElem?_range (show i<(Zaa h.cells a).n.toNat by omega),Option.map_some,Option.some.injEq]at h3;exact h3.symm
 ·obtain⟨k,rfl,hk,ha⟩:=ha.nat hg.1;obtain⟨m,rfl,hm,hb⟩:=hb.nat hg.1;rw[Zbm,Zbm];have :=Zg4 (m:=marks h.cells roots) (i:=k) (j:=m) (by omega) ((Zba hk).2 ha);omega
theorem ZnK(hg:h.Good):∀y,Inb (gcH h roots).cells y->∃x,RP h roots x/\ahead (marks h.cells roots) x=y:=by intro y hy;obtain⟨k,rfl⟩:=Int.eq_ofNat_of_zero_le hy.1;obtain⟨i,h1,h2,h3⟩:=Zkh (h:=h) (roots:=roots) (j:=k) (by have :=hy.2;omega);exact⟨(i:Int),RP.of h2,by rw[Zbm,h3]⟩
theorem ZeI(hg:h.Good){v:Int}(hv:v∈h.trail):ZeH (marks h.cells roots) v=true↔RP h roots v:=by
 obtain⟨j,hj,rfl⟩:=List.mem_iff_getElem.1 hv;obtain⟨k,e,hk, -⟩:=hg.2.1 j hj;rw[e];unfold ZeH RP;rw[Int.toNat_natCast];constructor;·intro h1;refine⟨zN _,(Zba hk).1 ?_⟩;cases hq:(marks h.cells roots)[k]? with|none=>rw[hq]at h1;simp at h1|some b=>rw[hq]at h1;simp only[Option.getD_some]at h1;rw[h1]
 ·intro h1;rw[(Zba hk).2 h1.2];rfl
theorem Zjb(tr:Nat)(htr:tr<=h.trail.length):(gcH h roots).trail.take (cnt (Zar (marks h.cells roots) h.trail) tr)=((h.trail.take tr).filter (ZeH (marks h.cells roots))).map (ahead (marks h.cells roots))/\(gcH h roots).trail.drop (cnt (Zar (marks h.cells roots) h.trail) tr)=((h.trail.drop tr).filter (ZeH (marks h.cells roots))).map (ahead (marks h.cells roots)):=by
 have h1:(gcH h roots).trail=(h.trail.filter (ZeH (marks h.cells roots))).map (ahead (marks h.cells roots)):=by show Ze2 _ _ _=_;rw[ZdZ _ _ _ (zL _),List.take_length]
 have h2:cnt (Zar (marks h.cells roots) h.trail) tr=(((h.trail.take tr).filter (ZeH (marks h.cells roots))).map (ahead (marks h.cells roots))).length:=by rw[<-Zbw,ZdZ _ _ _ htr]
 have h3:(h.trail.filter (ZeH (marks h.cells roots))).map (ahead (marks h.cells roots))=((h.trail.take tr).filter (ZeH (marks h.cells roots))).map (ahead (marks h.cells roots))++((h.trail.drop tr).filter (ZeH (marks h.cells roots))).map (ahead (marks h.cells roots)):=by rw[<-List.map_append,<-List.filter_append,List.take_append_drop]
 rw[h1,h2,h3];exact⟨List.take_left' rfl,List.drop_left' rfl⟩
theorem Zcg(top tr:Nat)(htop:top<=h.cells.length):(Zcu h top tr).cells.length=top:=by show((ZbB _ _).take top).length=top;rw[List.length_take,Za9];omega
theorem ZdE{top tr:Nat}{a:Int}(htop:top<=h.cells.length)(h0:0<=a)(h1:a<top):Zaa (Zcu h top tr).cells a=if a∈h.trail.drop tr then{Zaa h.cells a with n:=a}else Zaa h.cells a:=by
 obtain⟨k,rfl⟩:=Int.eq_ofNat_of_zero_le h0;have hk:k<(Zcu h top tr).cells.length:=by rw[Zcg top tr htop];omega
 have hk2:k<h.cells.length:=by omega
 rw[ZaA hk,ZaA hk2];have hk':k<((ZbB h.cells (h.trail.drop tr)).take top).length:=hk;show((ZbB h.cells (h.trail.drop tr)).take top)[k]'hk'=_;rw[List.getElem_take,Zc8]
theorem ZkU(hg:h.Good){top tr:Nat}(htop:top<=h.cells.length)(htr:tr<=h.trail.length)(ho:(Zcu h top tr).Good):Mor (Zcu h top tr).cells (Zcu (gcH h roots) (cnt (marks h.cells roots) top) (cnt (Zar (marks h.cells roots) h.trail) tr)).cells (fun a=>RP h roots a/\a<top) (ahead (marks h.cells roots))/\(∀y,Inb (Zcu (gcH h roots) (cnt (marks h.cells roots) top) (cnt (Zar (marks h.cells roots) h.trail) tr)).cells y->∃x,(RP h roots x/\x<top)/\ahead (marks h.cells roots) x=y):=by
 have hlen:=Zcg (h:=h) top tr htop;have htop':cnt (marks h.cells roots) top<=(gcH h roots).cells.length:=by show _<=(ZeR _ _ _).length;rw[Za7];exact ZcK htop
 have hlen':=Zcg (h:=gcH h roots) (cnt (marks h.cells roots) top) (cnt (Zar (marks h.cells roots) h.trail) tr) htop';have hM:=ZmE (roots:=roots) hg;have hin:∀a,RP h roots a->a<top->0<=ahead (marks h.cells roots) a/\ahead (marks h.cells roots) a<(cnt (marks h.cells roots) top:Nat):=fun a ha hlt=>by obtain⟨k,rfl,hk,hr⟩:=ha.nat hg.1;rw[Zbm];have :=Zg4 (m:=marks h.cells roots) (i:=k) (j:=top) (by omega) ((Zba hk).2 hr);omega
 have hun:∀a,RP h roots a->(ahead (marks h.cells roots) a∈(gcH h roots).trail.drop (cnt (Zar (marks h.cells roots) h.trail) tr)↔a∈h.trail.drop tr):=fun a ha=>by
  rw[(Zjb tr htr).2];constructor;·intro hm;obtain⟨x,hx,e⟩:=List.mem_map.1 hm;obtain⟨hx1,hx2⟩:=List.mem_filter.1 hx;rw[<-hM.inj ((ZeI hg (List.mem_of_mem_drop hx1)).1 hx2) ha e];exact hx1
  ·intro hm;exact List.mem_map.2 ⟨a,List.mem_filter.2 ⟨hm,(ZeI hg (List.mem_of_mem_drop hm)).2 ha⟩,rfl⟩
 have htk:∀a,a∈h.trail->(Zaa h.cells a).kind=0:=fun a ha=>by obtain⟨j,hj,rfl⟩:=List.mem_iff_getElem.1 ha;obtain⟨k,e,hk,hk0⟩:=hg.2.1 j hj;rw[e,ZaA hk];exact hk0
 have hok:∀a:Int,0<=a->a<(top:Int)->(Zaa (Zcu h top tr).cells a).OkAt top a.toNat:=fun a h0 h1=>by
  obtain⟨k,rfl⟩:=Int.eq_ofNat_of_zero_le h0;have hk:k<(Zcu h top tr).cells.length:=by omega
  have :=ho.1 k hk;rw[ZaA hk,Int.toNat_natCast];rwa[hlen]at this
 refine⟨⟨fun a⟨ha,hlt⟩=>⟨⟨ha.1,by omega⟩,by have :=hin a ha hlt;unfold Inb;omega⟩,fun a⟨ha,hlt⟩=>?_,fun a⟨ha,hlt⟩hk=>?_,fun a⟨ha,hlt⟩hk i hi=>?_,fun a b ha hb hlt=>hM.lt a b ha.1 hb.1 hlt⟩,fun y hy=>?_⟩
 ·obtain⟨q1,q2⟩:=hin a ha hlt;rw[ZdE htop' q1 q2,ZdE htop ha.1 hlt,hM.cell a ha];by_cases hm:a∈h.trail.drop tr;·rw[if_pos hm,if_pos ((hun a ha).2 hm)];have hk:=htk a (List.mem_of_mem_drop hm);unfold mvC;rw[if_pos hk,if_pos hk]
  ·rw[if_neg hm,if_neg (fun h=>hm ((hun a ha).1 h))]
 ·have h1:=hok a ha.1 hlt;rw[ZdE htop ha.1 hlt]at h1 hk ⊢;by_cases hm:a∈h.trail.drop tr;·rw[if_pos hm];exact⟨ha,hlt⟩
  ·rw[if_neg hm]at h1 hk ⊢;unfold Ce.OkAt at h1;exact⟨hM.next a ha hk,by omega⟩
 ·have h1:=hok a ha.1 hlt;rw[ZdE htop ha.1 hlt]at h1 hk hi;have hm:¬a∈h.trail.drop tr:=fun hm=>by rw[if_pos hm]at hk;have :=htk a (List.mem_of_mem_drop hm);simp only at hk;omega
  rw[if_neg hm]at h1 hk hi;obtain⟨k1,k2⟩:=hM.args a ha hk i hi;unfold Ce.OkAt at h1;have :=ha.1;exact⟨⟨k1,by omega⟩,k2⟩
 ·obtain⟨j,rfl⟩:=Int.eq_ofNat_of_zero_le hy.1;have hj:j<cnt (marks h.cells roots) top:=by have :=hy.2;omega
  obtain⟨i,h1,h2,h3⟩:=Zfr _ _ hj;exact⟨(i:Int),⟨RP.of ((Zba (by omega)).1 h2),by omega⟩,by rw[Zbm,h3]⟩
theorem Mor.good{l l':List Ce}{S:Int->Prop}{mv:Int->Int}(hM:Mor l l' S mv)(hsur:∀y,Inb l' y->∃x,S x/\mv x=y)(hg:GoodC l):GoodC l':=by
 intro i hi;obtain⟨x,hx,e⟩:=hsur (i:Int) ⟨zN _,by omega⟩;have h1:=hM.cell x hx;rw[e,ZaA hi]at h1;obtain⟨k,rfl,hk,hc⟩:=ZaR (hM.inb x hx).1;have h2:=hg k hk;rw[h1];have hnext:=hM.next _ hx;have hargs:=hM.args _ hx;rw[hc]at hnext hargs ⊢;unfold Ce.OkAt at h2 ⊢;rcases h2 with⟨a1,a2,a3,a4⟩|⟨a1,a2,a3⟩|⟨a1,a2⟩|⟨a1,a2,a3,a4,a5⟩;·left;have hb:=(hM.inb _ (hnext a1)).2;unfold Inb at hb;rw[Zb5,ZjV,Zja mv a1];exact⟨a1,hb.1,hb.2,a4⟩
 ·right;left;rw[Zb5,ZjV,Zmi mv (by omega)];exact⟨a1,a2,a3⟩
 ·right;right;left;rw[Zb5,ZjV];exact⟨a1,a2⟩
 ·right;right;right;rw[Zb5,ZjV,Zmi mv (by omega)];obtain⟨k1,k2⟩:=hargs a1 ((l[k]).n.toNat - 1) (by omega);have hb:=(hM.inb _ k1).2;unfold Inb at hb;exact⟨a1,a2,a3,by omega,a5⟩
theorem Zmj(hg:h.Good){top tr:Nat}(htop:top<=h.cells.length)(htr:tr<=h.trail.length)(ho:(Zcu h top tr).Good):(Zcu (gcH h roots) (cnt (marks h.cells roots) top) (cnt (Zar (marks h.cells roots) h.trail) tr)).Good:=by
 obtain⟨hM,hsur⟩:=ZkU (roots:=roots) hg htop htr ho;have hgg:=ZiG (roots:=roots) hg;have hlen:=Zcg (h:=h) top tr htop;refine⟨hM.good hsur ho.1,fun j hj=>?_,?_,?_⟩;·have e:(Zcu (gcH h roots) (cnt (marks h.cells roots) top) (cnt (Zar (marks h.cells roots) h.trail) tr)).trail=_:=(Zjb tr htr).1;have hm:(Zcu (gcH h roots) (cnt (marks h.cells roots) top) (cnt (Zar (marks h.cells roots) h.trail) tr)).trail[j]∈((h.trail.take tr).filter (ZeH (marks h.cells roots))).map (ahead (marks h.cells roots)):=e▸List.getElem_mem hj;obtain⟨x,hx,ex⟩:=List.mem_map.1 hm;obtain⟨hx1,hx2⟩:=List.mem_filter.1 hx;have hxt:=(ZeI (roots:=roots) hg (List.mem_of_mem_take hx1)).1 hx2;obtain⟨i,hi,ei⟩:=List.mem_iff_getElem.1 (show x∈(Zcu h top tr).trail from hx1);obtain⟨k,ek,hk,hk0⟩:=ho.2.1 i hi;have hxk:x=(k:Int):=ei.symm.trans ek;have hS:RP h roots x/\x<top:=⟨hxt,by omega⟩;have hb:=(hM.inb x hS).2;obtain⟨m,hm,hml,hmc⟩:=ZaR hb;refine⟨m,by rw[<-hm];exact ex.symm,hml,?_⟩;rw[<-hmc,hM.cell x hS,Zb5,hxk,ZaA hk];exact hk0
 ·show((ZbB _ _).take _).length<=_;rw[List.length_take,Za9];have :=hgg.2.2.1;omega
 ·show(List.take _ _).length<=_;rw[List.length_take];have :=hgg.2.2.2;omega
end
end Go.Proofs.Ytlpmfkpefoegeac
