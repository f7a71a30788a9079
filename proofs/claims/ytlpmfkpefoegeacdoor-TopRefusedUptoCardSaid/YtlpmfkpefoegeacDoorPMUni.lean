import Derived.Test.YtlpmfkpefoegeacDoorHLoad
import Derived.Test.YtlpmfkpefoegeacDoorQIsHeap
namespace Go.Proofs.YtlpmfkpefoegeacDoor
set_option maxRecDepth 100000
set_option maxHeartbeats 16000000
set_option linter.all false
inductive Hr (l : List Ce) (φ : Int → Int) (E : Env) (K : Int → Prop) : Int → Tm → Prop where
  | var {a x : Int} {t : Tm} : Looks l a x → (Zaa l x).kind = 0 → K x → (slook E t).kind = 0 → (slook E t).n = φ x → Hr l φ E K a t
  | leaf {a x : Int} {t : Tm} : Looks l a x → (Zaa l x).kind = (slook E t).kind → (slook E t).kind ≠ 0 → (slook E t).kind ≠ 3 → (Zaa l x).n = (slook E t).n → (Zaa l x).s = (slook E t).s → (slook E t).args = [] → Hr l φ E K a t
  | comp {a x : Int} {t : Tm} : Looks l a x → (Zaa l x).kind = 3 → (slook E t).kind = 3 → (slook E t).n = 0 → (Zaa l x).n = (slook E t).args.length → (Zaa l x).s = (slook E t).s →
      (∀ (i : Nat) (h : i < (slook E t).args.length), Hr l φ E K (x + 1 + (i : Nat)) ((slook E t).args[i])) → Hr l φ E K a t
section
variable {l : List Ce} {φ : Int → Int} {E : Env} {K : Int → Prop} {N : Int}
theorem Hr.looks{a:Int}{t:Tm}(h:Hr l φ E K a t):∃x,Looks l a x:=by cases h<;>exact⟨_,by assumption⟩
theorem Hr.move{a z x:Int}{t u:Tm}(h:Hr l φ E K z t)(hz:Looks l z x)(ha:Looks l a x)(hs:slook E u=slook E t):Hr l φ E K a u:=by cases h with|var h1 h2 h3 h4 h5=>obtain rfl:=hz.fun_ h1;exact .var ha h2 h3 (by rw[hs];exact h4) (by rw[hs];exact h5)|leaf h1 h2 h3 h4 h5 h6 h7=>obtain rfl:=hz.fun_ h1;exact .leaf ha (by rw[hs];exact h2) (by rw[hs];exact h3) (by rw[hs];exact h4) (by rw[hs];exact h5) (by rw[hs];exact h6) (by rw[hs];exact h7)|comp h1 h2 h3 h4 h5 h6 h7=>obtain rfl:=hz.fun_ h1;exact .comp ha h2 (by rw[hs];exact h3) (by rw[hs];exact h4) (by rw[hs];exact h5) (by rw[hs];exact h6) (by rw[hs];exact h7)
theorem Hr.imp{K':Int->Prop}(hK:∀x,K x->K' x){a:Int}{t:Tm}(h:Hr l φ E K a t):Hr l φ E K' a t:=by induction h with|var h1 h2 h3 h4 h5=>exact .var h1 h2 (hK _ h3) h4 h5|leaf h1 h2 h3 h4 h5 h6 h7=>exact .leaf h1 h2 h3 h4 h5 h6 h7|comp h1 h2 h3 h4 h5 h6 _ ih=>exact .comp h1 h2 h3 h4 h5 h6 ih
theorem Zfa(hE:EnvOk N E){v:Int}{x:Tm}(hE':EnvOk N (E++[(v,x)]))(hx:slook E x=x)(hxv:x.kind=0->x.n≠v)(hxf:x.kind=0->eget E x.n=none):∀(k:Nat)(t:Tm),t.In N->t.n.toNat<k->slook (E++[(v,x)]) t=if(slook E t).kind=0/\(slook E t).n=v then x else slook E t
 |0,t,_,h=>absurd h (Nat.not_lt_zero _)
 |k+1,t,ht,hk=>by
  have hx':slook (E++[(v,x)]) x=x:=by
   by_cases e:x.kind=0;·refine ZaG (.inr ?_);rw[Zdr,hxf e];simp only;rw[if_neg (fun h=>hxv e h.symm)]
   ·exact ZaG (.inl e)
  by_cases e:t.kind=0
  ·cases he:eget E t.n with
    |none=>
     rw[ZaG (E:=E) (.inr he)];by_cases ev:t.n=v;·rw[if_pos ⟨e,ev⟩,Ze5 (x:=x) hE' ht e (by rw[Zdr,he];simp only;rw[if_pos ev.symm]),hx']
     ·rw[if_neg (fun h=>ev h.2)];exact ZaG (.inr (by rw[Zdr,he];simp only;rw[if_neg (fun h=>ev h.symm)]))
    |some y=>
     have hm:=Zhn he;rw[Ze5 hE ht e he,Ze5 (x:=y) hE' ht e (by rw[Zdr,he])];by_cases ey:y.kind=0;·have h1:=hE.less _ hm ey;simp only at h1;have h2:=(hE.tm _ hm).n ey;have h3:=ht.n e;simp only at h2;exact Zfa hE hE' hx hxv hxf k y (hE.tm _ hm) (by omega)
     ·rw[ZaG (E:=E) (.inl ey),ZaG (.inl ey),if_neg (fun h=>ey h.1)]
  ·rw[ZaG (E:=E) (.inl e),ZaG (.inl e),if_neg (fun h=>e h.1)]
structure Mon (N : Int) (l : List Ce) (φ : Int → Int) (E : Env) : Prop where
  lt : ∀ x y, Free l x → Free l y → x < y → φ x < φ y
  bd : ∀ x, Free l x → 0 ≤ φ x ∧ φ x < N
  free : ∀ x, Free l x → eget E (φ x) = none
theorem Mon.inj(h:Mon N l φ E){x y:Int}(hx:Free l x)(hy:Free l y)(e:φ x=φ y):x=y:=by
 rcases Int.lt_trichotomy x y with h1|h1|h1;·have :=h.lt x y hx hy h1;omega
 ·exact h1
 ·have :=h.lt y x hy hx h1;omega
theorem Zdx{v z x:Int}(hv:Free l v)(hz:z≠v)(h:Free (Zbi l v z) x):Free l x/\x≠v:=by
 obtain⟨h1,h2,h3⟩:=h;have hi:Inb l x:=inb_bind.1 h1;rw[Za4 hv.1 hi]at h2 h3;by_cases e:x=v;·rw[if_pos e]at h3;simp only at h3;exact absurd (h3.trans e) hz
 ·rw[if_neg e]at h2 h3;exact⟨⟨hi,h2,h3⟩,e⟩
section bind
variable {v z : Int} {tz : Tm}
theorem Znh(hE:EnvOk N E)(hM:Mon N l φ E)(hE':EnvOk N (E++[(φ v,tz)]))(hv:Free l v)(hz:Inb l z)(hs:Stop l z)(hne:z≠v)(htz:slook E tz=tz)(hxv:tz.kind=0->tz.n≠φ v)(hxf:tz.kind=0->eget E tz.n=none){a:Int}{t:Tm}(ht:t.In N)(h:Hr l φ E (fun x=>K x/\x≠v) a t):Hr (Zbi l v z) φ (E++[(φ v,tz)]) (fun x=>K x/\x≠v) a t:=by
 have hsn:=fun(t:Tm)(ht:t.In N)=>Zfa hE hE' htz hxv hxf (t.n.toNat+1) t ht (Nat.lt_succ_self _);induction h with
  |@var a x t h1 h2 h3 h4 h5=>
   have hx:=h1.free h2;have e:slook (E++[(φ v,tz)]) t=slook E t:=by rw[hsn t ht,if_neg];rintro⟨-,e⟩;exact h3.2 (hM.inj hx hv (h5.symm.trans e))
   refine .var (by have :=Zct hv hz hs hne h1;rwa[if_neg h3.2]at this) (by rw[Za4 hv.1 hx.1,if_neg h3.2];exact h2) h3 (by rw[e];exact h4) (by rw[e];exact h5)
  |@leaf a x t h1 h2 h3 h4 h5 h6 h7=>
   have e:slook (E++[(φ v,tz)]) t=slook E t:=by rw[hsn t ht,if_neg (fun h=>h3 h.1)]
   have hxv:x≠v:=fun e=>by rw[e,hv.2.1]at h2;exact h3 h2.symm
   have hc:Zaa (Zbi l v z) x=Zaa l x:=by rw[Za4 hv.1 h1.end_.1,if_neg hxv]
   exact .leaf (by have :=Zct hv hz hs hne h1;rwa[if_neg hxv]at this) (by rw[e,hc];exact h2) (by rw[e];exact h3) (by rw[e];exact h4) (by rw[e,hc];exact h5) (by rw[e,hc];exact h6) (by rw[e];exact h7)
  |@comp a x t h1 h2 h3 h4 h5 h6 h7 ih=>
   have e:slook (E++[(φ v,tz)]) t=slook E t:=by rw[hsn t ht,if_neg (fun h=>by rw[h3]at h;simp at h)]
   have hxv:x≠v:=fun e=>by rw[e,hv.2.1]at h2;simp at h2
   have hc:Zaa (Zbi l v z) x=Zaa l x:=by rw[Za4 hv.1 h1.end_.1,if_neg hxv]
   refine .comp (by have :=Zct hv hz hs hne h1;rwa[if_neg hxv]at this) (by rw[hc];exact h2) (by rw[e];exact h3) (by rw[e];exact h4) (by rw[e,hc];exact h5) (by rw[e,hc];exact h6) ?_;rw[e];exact fun i hi=>ih i hi ((ZbU hE ht).arg (List.getElem_mem hi))
theorem ZoB(hE:EnvOk N E)(hM:Mon N l φ E)(hE':EnvOk N (E++[(φ v,tz)]))(hv:Free l v)(hz:Inb l z)(hs:Stop l z)(hne:z≠v)(htz:slook E tz=tz)(hxv:tz.kind=0->tz.n≠φ v)(hxf:tz.kind=0->eget E tz.n=none)(htzi:tz.In N)(hzz:Hr l φ E (fun x=>True/\x≠v) z tz){a:Int}{t:Tm}(ht:t.In N)(h:Hr l φ E (fun _=>True) a t):Hr (Zbi l v z) φ (E++[(φ v,tz)]) (fun _=>True) a t:=by
 have hsn:=fun(t:Tm)(ht:t.In N)=>Zfa hE hE' htz hxv hxf (t.n.toNat+1) t ht (Nat.lt_succ_self _);have hz':Hr (Zbi l v z) φ (E++[(φ v,tz)]) (fun _=>True) z tz:=(Znh hE hM hE' hv hz hs hne htz hxv hxf htzi hzz).imp fun _ _=>trivial;have hzl:Looks (Zbi l v z) z z:= .stop (inb_bind.2 hz) (ZfS hv.1 hz hs hne);induction h with
  |@var a x t h1 h2 h3 h4 h5=>
   have hx:=h1.free h2;have hl:=Zct hv hz hs hne h1;by_cases ex:x=v;·rw[if_pos ex]at hl;refine hz'.move hzl hl ?_;rw[hsn t ht,if_pos ⟨h4,by rw[h5,ex]⟩,hsn tz htzi,htz,if_neg (fun h=>hxv h.1 h.2)]
   ·rw[if_neg ex]at hl;have e:slook (E++[(φ v,tz)]) t=slook E t:=by rw[hsn t ht,if_neg];rintro⟨-,e⟩;exact ex (hM.inj hx hv (h5.symm.trans e))
    exact .var hl (by rw[Za4 hv.1 hx.1,if_neg ex];exact h2) trivial (by rw[e];exact h4) (by rw[e];exact h5)
  |@leaf a x t h1 h2 h3 h4 h5 h6 h7=>
   have e:slook (E++[(φ v,tz)]) t=slook E t:=by rw[hsn t ht,if_neg (fun h=>h3 h.1)]
   have hxv:x≠v:=fun e=>by rw[e,hv.2.1]at h2;exact h3 h2.symm
   have hc:Zaa (Zbi l v z) x=Zaa l x:=by rw[Za4 hv.1 h1.end_.1,if_neg hxv]
   exact .leaf (by have :=Zct hv hz hs hne h1;rwa[if_neg hxv]at this) (by rw[e,hc];exact h2) (by rw[e];exact h3) (by rw[e];exact h4) (by rw[e,hc];exact h5) (by rw[e,hc];exact h6) (by rw[e];exact h7)
  |@comp a x t h1 h2 h3 h4 h5 h6 h7 ih=>
   have e:slook (E++[(φ v,tz)]) t=slook E t:=by rw[hsn t ht,if_neg (fun h=>by rw[h3]at h;simp at h)]
   have hxv:x≠v:=fun e=>by rw[e,hv.2.1]at h2;simp at h2
   have hc:Zaa (Zbi l v z) x=Zaa l x:=by rw[Za4 hv.1 h1.end_.1,if_neg hxv]
   refine .comp (by have :=Zct hv hz hs hne h1;rwa[if_neg hxv]at this) (by rw[hc];exact h2) (by rw[e];exact h3) (by rw[e];exact h4) (by rw[e,hc];exact h5) (by rw[e,hc];exact h6) ?_;rw[e];exact fun i hi=>ih i hi ((ZbU hE ht).arg (List.getElem_mem hi))
end bind
def HrL(l:List Ce)(φ:Int->Int)(E:Env)(K:Int->Prop):List Int->List Tm->Prop|[],[]=>True|a::s,t::r=>Hr l φ E K a t/\HrL l φ E K s r|_,_=>False
theorem HrL.append{s':List Int}{r':List Tm}(h':HrL l φ E K s' r'):∀{s:List Int}{r:List Tm},HrL l φ E K s r->HrL l φ E K (s++s') (r++r')|[],[],_=>h'|a::s,t::r,h=>⟨h.1,HrL.append (s:=s) (r:=r) h' h.2⟩
theorem HrL.split{s':List Int}{r':List Tm}:∀{s:List Int}{r:List Tm},s.length=r.length->HrL l φ E K (s++s') (r++r')->HrL l φ E K s r/\HrL l φ E K s' r'|[],[],_,h=>⟨trivial,h⟩|a::s,t::r,hl,h=>by obtain⟨h1,h2⟩:=HrL.split (s:=s) (r:=r) (by simpa using hl) h.2;exact⟨⟨h.1,h1⟩,h2⟩|[],_::_,hl,_=>by simp at hl|_::_,[],hl,_=>by simp at hl
theorem HrL.of{ts:List Tm}{x:Int}(d:Nat)(h:∀(i:Nat)(hi:i<ts.length),Hr l φ E K (x+1+((d+i:Nat):Int)) ts[i]):HrL l φ E K ((List.range ts.length).map fun i=>x+1+((d+i:Nat):Int)) ts:=by
 induction ts generalizing d with
  |nil=>trivial
  |cons t r ih=>
   rw[List.length_cons,List.range_succ_eq_map,List.map_cons,List.map_map];refine⟨h 0 (by simp),?_⟩;have :=ih (d+1) (fun i hi=>by have :=h (i+1) (by simp;omega);rw[List.getElem_cons_succ]at this;rw[show d+1+i=d+(i+1)by omega];exact this);have e:((fun i=>x+1+((d+i:Nat):Int))∘Nat.succ)=fun i=>x+1+((d+1+i:Nat):Int):=by funext i;simp only[Function.comp_apply];omega
   rw[e];exact this
theorem HrL.get{ts:List Tm}{x:Int}(d:Nat)(h:HrL l φ E K ((List.range ts.length).map fun i=>x+1+((d+i:Nat):Int)) ts):∀(i:Nat)(hi:i<ts.length),Hr l φ E K (x+1+((d+i:Nat):Int)) ts[i]:=by
 induction ts generalizing d with
  |nil=>intro i hi;simp at hi
  |cons t r ih=>
   rw[List.length_cons,List.range_succ_eq_map,List.map_cons,List.map_map]at h;have e:((fun i=>x+1+((d+i:Nat):Int))∘Nat.succ)=fun i=>x+1+((d+1+i:Nat):Int):=by funext i;simp only[Function.comp_apply];omega
   rw[e]at h;intro i hi;cases i with|zero=>exact h.1|succ i=>have :=ih (d+1) h.2 i (by simpa using hi);rw[show d+1+i=d+(i+1)by omega]at this;exact this
theorem Zgf{ts:List Tm}{x n:Int}(hn:n=ts.length):HrL l φ E K (Zam x n) ts↔∀(i:Nat)(hi:i<ts.length),Hr l φ E K (x+1+(i:Nat)) ts[i]:=by
 subst hn;unfold Zam;rw[Int.toNat_natCast];constructor;·intro h i hi;have :=HrL.get (x:=x) 0 (by simpa using h) i hi;simpa using this
 ·intro h;have :=HrL.of (x:=x) (ts:=ts) 0 (fun i hi=>by simpa using h i hi);simpa using this
theorem HrL.len:∀{s:List Int}{r:List Tm},HrL l φ E K s r->s.length=r.length|[],[],_=>rfl|a::s,t::r,h=>by simp[HrL.len h.2]|[],_::_,h=>h.elim|_::_,[],h=>h.elim
theorem Zi0(hE:EnvOk N E)(hM:Mon N l φ E){v:Int}(hv:Free l v):∀(w:Nat)(s:List Int)(ts:List Tm),HrL l φ E (fun _=>True) s ts->(∀t∈ts,t.In N)->inL l v w s=inS E (φ v) w ts/\((inL l v w s).1=false->0<=(inL l v w s).2->HrL l φ E (fun x=>True/\x≠v) s ts)
 |w,[],[],_,_=>by rw[Ze1,ZlC];exact⟨rfl,fun _ _=>trivial⟩
 |w,[],_::_,h,_=>h.elim
 |w,_::_,[],h,_=>h.elim
 |0,z::s,t::r,_,_=>by rw[Zm4];exact⟨rfl,fun _ h=>by simp[inL]at h⟩
 |w+1,z::s,t::r,⟨h1,h2⟩,ht=>by
  have hr:∀t∈r,t.In N:=fun x hx=>ht x (by simp[hx]);have ih:=Zi0 hE hM hv w s r h2 hr;rw[ZjP];unfold inL;cases h1 with
   |@var _ x _ k1 k2 k3 k4 k5=>
    have hx0:=k1.nonneg;rw[ZaS k1,if_neg (by omega),if_pos k2,if_pos k4,k5];by_cases e:x=v;·rw[if_pos e,if_pos (by rw[e])];exact⟨rfl,fun h=>by simp at h⟩
    ·have e':¬φ x=φ v:=fun h=>e (hM.inj (k1.free k2) hv h);rw[if_neg e,if_neg e'];exact⟨ih.1,fun a b=>⟨.var k1 k2 ⟨trivial,e⟩ k4 k5,ih.2 a b⟩⟩
   |@leaf _ x _ k1 k2 k3 k4 k5 k6 k7=>have hx0:=k1.nonneg;rw[ZaS k1,if_neg (by omega),if_neg (by rw[k2];exact k3),if_neg (by rw[k2];exact k4),if_neg k3,k7,List.nil_append];exact⟨ih.1,fun a b=>⟨.leaf k1 k2 k3 k4 k5 k6 k7,ih.2 a b⟩⟩
   |@comp _ x _ k1 k2 k3 k4 k5 k6 k7=>
    have hx0:=k1.nonneg;rw[ZaS k1,if_neg (by omega),if_neg (by rw[k2];decide),if_pos k2,if_neg (by rw[k3];decide)];have ha:HrL l φ E (fun _=>True) (Zam x (Zaa l x).n) (slook E t).args:=(Zgf k5).2 k7;have ih2:=Zi0 hE hM hv w (Zam x (Zaa l x).n++s) ((slook E t).args++r) (HrL.append h2 ha) (fun y hy=>by
     rcases List.mem_append.1 hy with hy|hy;·exact(ZbU hE (ht t (by simp))).arg hy
     ·exact hr y hy);refine⟨ih2.1,fun a b=>?_⟩;obtain⟨q1,q2⟩:=HrL.split ha.len (ih2.2 a b);exact⟨.comp k1 k2 k3 k4 k5 k6 ((Zgf k5).1 q1),q2⟩
end
def HrP(l:List Ce)(φ:Int->Int)(E:Env):List (Int×Int)->List (Tm×Tm)->Prop|[],[]=>True|a::s,t::r=>(Hr l φ E (fun _=>True) a.1 t.1/\Hr l φ E (fun _=>True) a.2 t.2)/\HrP l φ E s r|_,_=>False
section
variable {l l' : List Ce} {φ : Int → Int} {E E' : Env} {N : Int}
theorem HrP.imp(h:∀a t,t.In N->Hr l φ E (fun _=>True) a t->Hr l' φ E' (fun _=>True) a t):∀{s:List (Int×Int)}{r:List (Tm×Tm)},(∀p∈r,p.1.In N/\p.2.In N)->HrP l φ E s r->HrP l' φ E' s r|[],[],_,_=>trivial|a::s,t::r,hr,k=>⟨⟨h _ _ (hr t (by simp)).1 k.1.1,h _ _ (hr t (by simp)).2 k.1.2⟩,HrP.imp h (fun p hp=>hr p (by simp[hp])) k.2⟩|[],_::_,_,h=>h.elim|_::_,[],_,h=>h.elim
theorem HrP.append{s':List (Int×Int)}{r':List (Tm×Tm)}(h':HrP l φ E s' r'):∀{s:List (Int×Int)}{r:List (Tm×Tm)},HrP l φ E s r->HrP l φ E (s++s') (r++r')|[],[],_=>h'|a::s,t::r,h=>⟨h.1,HrP.append (s:=s) (r:=r) h' h.2⟩|[],_::_,h=>h.elim|_::_,[],h=>h.elim
theorem HrP.zip:∀{s s':List Int}{r r':List Tm},HrL l φ E (fun _=>True) s r->HrL l φ E (fun _=>True) s' r'->HrP l φ E (s.zip s') (r.zip r')|[],_,[],_,_,_=>by simp[HrP]|_::_,[],_::_,[],_,_=>by simp[HrP]|a::s,b::s',t::r,u::r',h,h'=>⟨⟨h.1,h'.1⟩,HrP.zip h.2 h'.2⟩|[],_,_::_,_,h,_=>h.elim|_::_,_,[],_,h,_=>h.elim|_::_,[],_::_,_::_,_,h=>h.elim|_::_,_::_,_::_,[],_,h=>h.elim
structure UniOut (N : Int) (φ : Int → Int) (l : List Ce) (E : Env) (t : List Int) (u : Un) (u' : US) : Prop where
  ok : u.ok = u'.ok
  work : u.work = u'.work
  tells : u.ok = true → ∀ a x, x.In N → Hr l φ E (fun _ => True) a x → Hr u.cells φ u'.env (fun _ => True) a x
  mon : u.ok = true → Mon N u.cells φ u'.env
  trail : u.ok = true → ∃ vs, u.trail = t ++ vs ∧ vs.length + E.length = u'.env.length ∧ ∀ v ∈ vs, Free l v
theorem Mon.bind(hM:Mon N l φ E){v z:Int}{tz:Tm}(hv:Free l v)(hne:z≠v):Mon N (Zbi l v z) φ (E++[(φ v,tz)]):=by refine⟨fun x y hx hy h=>hM.lt x y (Zdx hv hne hx).1 (Zdx hv hne hy).1 h,fun x hx=>hM.bd x (Zdx hv hne hx).1,fun x hx=>?_⟩;obtain⟨h1,h2⟩:=Zdx hv hne hx;rw[Zdr,hM.free x h1];simp only;rw[if_neg (fun e=>h2 (hM.inj h1 hv e.symm))]
theorem UniOut.step{t:List Int}{v z:Int}{tz:Tm}{u:Un}{u':US}(hv:Free l v)(hne:z≠v)(hH:∀a x,x.In N->Hr l φ E (fun _=>True) a x->Hr (Zbi l v z) φ (E++[(φ v,tz)]) (fun _=>True) a x)(h:UniOut N φ (Zbi l v z) (E++[(φ v,tz)]) (t++[v]) u u'):UniOut N φ l E t u u':=by
 refine⟨h.ok,h.work,fun e a x hx ha=>h.tells e a x hx (hH a x hx ha),h.mon,fun e=>?_⟩;obtain⟨vs,h1,h2,h3⟩:=h.trail e;refine⟨v::vs,by rw[h1,List.append_assoc];rfl,by rw[<-h2];simp;omega,fun x hx=>?_⟩;rcases List.mem_cons.1 hx with rfl|hx;·exact hv
 ·exact(Zdx hv hne (h3 x hx)).1
theorem ZjY:∀(w:Nat)(s:List (Int×Int))(ts:List (Tm×Tm))(l:List Ce)(E:Env)(t:List Int),EnvOk N E->Mon N l φ E->HrP l φ E s ts->(∀p∈ts,p.1.In N/\p.2.In N)->UniOut N φ l E t (uniL w s l t) (Zds w ts E):=by
 intro w;induction w using Nat.strongRecOn with
  |_ w ih=>
   intro s ts l E t hE hM hH hI;match w,s,ts,ih,hH,hI with
    |w,[],[],_,_,_=>rw[ZdO,ZfE];exact⟨rfl,rfl,fun _ a x _ h=>h,fun _=>hM,fun _=>⟨[],by simp,by simp,by simp⟩⟩
    |w,[],_::_,_,h,_=>exact h.elim
    |w,_::_,[],_,h,_=>exact h.elim
    |0,p::s,q::ts,_,_,_=>rw[Zdh,Zia];exact⟨rfl,rfl,fun h=>by simp at h,fun h=>by simp at h,fun h=>by simp at h⟩
    |w+1,(a,b)::s,(ta,tb)::ts,ih,⟨⟨ha,hb⟩,hr⟩,hI=>
     have hIr:∀p∈ts,p.1.In N/\p.2.In N:=fun p hp=>hI p (by simp[hp]);obtain⟨ia,ib⟩:=hI (ta,tb) (by simp);simp only at ha hb ia ib;have ihr:=ih w (by omega) s ts l E t hE hM hr hIr;have bnd:∀(v z:Int)(tz:Tm)(k:Nat),k<=w->Free l v->Inb l z->Stop l z->z≠v->slook E tz=tz->tz.In N->(tz.kind=0->tz.n<φ v)->(tz.kind=0->eget E tz.n=none)->Hr l φ E (fun x=>True/\x≠v) z tz->UniOut N φ l E t (uniL k s (Zbi l v z) (t++[v])) (Zds k ts (E++[(φ v,tz)])):=fun v z tz k hk hv hz hs hne htz htzi hlt hfz hzz=>by have hE':EnvOk N (E++[(φ v,tz)]):=hE.snoc (hM.bd v hv).1 (hM.bd v hv).2 (hM.free v hv) htzi hlt;have hBd:∀a x,x.In N->Hr l φ E (fun _=>True) a x->Hr (Zbi l v z) φ (E++[(φ v,tz)]) (fun _=>True) a x:=fun a x hx h=>ZoB hE hM hE' hv hz hs hne htz (fun h1 h2=>by have :=hlt h1;omega) hfz htzi hzz hx h;exact UniOut.step hv hne hBd (ih k (by omega) s ts _ _ _ hE' (hM.bind hv hne) (hr.imp hBd hIr) hIr)
     have one:∀(v z:Int)(tv tz:Tm),Free l v->Hr l φ E (fun _=>True) z tz->Looks l z z->(Zaa l z).kind≠0->slook E tz=tz->tz.In N->tz.kind≠0->UniOut N φ l E t (if(inL l v w [z]).1=true\/(inL l v w [z]).2<0 then⟨false,l,t,(inL l v w [z]).2⟩else uniL (min w (inL l v w [z]).2.toNat) s (Zbi l v z) (t++[v])) (if(inS E (φ v) w [tz]).1=true\/(inS E (φ v) w [tz]).2<0 then⟨false,E,(inS E (φ v) w [tz]).2⟩else Zds (min w (inS E (φ v) w [tz]).2.toNat) ts (E++[(φ v,tz)])):=fun v z _ tz hv hz hzz hk htz hti htk=>by
      obtain⟨q1,q2⟩:=Zi0 hE hM hv w [z] [tz] ⟨hz,trivial⟩ (by simpa using hti);rw[<-q1];split;·exact⟨rfl,rfl,fun h=>by simp at h,fun h=>by simp at h,fun h=>by simp at h⟩
      ·rename_i hn;have q3:=(q2 (by simpa using fun h=>hn (.inl h)) (by omega)).1;exact bnd v z tz _ (by omega) hv hzz.end_.1 hzz.end_.2 (fun e=>hk (e▸hv.2.1)) htz hti (fun h=>absurd h htk) (fun h=>absurd h htk) q3
     rw[uniL,Zds];simp only;have sa:=ZgW hE ia;have sb:=ZgW hE ib;have na:=ZbU hE ia;have nb:=ZbU hE ib;have fa:=ZcT hE ia;have fb:=ZcT hE ib;cases ha with
      |@var _ x _ a1 a2 a3 a4 a5=>
       have hx0:=a1.nonneg;have hxf:=a1.free a2;cases hb with
        |@var _ y _ b1 b2 b3 b4 b5=>
         have hy0:=b1.nonneg;have hyf:=b1.free b2;rw[ZaS a1,ZaS b1,if_neg (show ¬(x<0\/y<0)by omega),if_pos (show(Zaa l x).kind=0/\(Zaa l y).kind=0 from⟨a2,b2⟩),if_pos (show(slook E ta).kind=0/\(slook E tb).kind=0 from⟨a4,b4⟩),a5,b5];by_cases e:x=y;·rw[if_pos e,if_pos (by rw[e])];exact ihr
         ·have e':¬φ x=φ y:=fun h=>e (hM.inj hxf hyf h);rw[if_neg e,if_neg e'];rcases Int.lt_or_gt_of_ne e with hlt|hlt;·have hlt':=hM.lt x y hxf hyf hlt;rw[Int.max_eq_right (by omega),Int.min_eq_left (by omega),Int.max_eq_right (by omega),Int.min_eq_left (by omega)];have hk:eget E (tvar (φ x)).n=none:=hM.free x hxf;exact bnd y x (tvar (φ x)) w (zL _) hyf hxf.1 hxf.stop e (ZaG (.inr hk)) (.var _ (hM.bd x hxf).1 (hM.bd x hxf).2) (fun _=>hlt') (fun _=>hk) (.var (.stop hxf.1 hxf.stop) a2 ⟨trivial,e⟩ (by rw[ZaG (.inr hk)];rfl) (by rw[ZaG (.inr hk)];rfl))
          ·have hlt':=hM.lt y x hyf hxf hlt;rw[Int.max_eq_left (by omega),Int.min_eq_right (by omega),Int.max_eq_left (by omega),Int.min_eq_right (by omega)];have hk:eget E (tvar (φ y)).n=none:=hM.free y hyf;exact bnd x y (tvar (φ y)) w (zL _) hxf hyf.1 hyf.stop (fun h=>e h.symm) (ZaG (.inr hk)) (.var _ (hM.bd y hyf).1 (hM.bd y hyf).2) (fun _=>hlt') (fun _=>hk) (.var (.stop hyf.1 hyf.stop) b2 ⟨trivial,fun h=>e h.symm⟩ (by rw[ZaG (.inr hk)];rfl) (by rw[ZaG (.inr hk)];rfl))
        |@leaf _ y _ b1 b2 b3 b4 b5 b6 b7=>
         have hy0:=b1.nonneg;have hyk:(Zaa l y).kind≠0:=by rw[b2];exact b3
         rw[ZaS a1,ZaS b1,if_neg (show ¬(x<0\/y<0)by omega),if_neg (show ¬((Zaa l x).kind=0/\(Zaa l y).kind=0)from fun h=>hyk h.2),if_neg (show ¬((slook E ta).kind=0/\(slook E tb).kind=0)from fun h=>b3 h.2),if_pos (show(Zaa l x).kind=0\/(Zaa l y).kind=0 from .inl a2),if_pos (show(slook E ta).kind=0\/(slook E tb).kind=0 from .inl a4),if_neg hyk,if_neg hyk,if_neg b3,if_neg b3,a5];exact one x y ta (slook E tb) hxf (.leaf (.stop b1.end_.1 b1.end_.2) (by rw[sb];exact b2) (by rw[sb];exact b3) (by rw[sb];exact b4) (by rw[sb];exact b5) (by rw[sb];exact b6) (by rw[sb];exact b7)) (.stop b1.end_.1 b1.end_.2) hyk sb nb b3
        |@comp _ y _ b1 b2 b3 b4 b5 b6 b7=>
         have hy0:=b1.nonneg;have hyk:(Zaa l y).kind≠0:=by rw[b2];decide
         have b3':(slook E tb).kind≠0:=by rw[b3];decide
         rw[ZaS a1,ZaS b1,if_neg (show ¬(x<0\/y<0)by omega),if_neg (show ¬((Zaa l x).kind=0/\(Zaa l y).kind=0)from fun h=>hyk h.2),if_neg (show ¬((slook E ta).kind=0/\(slook E tb).kind=0)from fun h=>b3' h.2),if_pos (show(Zaa l x).kind=0\/(Zaa l y).kind=0 from .inl a2),if_pos (show(slook E ta).kind=0\/(slook E tb).kind=0 from .inl a4),if_neg hyk,if_neg hyk,if_neg b3',if_neg b3',a5];exact one x y ta (slook E tb) hxf (.comp (.stop b1.end_.1 b1.end_.2) b2 (by rw[sb];exact b3) (by rw[sb];exact b4) (by rw[sb];exact b5) (by rw[sb];exact b6) (by rw[sb];exact b7)) (.stop b1.end_.1 b1.end_.2) hyk sb nb b3'
      |@leaf _ x _ a1 a2 a3 a4 a5 a6 a7=>
       have hx0:=a1.nonneg;have hxk:(Zaa l x).kind≠0:=by rw[a2];exact a3
       have hxl:(Zaa l x).kind≠3:=by rw[a2];exact a4
       cases hb with
        |@var _ y _ b1 b2 b3 b4 b5=>have hy0:=b1.nonneg;have hyf:=b1.free b2;rw[ZaS a1,ZaS b1,if_neg (show ¬(x<0\/y<0)by omega),if_neg (show ¬((Zaa l x).kind=0/\(Zaa l y).kind=0)from fun h=>hxk h.1),if_neg (show ¬((slook E ta).kind=0/\(slook E tb).kind=0)from fun h=>a3 h.1),if_pos (show(Zaa l x).kind=0\/(Zaa l y).kind=0 from .inr b2),if_pos (show(slook E ta).kind=0\/(slook E tb).kind=0 from .inr b4),if_pos b2,if_pos b2,if_pos b4,if_pos b4,b5];exact one y x tb (slook E ta) hyf (.leaf (.stop a1.end_.1 a1.end_.2) (by rw[sa];exact a2) (by rw[sa];exact a3) (by rw[sa];exact a4) (by rw[sa];exact a5) (by rw[sa];exact a6) (by rw[sa];exact a7)) (.stop a1.end_.1 a1.end_.2) hxk sa na a3
        |@leaf _ y _ b1 b2 b3 b4 b5 b6 b7=>
         have hy0:=b1.nonneg;have hyk:(Zaa l y).kind≠0:=by rw[b2];exact b3
         rw[ZaS a1,ZaS b1,if_neg (show ¬(x<0\/y<0)by omega),if_neg (show ¬((Zaa l x).kind=0/\(Zaa l y).kind=0)from fun h=>hxk h.1),if_neg (show ¬((slook E ta).kind=0/\(slook E tb).kind=0)from fun h=>a3 h.1),if_neg (show ¬((Zaa l x).kind=0\/(Zaa l y).kind=0)from fun h=>h.elim hxk hyk),if_neg (show ¬((slook E ta).kind=0\/(slook E tb).kind=0)from fun h=>h.elim a3 b3)];by_cases e:Zaa l x=Zaa l y;·rw[if_neg (show ¬(Zaa l x≠Zaa l y)from fun h=>h e),if_neg (show ¬(¬((slook E ta).kind=(slook E tb).kind/\(slook E ta).n=(slook E tb).n/\(slook E ta).s=(slook E tb).s/\(slook E ta).args.length=(slook E tb).args.length))from fun h=>h ⟨by rw[<-a2,<-b2,e],by rw[<-a5,<-b5,e],by rw[<-a6,<-b6,e],by rw[a7,b7]⟩),if_neg hxl,a7,List.zip_nil_left,List.nil_append];exact ihr
         ·rw[if_pos (show Zaa l x≠Zaa l y from e),if_pos (show ¬((slook E ta).kind=(slook E tb).kind/\(slook E ta).n=(slook E tb).n/\(slook E ta).s=(slook E tb).s/\(slook E ta).args.length=(slook E tb).args.length)from fun h=>e (by obtain⟨h1,h2,h3, -⟩:=h;rw[<-a2,<-b2]at h1;rw[<-a5,<-b5]at h2;rw[<-a6,<-b6]at h3;cases hcx:Zaa l x;cases hcy:Zaa l y;rw[hcx,hcy]at h1 h2 h3;simp only at h1 h2 h3;rw[h1,h2,h3]))];exact⟨rfl,rfl,fun h=>by simp at h,fun h=>by simp at h,fun h=>by simp at h⟩
        |@comp _ y _ b1 b2 b3 b4 b5 b6 b7=>
         have hy0:=b1.nonneg;have hyk:(Zaa l y).kind≠0:=by rw[b2];decide
         have b3':(slook E tb).kind≠0:=by rw[b3];decide
         rw[ZaS a1,ZaS b1,if_neg (show ¬(x<0\/y<0)by omega),if_neg (show ¬((Zaa l x).kind=0/\(Zaa l y).kind=0)from fun h=>hxk h.1),if_neg (show ¬((slook E ta).kind=0/\(slook E tb).kind=0)from fun h=>a3 h.1),if_neg (show ¬((Zaa l x).kind=0\/(Zaa l y).kind=0)from fun h=>h.elim hxk hyk),if_neg (show ¬((slook E ta).kind=0\/(slook E tb).kind=0)from fun h=>h.elim a3 b3'),if_pos (show Zaa l x≠Zaa l y from fun h=>hxl (by rw[h];exact b2)),if_pos (show ¬((slook E ta).kind=(slook E tb).kind/\(slook E ta).n=(slook E tb).n/\(slook E ta).s=(slook E tb).s/\(slook E ta).args.length=(slook E tb).args.length)from fun h=>a4 (h.1.trans b3))];exact⟨rfl,rfl,fun h=>by simp at h,fun h=>by simp at h,fun h=>by simp at h⟩
      |@comp _ x _ a1 a2 a3 a4 a5 a6 a7=>
       have hx0:=a1.nonneg;have hxk:(Zaa l x).kind≠0:=by rw[a2];decide
       have a3':(slook E ta).kind≠0:=by rw[a3];decide
       cases hb with
        |@var _ y _ b1 b2 b3 b4 b5=>have hy0:=b1.nonneg;have hyf:=b1.free b2;rw[ZaS a1,ZaS b1,if_neg (show ¬(x<0\/y<0)by omega),if_neg (show ¬((Zaa l x).kind=0/\(Zaa l y).kind=0)from fun h=>hxk h.1),if_neg (show ¬((slook E ta).kind=0/\(slook E tb).kind=0)from fun h=>a3' h.1),if_pos (show(Zaa l x).kind=0\/(Zaa l y).kind=0 from .inr b2),if_pos (show(slook E ta).kind=0\/(slook E tb).kind=0 from .inr b4),if_pos b2,if_pos b2,if_pos b4,if_pos b4,b5];exact one y x tb (slook E ta) hyf (.comp (.stop a1.end_.1 a1.end_.2) a2 (by rw[sa];exact a3) (by rw[sa];exact a4) (by rw[sa];exact a5) (by rw[sa];exact a6) (by rw[sa];exact a7)) (.stop a1.end_.1 a1.end_.2) hxk sa na a3'
        |@leaf _ y _ b1 b2 b3 b4 b5 b6 b7=>
         have hy0:=b1.nonneg;have hyk:(Zaa l y).kind≠0:=by rw[b2];exact b3
         rw[ZaS a1,ZaS b1,if_neg (show ¬(x<0\/y<0)by omega),if_neg (show ¬((Zaa l x).kind=0/\(Zaa l y).kind=0)from fun h=>hxk h.1),if_neg (show ¬((slook E ta).kind=0/\(slook E tb).kind=0)from fun h=>a3' h.1),if_neg (show ¬((Zaa l x).kind=0\/(Zaa l y).kind=0)from fun h=>h.elim hxk hyk),if_neg (show ¬((slook E ta).kind=0\/(slook E tb).kind=0)from fun h=>h.elim a3' b3),if_pos (show Zaa l x≠Zaa l y from fun h=>b4 (by rw[<-b2,<-h];exact a2)),if_pos (show ¬((slook E ta).kind=(slook E tb).kind/\(slook E ta).n=(slook E tb).n/\(slook E ta).s=(slook E tb).s/\(slook E ta).args.length=(slook E tb).args.length)from fun h=>b4 (by rw[<-h.1];exact a3))];exact⟨rfl,rfl,fun h=>by simp at h,fun h=>by simp at h,fun h=>by simp at h⟩
        |@comp _ y _ b1 b2 b3 b4 b5 b6 b7=>
         have hy0:=b1.nonneg;have hyk:(Zaa l y).kind≠0:=by rw[b2];decide
         have b3':(slook E tb).kind≠0:=by rw[b3];decide
         rw[ZaS a1,ZaS b1,if_neg (show ¬(x<0\/y<0)by omega),if_neg (show ¬((Zaa l x).kind=0/\(Zaa l y).kind=0)from fun h=>hxk h.1),if_neg (show ¬((slook E ta).kind=0/\(slook E tb).kind=0)from fun h=>a3' h.1),if_neg (show ¬((Zaa l x).kind=0\/(Zaa l y).kind=0)from fun h=>h.elim hxk hyk),if_neg (show ¬((slook E ta).kind=0\/(slook E tb).kind=0)from fun h=>h.elim a3' b3')];by_cases e:Zaa l x=Zaa l y
         ·have hl:(slook E ta).args.length=(slook E tb).args.length:=by have :=congrArg Ce.n e;rw[a5,b5]at this;omega
          rw[if_neg (show ¬(Zaa l x≠Zaa l y)from fun h=>h e),if_neg (show ¬(¬((slook E ta).kind=(slook E tb).kind/\(slook E ta).n=(slook E tb).n/\(slook E ta).s=(slook E tb).s/\(slook E ta).args.length=(slook E tb).args.length))from fun h=>h ⟨by rw[a3,b3],by rw[a4,b4],by rw[<-a6,<-b6,e],hl⟩),if_pos a2];have h1:HrL l φ E (fun _=>True) (Zam x (Zaa l x).n) (slook E ta).args:=(Zgf a5).2 a7;have h2:HrL l φ E (fun _=>True) (Zam y (Zaa l x).n) (slook E tb).args:=(Zgf (by rw[e];exact b5)).2 b7;exact ih w (by omega) _ _ l E t hE hM (HrP.append hr (HrP.zip h1 h2)) (fun p hp=>by
           rcases List.mem_append.1 hp with hp|hp;·have :=List.of_mem_zip hp;exact⟨na.arg this.1,nb.arg this.2⟩
           ·exact hIr p hp)
         ·rw[if_pos (show Zaa l x≠Zaa l y from e),if_pos (show ¬((slook E ta).kind=(slook E tb).kind/\(slook E ta).n=(slook E tb).n/\(slook E ta).s=(slook E tb).s/\(slook E ta).args.length=(slook E tb).args.length)from fun h=>e (by
           obtain⟨h1,h2,h3,h4⟩:=h;rw[<-a6,<-b6]at h3;have h5:(Zaa l x).n=(Zaa l y).n:=by rw[a5,b5,h4]
           have h6:(Zaa l x).kind=(Zaa l y).kind:=by rw[a2,b2]
           cases hcx:Zaa l x;cases hcy:Zaa l y;rw[hcx,hcy]at h3 h5 h6;simp only at h3 h5 h6;rw[h3,h5,h6]))];exact⟨rfl,rfl,fun h=>by simp at h,fun h=>by simp at h,fun h=>by simp at h⟩
end
end Go.Proofs.YtlpmfkpefoegeacDoor
