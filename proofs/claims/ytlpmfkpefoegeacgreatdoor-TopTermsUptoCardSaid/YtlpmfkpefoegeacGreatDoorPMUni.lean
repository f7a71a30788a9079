import Derived.Test.YtlpmfkpefoegeacGreatDoorPSolve2
namespace Go.Proofs.YtlpmfkpefoegeacGreatDoor
set_option maxRecDepth 99999
set_option maxHeartbeats 0
set_option linter.all false
inductive Hr (l : List Ce) (φ : Int → Int) (E : Env) (K : Int → Prop) : Int → Tm → Prop where
  | var {a x : Int} {t : Tm} : Looks l a x → (cellAt l x).kind = 0 → K x → (ai E t).kind = 0 → (ai E t).n = φ x → Hr l φ E K a t
  | leaf {a x : Int} {t : Tm} : Looks l a x → (cellAt l x).kind = (ai E t).kind → (ai E t).kind ≠ 0 → (ai E t).kind ≠ 3 → (cellAt l x).n = (ai E t).n → (cellAt l x).s = (ai E t).s → (ai E t).args = [] → Hr l φ E K a t
  | comp {a x : Int} {t : Tm} : Looks l a x → (cellAt l x).kind = 3 → (ai E t).kind = 3 → (ai E t).n = 0 → (cellAt l x).n = (ai E t).args.length → (cellAt l x).s = (ai E t).s →
      (∀ (i : Nat) (h : i < (ai E t).args.length), Hr l φ E K (x + 1 + (i : Nat)) ((ai E t).args[i])) → Hr l φ E K a t
section
variable {l : List Ce} {φ : Int → Int} {E : Env} {K : Int → Prop} {N : Int}
def Hr.looks{a:Int}{t:Tm}(h:Hr l φ E K a t):∃x,Looks l a x:=by cases h<;>exact⟨_,by assumption⟩
def Hr.move{a z x:Int}{t u:Tm}(h:Hr l φ E K z t)(i:Looks l z x)(j:Looks l a x)(b:ai E u=ai E t):Hr l φ E K a u:=by cases h with|var g f e d c=>obtain rfl:=i.MC g;exact .var j f e (by rw[b];exact d) (by rw[b];exact c)|leaf g f e d c m k=>obtain rfl:=i.MC g;exact .leaf j (by rw[b];exact f) (by rw[b];exact e) (by rw[b];exact d) (by rw[b];exact c) (by rw[b];exact m) (by rw[b];exact k)|comp g f e d c m k=>obtain rfl:=i.MC g;exact .comp j f (by rw[b];exact e) (by rw[b];exact d) (by rw[b];exact c) (by rw[b];exact m) (by rw[b];exact k)
def Hr.imp{i:Int->Prop}(n:∀x,K x->i x){a:Int}{t:Tm}(h:Hr l φ E K a t):Hr l φ E i a t:=by induction h with|var f e d c h5=>exact .var f e (n _ d) c h5|leaf f e d c h5 g h7=>exact .leaf f e d c h5 g h7|comp f e d c h5 g _ m=>exact .comp f e d c h5 g m
def Yp(b:cu N E){v:Int}{x:Tm}(a:cu N (E++[(v,x)]))(m:ai E x=x)(d:x.kind=0->x.n≠v)(l:x.kind=0->jf E x.n=none):∀(k:Nat)(t:Tm),t.In N->t.n.toNat<k->ai (E++[(v,x)]) t=if(ai E t).kind=0/\(ai E t).n=v then x else ai E t
 |0,t,_,h=>absurd h (QV _)
 |k+1,t,f,q=>by
  have j:ai (E++[(v,x)]) x=x:=by
   by_cases e:x.kind=0;·refine kD (.inr ?_);rw[M6,l e];simp only;rw[O (λh=>d e h.symm)]
   ·exact kD (.inl e)
  by_cases e:t.kind=0
  ·cases he:jf E t.n with
    |none=>
     rw[kD (E:=E) (.inr he)];by_cases g:t.n=v;·rw[G ⟨e,g⟩,Ry (x:=x) a f e (by rw[M6,he];simp only;rw[G g.symm]),j]
     ·rw[O (λh=>g h.2)];exact kD (.inr (by rw[M6,he];simp only;rw[O (λh=>g h.symm)]))
    |some y=>
     have i:=M5 he;rw[Ry b f e he,Ry (x:=y) a f e (by rw[M6,he])];by_cases c:y.kind=0;·have p:=b.less _ i c;simp only at p;have o:=(b.tm _ i).n c;have r:=f.n e;simp only at o;exact Yp b a m d l k y (b.tm _ i) zB
     ·rw[kD (E:=E) (.inl c),kD (.inl c),O (λh=>c h.1)]
  ·rw[kD (E:=E) (.inl e),kD (.inl e),O (λh=>e h.1)]
structure Mon (N : Int) (l : List Ce) (φ : Int → Int) (E : Env) : Prop where
  lt : ∀ x y, iI l x → iI l y → x < y → φ x < φ y
  bd : ∀ x, iI l x → 0 ≤ φ x ∧ φ x < N
  free : ∀ x, iI l x → jf E (φ x) = none
def Mon.inj(h:Mon N l φ E){x y:Int}(c:iI l x)(b:iI l y)(e:φ x=φ y):x=y:=by
 rcases adJ x y with a|a|a;·have :=h.lt x y c b a;omega
 ·exact a
 ·have :=h.lt y x b c a;omega
def NH{v z x:Int}(f:iI l v)(d:z≠v)(h:iI (fB l v z) x):iI l x/\x≠v:=by
 obtain⟨g,b,a⟩:=h;have c:Inb l x:=Gq.1 g;rw[xn f.1 c]at b a;by_cases e:x=v;·rw[G e]at a;simp only at a;exact absurd (a.trans e) d
 ·rw[O e]at b a;exact⟨⟨c,b,a⟩,e⟩
section bind
variable {v z : Int} {tz : Tm}
def aqi(B:cu N E)(G:Mon N l φ E)(w:cu N (E++[(φ v,tz)]))(f:iI l v)(q:Inb l z)(r:Stop l z)(m:z≠v)(u:ai E tz=tz)(b:tz.kind=0->tz.n≠φ v)(D:tz.kind=0->jf E tz.n=none){a:Int}{t:Tm}(ht:t.In N)(h:Hr l φ E (λx=>K x/\x≠v) a t):Hr (fB l v z) φ (E++[(φ v,tz)]) (λx=>K x/\x≠v) a t:=by
 have k:=λ(t:Tm)(ht:t.In N)=>Yp B w u b D (t.n.toNat+1) t ht (Wu _);induction h with
  |@var a x t g d c p o=>
   have y:=g.free d;have e:ai (E++[(φ v,tz)]) t=ai E t:=by rw[k t ht,O];rintro⟨-,e⟩;exact c.2 (G.inj y f (o.symm.trans e))
   refine .var (by have :=Jr f q r m g;rwa[O c.2]at this) (by rw[xn f.1 y.1,O c.2];exact d) c (by rw[e];exact p) (by rw[e];exact o)
  |@leaf a x t g d c p o s C=>
   have e:ai (E++[(φ v,tz)]) t=ai E t:=by rw[k t ht,O (λh=>c h.1)]
   have b:x≠v:=λe=>by rw[e,f.2.1]at d;exact c d.symm
   have j:cellAt (fB l v z) x=cellAt l x:=by rw[xn f.1 g.end_.1,O b]
   exact .leaf (by have :=Jr f q r m g;rwa[O b]at this) (by rw[e,j];exact d) (by rw[e];exact c) (by rw[e];exact p) (by rw[e,j];exact o) (by rw[e,j];exact s) (by rw[e];exact C)
  |@comp a x t g d c p o s C F=>
   have e:ai (E++[(φ v,tz)]) t=ai E t:=by rw[k t ht,O (λh=>by rw[c]at h;simp at h)]
   have b:x≠v:=λe=>by rw[e,f.2.1]at d;simp at d
   have j:cellAt (fB l v z) x=cellAt l x:=by rw[xn f.1 g.end_.1,O b]
   refine .comp (by have :=Jr f q r m g;rwa[O b]at this) (by rw[j];exact d) (by rw[e];exact c) (by rw[e];exact p) (by rw[e,j];exact o) (by rw[e,j];exact s) ?_;rw[e];exactλi A=>F i A ((oZ B ht).arg (bN A))
def aqj(A:cu N E)(K:Mon N l φ E)(w:cu N (E++[(φ v,tz)]))(c:iI l v)(q:Inb l z)(s:Stop l z)(f:z≠v)(p:ai E tz=tz)(b:tz.kind=0->tz.n≠φ v)(H:tz.kind=0->jf E tz.n=none)(M:tz.In N)(C:Hr l φ E (λx=>True/\x≠v) z tz){a:Int}{t:Tm}(ht:t.In N)(h:Hr l φ E (λ_=>True) a t):Hr (fB l v z) φ (E++[(φ v,tz)]) (λ_=>True) a t:=by
 have d:=λ(t:Tm)(ht:t.In N)=>Yp A w p b H (t.n.toNat+1) t ht (Wu _);have F:Hr (fB l v z) φ (E++[(φ v,tz)]) (λ_=>True) z tz:=(aqi A K w c q s f p b H M C).imp λ_ _=>trivial;have D:Looks (fB l v z) z z:= .stop (Gq.2 q) (WY c.1 q s f);induction h with
  |@var a x t j g o r m=>
   have I:=j.free g;have y:=Jr c q s f j;by_cases u:x=v;·rw[G u]at y;refine F.move D y ?_;rw[d t ht,G ⟨r,by rw[m,u]⟩,d tz M,p,O (λh=>b h.1 h.2)]
   ·rw[O u]at y;have e:ai (E++[(φ v,tz)]) t=ai E t:=by rw[d t ht,O];rintro⟨-,e⟩;exact u (K.inj I c (m.symm.trans e))
    exact .var y (by rw[xn c.1 I.1,O u];exact g) trivial (by rw[e];exact r) (by rw[e];exact m)
  |@leaf a x t j g o r m B L=>
   have e:ai (E++[(φ v,tz)]) t=ai E t:=by rw[d t ht,O (λh=>o h.1)]
   have b:x≠v:=λe=>by rw[e,c.2.1]at g;exact o g.symm
   have k:cellAt (fB l v z) x=cellAt l x:=by rw[xn c.1 j.end_.1,O b]
   exact .leaf (by have :=Jr c q s f j;rwa[O b]at this) (by rw[e,k];exact g) (by rw[e];exact o) (by rw[e];exact r) (by rw[e,k];exact m) (by rw[e,k];exact B) (by rw[e];exact L)
  |@comp a x t j g o r m B L P=>
   have e:ai (E++[(φ v,tz)]) t=ai E t:=by rw[d t ht,O (λh=>by rw[o]at h;simp at h)]
   have b:x≠v:=λe=>by rw[e,c.2.1]at g;simp at g
   have k:cellAt (fB l v z) x=cellAt l x:=by rw[xn c.1 j.end_.1,O b]
   refine .comp (by have :=Jr c q s f j;rwa[O b]at this) (by rw[k];exact g) (by rw[e];exact o) (by rw[e];exact r) (by rw[e,k];exact m) (by rw[e,k];exact B) ?_;rw[e];exactλi J=>P i J ((oZ A ht).arg (bN J))
end bind
def iU(l:List Ce)(φ:Int->Int)(E:Env)(K:Int->Prop):List Int->List Tm->Prop|[],[]=>True|a::s,t::r=>Hr l φ E K a t/\iU l φ E K s r|_,_=>False
def iU.append{s':List Int}{b:List Tm}(c:iU l φ E K s' b):∀{s:List Int}{r:List Tm},iU l φ E K s r->iU l φ E K (s++s') (r++b)|[],[],_=>c|a::s,t::r,h=>⟨h.1,iU.append (s:=s) (r:=r) c h.2⟩
def iU.split{s':List Int}{c:List Tm}:∀{s:List Int}{r:List Tm},s.length=r.length->iU l φ E K (s++s') (r++c)->iU l φ E K s r/\iU l φ E K s' c|[],[],_,h=>⟨trivial,h⟩|a::s,t::r,b,h=>by obtain⟨e,d⟩:=iU.split (s:=s) (r:=r) (by simpa using b) h.2;exact⟨⟨h.1,e⟩,d⟩|[],_::_,b,_=>by simp at b|_::_,[],b,_=>by simp at b
def iU.of{ts:List Tm}{x:Int}(d:Nat)(h:∀(i:Nat)(c:i<ts.length),Hr l φ E K (x+1+((d+i:Nat):Int)) ts[i]):iU l φ E K ((List.range ts.length).map λi=>x+1+((d+i:Nat):Int)) ts:=by
 induction ts generalizing d with
  |nil=>trivial
  |cons t r b=>
   rw[bn,amU,sH,WC];refine⟨h 0 zh,?_⟩;have :=b (d+1) (λi c=>by have :=h (i+1) (by simp;omega);rw[Mc]at this;rw[show d+1+i=d+(i+1)by omega];exact this);have e:((λi=>x+1+((d+i:Nat):Int))∘Nat.succ)=λi=>x+1+((d+1+i:Nat):Int):=by funext i;simp only[am2];omega
   rw[e];exact this
def iU.get{ts:List Tm}{x:Int}(d:Nat)(h:iU l φ E K ((List.range ts.length).map λi=>x+1+((d+i:Nat):Int)) ts):∀(i:Nat)(hi:i<ts.length),Hr l φ E K (x+1+((d+i:Nat):Int)) ts[i]:=by
 induction ts generalizing d with
  |nil=>intro i hi;simp at hi
  |cons t r ih=>
   rw[bn,amU,sH,WC]at h;have e:((λi=>x+1+((d+i:Nat):Int))∘Nat.succ)=λi=>x+1+((d+1+i:Nat):Int):=by funext i;simp only[am2];omega
   rw[e]at h;intro i hi;cases i with|zero=>exact h.1|succ i=>have :=ih (d+1) h.2 i (by simpa using hi);rw[show d+1+i=d+(i+1)by omega]at this;exact this
def NJ{ts:List Tm}{x n:Int}(b:n=ts.length):iU l φ E K (argsAt x n) ts↔∀(i:Nat)(a:i<ts.length),Hr l φ E K (x+1+(i:Nat)) ts[i]:=by
 subst b;unfold argsAt;rw[dF];constructor;·intro h i a;have :=iU.get (x:=x) 0 (by simpa using h) i a;simpa using this
 ·intro h;have :=iU.of (x:=x) (ts:=ts) 0 (λi a=>by simpa using h i a);simpa using this
def iU.len:∀{s:List Int}{r:List Tm},iU l φ E K s r->s.length=r.length|[],[],_=>rfl|a::s,t::r,h=>by simp[iU.len h.2]|[],_::_,h=>h.elim|_::_,[],h=>h.elim
def Yq(B:cu N E)(A:Mon N l φ E){v:Int}(u:iI l v):∀(w:Nat)(s:List Int)(ts:List Tm),iU l φ E (λ_=>True) s ts->(∀t∈ts,t.In N)->bG l v w s=dh E (φ v) w ts/\((bG l v w s).1=false->0<=(bG l v w s).2->iU l φ E (λx=>True/\x≠v) s ts)
 |w,[],[],_,_=>by rw[Jo,Gy];exact⟨rfl,λ_ _=>trivial⟩
 |w,[],_::_,h,_=>h.elim
 |w,_::_,[],h,_=>h.elim
 |0,z::s,t::r,_,_=>by rw[aoD];exact⟨rfl,λ_ h=>by simp[bG]at h⟩
 |w+1,z::s,t::r,⟨L,H⟩,C=>by
  have D:∀t∈r,t.In N:=λx K=>C x (by simp[K]);have p:=Yq B A u w s r H D;rw[Gz];unfold bG;cases L with
   |@var _ x _ c d i g f=>
    have m:=c.oV;rw[jw c,O zB,G d,G g,f];by_cases e:x=v;·rw[G e,G (by rw[e])];exact⟨rfl,λh=>by simp at h⟩
    ·have M:¬φ x=φ v:=λh=>e (A.inj (c.free d) u h);rw[O e,O M];exact⟨p.1,λa b=>⟨.var c d ⟨trivial,e⟩ g f,p.2 a b⟩⟩
   |@leaf _ x _ c d i g f q o=>have m:=c.oV;rw[jw c,O zB,O (by rw[d];exact i),O (by rw[d];exact g),O i,o,Ap];exact⟨p.1,λa b=>⟨.leaf c d i g f q o,p.2 a b⟩⟩
   |@comp _ x _ c d i g f q o=>
    have m:=c.oV;rw[jw c,O zB,O (by rw[d];decide),G d,O (by rw[i];decide)];have F:iU l φ E (λ_=>True) (argsAt x (cellAt l x).n) (ai E t).args:=(NJ f).2 o;have k:=Yq B A u w (argsAt x (cellAt l x).n++s) ((ai E t).args++r) (iU.append H F) (λy j=>by
     rcases iw.1 j with j|j;·exact(oZ B (C t zh)).arg j
     ·exact D y j);refine⟨k.1,λa b=>?_⟩;obtain⟨J,I⟩:=iU.split F.len (k.2 a b);exact⟨.comp c d i g f q ((NJ f).1 J),I⟩
end
def qw(l:List Ce)(φ:Int->Int)(E:Env):List (Int×Int)->List (Tm×Tm)->Prop|[],[]=>True|a::s,t::r=>(Hr l φ E (λ_=>True) a.1 t.1/\Hr l φ E (λ_=>True) a.2 t.2)/\qw l φ E s r|_,_=>False
section
variable {l l' : List Ce} {φ : Int → Int} {E E' : Env} {N : Int}
def qw.imp(h:∀a t,t.In N->Hr l φ E (λ_=>True) a t->Hr l' φ E' (λ_=>True) a t):∀{s:List (Int×Int)}{r:List (Tm×Tm)},(∀p∈r,p.1.In N/\p.2.In N)->qw l φ E s r->qw l' φ E' s r|[],[],_,_=>trivial|a::s,t::r,b,k=>⟨⟨h _ _ (b t zh).1 k.1.1,h _ _ (b t zh).2 k.1.2⟩,qw.imp h (λp c=>b p (by simp[c])) k.2⟩|[],_::_,_,h=>h.elim|_::_,[],_,h=>h.elim
def qw.append{s':List (Int×Int)}{b:List (Tm×Tm)}(c:qw l φ E s' b):∀{s:List (Int×Int)}{r:List (Tm×Tm)},qw l φ E s r->qw l φ E (s++s') (r++b)|[],[],_=>c|a::s,t::r,h=>⟨h.1,qw.append (s:=s) (r:=r) c h.2⟩|[],_::_,h=>h.elim|_::_,[],h=>h.elim
def qw.zip:∀{s s':List Int}{r c:List Tm},iU l φ E (λ_=>True) s r->iU l φ E (λ_=>True) s' c->qw l φ E (s.zip s') (r.zip c)|[],_,[],_,_,_=>by simp[qw]|_::_,[],_::_,[],_,_=>by simp[qw]|a::s,b::s',t::r,u::c,h,d=>⟨⟨h.1,d.1⟩,qw.zip h.2 d.2⟩|[],_,_::_,_,h,_=>h.elim|_::_,_,[],_,h,_=>h.elim|_::_,[],_::_,_::_,_,h=>h.elim|_::_,_::_,_::_,[],_,h=>h.elim
structure Ha (N : Int) (φ : Int → Int) (l : List Ce) (E : Env) (t : List Int) (u : Un) (u' : US) : Prop where
  ok : u.ok = u'.ok
  work : u.work = u'.work
  tells : u.ok = true → ∀ a x, x.In N → Hr l φ E (fun _ => True) a x → Hr u.cells φ u'.env (fun _ => True) a x
  NL : u.ok = true → Mon N u.cells φ u'.env
  trail : u.ok = true → ∃ vs, u.trail = t ++ vs ∧ vs.length + E.length = u'.env.length ∧ ∀ v ∈ vs, iI l v
def Mon.bind(d:Mon N l φ E){v z:Int}{g:Tm}(c:iI l v)(a:z≠v):Mon N (fB l v z) φ (E++[(φ v,g)]):=by refine⟨λx y b i h=>d.lt x y (NH c a b).1 (NH c a i).1 h,λx b=>d.bd x (NH c a b).1,λx b=>?_⟩;obtain⟨f,j⟩:=NH c a b;rw[M6,d.free x f];simp only;rw[O (λe=>j (d.inj f c e.symm))]
def Ha.step{t:List Int}{v z:Int}{f:Tm}{u:Un}{d:US}(g:iI l v)(c:z≠v)(k:∀a x,x.In N->Hr l φ E (λ_=>True) a x->Hr (fB l v z) φ (E++[(φ v,f)]) (λ_=>True) a x)(h:Ha N φ (fB l v z) (E++[(φ v,f)]) (t++[v]) u d):Ha N φ l E t u d:=by
 refine⟨h.ok,h.work,λe a x b j=>h.tells e a x b (k a x b j),h.NL,λe=>?_⟩;obtain⟨i,o,n,m⟩:=h.trail e;refine⟨v::i,by rw[o,Ao];rfl,by rw[<-n];simp;omega,λx b=>?_⟩;rcases jr.1 b with rfl|b;·exact g
 ·exact(NH g c (m x b)).1
def afY:∀(w:Nat)(s:List (Int×Int))(ts:List (Tm×Tm))(l:List Ce)(E:Env)(t:List Int),cu N E->Mon N l φ E->qw l φ E s ts->(∀p∈ts,p.1.In N/\p.2.In N)->Ha N φ l E t (aU w s l t) (aO w ts E):=by
 intro w;induction w using Nat.strongRecOn with
  |_ w ih=>
   intro s ts l E t S A hH hI;match w,s,ts,ih,hH,hI with
    |w,[],[],_,_,_=>rw[Jq,Cu];exact⟨rfl,rfl,λ_ a x _ h=>h,λ_=>A,λ_=>⟨[],zh,zh,zh⟩⟩
    |w,[],_::_,_,h,_=>exact h.elim
    |w,_::_,[],_,h,_=>exact h.elim
    |0,p::s,q::ts,_,_,_=>rw[MI,Jz];exact⟨rfl,rfl,λh=>by simp at h,λh=>by simp at h,λh=>by simp at h⟩
    |w+1,(a,b)::s,(d,c)::ts,ih,⟨⟨ha,hb⟩,hr⟩,hI=>
     have EH:∀p∈ts,p.1.In N/\p.2.In N:=λp hp=>hI p (by simp[hp]);obtain⟨ia,ib⟩:=hI (d,c) zh;simp only at ha hb ia ib;have ihr:=ih w zB s ts l E t S A hr EH;have bnd:∀(v z:Int)(m:Tm)(k:Nat),k<=w->iI l v->Inb l z->Stop l z->z≠v->ai E m=m->m.In N->(m.kind=0->m.n<φ v)->(m.kind=0->jf E m.n=none)->Hr l φ E (λx=>True/\x≠v) z m->Ha N φ l E t (aU k s (fB l v z) (t++[v])) (aO k ts (E++[(φ v,m)])):=λv z m k Q V hz hs hne htz NI M hfz hzz=>by have hE':cu N (E++[(φ v,m)]):=S.snoc (A.bd v V).1 (A.bd v V).2 (A.free v V) NI M;have hBd:∀a x,x.In N->Hr l φ E (λ_=>True) a x->Hr (fB l v z) φ (E++[(φ v,m)]) (λ_=>True) a x:=λa x hx h=>aqj S A hE' V hz hs hne htz (λh1 h2=>by have :=M h1;omega) hfz NI hzz hx h;exact Ha.step V hne hBd (ih k zB s ts _ _ _ hE' (A.bind V hne) (hr.imp hBd EH) EH)
     have Z:∀(v z:Int)(tv m:Tm),iI l v->Hr l φ E (λ_=>True) z m->Looks l z z->(cellAt l z).kind≠0->ai E m=m->m.In N->m.kind≠0->Ha N φ l E t (if(bG l v w [z]).1=true\/(bG l v w [z]).2<0 then⟨false,l,t,(bG l v w [z]).2⟩else aU (min w (bG l v w [z]).2.toNat) s (fB l v z) (t++[v])) (if(dh E (φ v) w [m]).1=true\/(dh E (φ v) w [m]).2<0 then⟨false,E,(dh E (φ v) w [m]).2⟩else aO (min w (dh E (φ v) w [m]).2.toNat) ts (E++[(φ v,m)])):=λv z _ m V hz hzz Q htz hti htk=>by
      obtain⟨q1,q2⟩:=Yq S A V w [z] [m] ⟨hz,trivial⟩ (by simpa using hti);rw[<-q1];split;·exact⟨rfl,rfl,λh=>by simp at h,λh=>by simp at h,λh=>by simp at h⟩
      ·rename_i hn;have q3:=(q2 (by simpa using λh=>hn (.inl h)) zB).1;exact bnd v z m _ zB V hzz.end_.1 hzz.end_.2 (λe=>Q (e▸V.2.1)) htz hti (λh=>absurd h htk) (λh=>absurd h htk) q3
     rw[aU,aO];simp only;have K:=Rz S ia;have J:=Rz S ib;have na:=oZ S ia;have nb:=oZ S ib;have fa:=Gx S ia;have fb:=Gx S ib;cases ha with
      |@var _ x _ r C I W R=>
       have hx0:=r.oV;have L:=r.free C;cases hb with
        |@var _ y _ f i o u B=>
         have D:=f.oV;have H:=f.free i;rw[jw r,jw f,O (show ¬(x<0\/y<0)by omega),G (show(cellAt l x).kind=0/\(cellAt l y).kind=0 from⟨C,i⟩),G (show(ai E d).kind=0/\(ai E c).kind=0 from⟨W,u⟩),R,B];by_cases e:x=y;·rw[G e,G (by rw[e])];exact ihr
         ·have e':¬φ x=φ y:=λh=>e (A.inj L H h);rw[O e,O e'];rcases Int.lt_or_gt_of_ne e with M|M;·have U:=A.lt x y L H M;rw[adL zB,adO zB,adL zB,adO zB];have Q:jf E (fK (φ x)).n=none:=A.free x L;exact bnd y x (fK (φ x)) w (zL _) H L.1 L.stop e (kD (.inr Q)) (.var _ (A.bd x L).1 (A.bd x L).2) (λ_=>U) (λ_=>Q) (.var (.stop L.1 L.stop) C ⟨trivial,e⟩ (by rw[kD (.inr Q)];rfl) (by rw[kD (.inr Q)];rfl))
          ·have U:=A.lt y x H L M;rw[adP zB,adK zB,adP zB,adK zB];have Q:jf E (fK (φ y)).n=none:=A.free y H;exact bnd x y (fK (φ y)) w (zL _) L H.1 H.stop (λh=>e h.symm) (kD (.inr Q)) (.var _ (A.bd y H).1 (A.bd y H).2) (λ_=>U) (λ_=>Q) (.var (.stop H.1 H.stop) i ⟨trivial,λh=>e h.symm⟩ (by rw[kD (.inr Q)];rfl) (by rw[kD (.inr Q)];rfl))
        |@leaf _ y _ f i o u B T Y=>
         have D:=f.oV;have g:(cellAt l y).kind≠0:=by rw[i];exact o
         rw[jw r,jw f,O (show ¬(x<0\/y<0)by omega),O (show ¬((cellAt l x).kind=0/\(cellAt l y).kind=0)fromλh=>g h.2),O (show ¬((ai E d).kind=0/\(ai E c).kind=0)fromλh=>o h.2),G (show(cellAt l x).kind=0\/(cellAt l y).kind=0 from .inl C),G (show(ai E d).kind=0\/(ai E c).kind=0 from .inl W),O g,O g,O o,O o,R];exact Z x y d (ai E c) L (.leaf (.stop f.end_.1 f.end_.2) (by rw[J];exact i) (by rw[J];exact o) (by rw[J];exact u) (by rw[J];exact B) (by rw[J];exact T) (by rw[J];exact Y)) (.stop f.end_.1 f.end_.2) g J nb o
        |@comp _ y _ f i o u B T Y=>
         have D:=f.oV;have g:(cellAt l y).kind≠0:=by rw[i];decide
         have F:(ai E c).kind≠0:=by rw[o];decide
         rw[jw r,jw f,O (show ¬(x<0\/y<0)by omega),O (show ¬((cellAt l x).kind=0/\(cellAt l y).kind=0)fromλh=>g h.2),O (show ¬((ai E d).kind=0/\(ai E c).kind=0)fromλh=>F h.2),G (show(cellAt l x).kind=0\/(cellAt l y).kind=0 from .inl C),G (show(ai E d).kind=0\/(ai E c).kind=0 from .inl W),O g,O g,O F,O F,R];exact Z x y d (ai E c) L (.comp (.stop f.end_.1 f.end_.2) i (by rw[J];exact o) (by rw[J];exact u) (by rw[J];exact B) (by rw[J];exact T) (by rw[J];exact Y)) (.stop f.end_.1 f.end_.2) g J nb F
      |@leaf _ x _ r C I W R a6 a7=>
       have hx0:=r.oV;have j:(cellAt l x).kind≠0:=by rw[C];exact I
       have hxl:(cellAt l x).kind≠3:=by rw[C];exact W
       cases hb with
        |@var _ y _ f i o u B=>have D:=f.oV;have H:=f.free i;rw[jw r,jw f,O (show ¬(x<0\/y<0)by omega),O (show ¬((cellAt l x).kind=0/\(cellAt l y).kind=0)fromλh=>j h.1),O (show ¬((ai E d).kind=0/\(ai E c).kind=0)fromλh=>I h.1),G (show(cellAt l x).kind=0\/(cellAt l y).kind=0 from .inr i),G (show(ai E d).kind=0\/(ai E c).kind=0 from .inr u),G i,G i,G u,G u,B];exact Z y x c (ai E d) H (.leaf (.stop r.end_.1 r.end_.2) (by rw[K];exact C) (by rw[K];exact I) (by rw[K];exact W) (by rw[K];exact R) (by rw[K];exact a6) (by rw[K];exact a7)) (.stop r.end_.1 r.end_.2) j K na I
        |@leaf _ y _ f i o u B T Y=>
         have D:=f.oV;have g:(cellAt l y).kind≠0:=by rw[i];exact o
         rw[jw r,jw f,O (show ¬(x<0\/y<0)by omega),O (show ¬((cellAt l x).kind=0/\(cellAt l y).kind=0)fromλh=>j h.1),O (show ¬((ai E d).kind=0/\(ai E c).kind=0)fromλh=>I h.1),O (show ¬((cellAt l x).kind=0\/(cellAt l y).kind=0)fromλh=>h.elim j g),O (show ¬((ai E d).kind=0\/(ai E c).kind=0)fromλh=>h.elim I o)];by_cases e:cellAt l x=cellAt l y;·rw[O (show ¬(cellAt l x≠cellAt l y)fromλh=>h e),O (show ¬(¬((ai E d).kind=(ai E c).kind/\(ai E d).n=(ai E c).n/\(ai E d).s=(ai E c).s/\(ai E d).args.length=(ai E c).args.length))fromλh=>h ⟨by rw[<-C,<-i,e],by rw[<-R,<-B,e],by rw[<-a6,<-T,e],by rw[a7,Y]⟩),O hxl,a7,List.zip_nil_left,Ap];exact ihr
         ·rw[G (show cellAt l x≠cellAt l y from e),G (show ¬((ai E d).kind=(ai E c).kind/\(ai E d).n=(ai E c).n/\(ai E d).s=(ai E c).s/\(ai E d).args.length=(ai E c).args.length)fromλh=>e (by obtain⟨h1,h2,X, -⟩:=h;rw[<-C,<-i]at h1;rw[<-R,<-B]at h2;rw[<-a6,<-T]at X;cases hcx:cellAt l x;cases hcy:cellAt l y;rw[hcx,hcy]at h1 h2 X;simp only at h1 h2 X;rw[h1,h2,X]))];exact⟨rfl,rfl,λh=>by simp at h,λh=>by simp at h,λh=>by simp at h⟩
        |@comp _ y _ f i o u B T Y=>
         have D:=f.oV;have g:(cellAt l y).kind≠0:=by rw[i];decide
         have F:(ai E c).kind≠0:=by rw[o];decide
         rw[jw r,jw f,O (show ¬(x<0\/y<0)by omega),O (show ¬((cellAt l x).kind=0/\(cellAt l y).kind=0)fromλh=>j h.1),O (show ¬((ai E d).kind=0/\(ai E c).kind=0)fromλh=>I h.1),O (show ¬((cellAt l x).kind=0\/(cellAt l y).kind=0)fromλh=>h.elim j g),O (show ¬((ai E d).kind=0\/(ai E c).kind=0)fromλh=>h.elim I F),G (show cellAt l x≠cellAt l y fromλh=>hxl (by rw[h];exact i)),G (show ¬((ai E d).kind=(ai E c).kind/\(ai E d).n=(ai E c).n/\(ai E d).s=(ai E c).s/\(ai E d).args.length=(ai E c).args.length)fromλh=>W (h.1.trans o))];exact⟨rfl,rfl,λh=>by simp at h,λh=>by simp at h,λh=>by simp at h⟩
      |@comp _ x _ r C I W R a6 a7=>
       have hx0:=r.oV;have j:(cellAt l x).kind≠0:=by rw[C];decide
       have P:(ai E d).kind≠0:=by rw[I];decide
       cases hb with
        |@var _ y _ f i o u B=>have D:=f.oV;have H:=f.free i;rw[jw r,jw f,O (show ¬(x<0\/y<0)by omega),O (show ¬((cellAt l x).kind=0/\(cellAt l y).kind=0)fromλh=>j h.1),O (show ¬((ai E d).kind=0/\(ai E c).kind=0)fromλh=>P h.1),G (show(cellAt l x).kind=0\/(cellAt l y).kind=0 from .inr i),G (show(ai E d).kind=0\/(ai E c).kind=0 from .inr u),G i,G i,G u,G u,B];exact Z y x c (ai E d) H (.comp (.stop r.end_.1 r.end_.2) C (by rw[K];exact I) (by rw[K];exact W) (by rw[K];exact R) (by rw[K];exact a6) (by rw[K];exact a7)) (.stop r.end_.1 r.end_.2) j K na P
        |@leaf _ y _ f i o u B T Y=>
         have D:=f.oV;have g:(cellAt l y).kind≠0:=by rw[i];exact o
         rw[jw r,jw f,O (show ¬(x<0\/y<0)by omega),O (show ¬((cellAt l x).kind=0/\(cellAt l y).kind=0)fromλh=>j h.1),O (show ¬((ai E d).kind=0/\(ai E c).kind=0)fromλh=>P h.1),O (show ¬((cellAt l x).kind=0\/(cellAt l y).kind=0)fromλh=>h.elim j g),O (show ¬((ai E d).kind=0\/(ai E c).kind=0)fromλh=>h.elim P o),G (show cellAt l x≠cellAt l y fromλh=>u (by rw[<-i,<-h];exact C)),G (show ¬((ai E d).kind=(ai E c).kind/\(ai E d).n=(ai E c).n/\(ai E d).s=(ai E c).s/\(ai E d).args.length=(ai E c).args.length)fromλh=>u (by rw[<-h.1];exact I))];exact⟨rfl,rfl,λh=>by simp at h,λh=>by simp at h,λh=>by simp at h⟩
        |@comp _ y _ f i o u B T Y=>
         have D:=f.oV;have g:(cellAt l y).kind≠0:=by rw[i];decide
         have F:(ai E c).kind≠0:=by rw[o];decide
         rw[jw r,jw f,O (show ¬(x<0\/y<0)by omega),O (show ¬((cellAt l x).kind=0/\(cellAt l y).kind=0)fromλh=>j h.1),O (show ¬((ai E d).kind=0/\(ai E c).kind=0)fromλh=>P h.1),O (show ¬((cellAt l x).kind=0\/(cellAt l y).kind=0)fromλh=>h.elim j g),O (show ¬((ai E d).kind=0\/(ai E c).kind=0)fromλh=>h.elim P F)];by_cases e:cellAt l x=cellAt l y
         ·have hl:(ai E d).args.length=(ai E c).args.length:=by have :=congrArg Ce.n e;rw[R,B]at this;omega
          rw[O (show ¬(cellAt l x≠cellAt l y)fromλh=>h e),O (show ¬(¬((ai E d).kind=(ai E c).kind/\(ai E d).n=(ai E c).n/\(ai E d).s=(ai E c).s/\(ai E d).args.length=(ai E c).args.length))fromλh=>h ⟨by rw[I,o],by rw[W,u],by rw[<-a6,<-T,e],hl⟩),G C];have h1:iU l φ E (λ_=>True) (argsAt x (cellAt l x).n) (ai E d).args:=(NJ R).2 a7;have h2:iU l φ E (λ_=>True) (argsAt y (cellAt l x).n) (ai E c).args:=(NJ (by rw[e];exact B)).2 Y;exact ih w zB _ _ l E t S A (qw.append hr (qw.zip h1 h2)) (λp hp=>by
           rcases iw.1 hp with hp|hp;·have :=anj hp;exact⟨na.arg this.1,nb.arg this.2⟩
           ·exact EH p hp)
         ·rw[G (show cellAt l x≠cellAt l y from e),G (show ¬((ai E d).kind=(ai E c).kind/\(ai E d).n=(ai E c).n/\(ai E d).s=(ai E c).s/\(ai E d).args.length=(ai E c).args.length)fromλh=>e (by
           obtain⟨h1,h2,X,h4⟩:=h;rw[<-a6,<-T]at X;have h5:(cellAt l x).n=(cellAt l y).n:=by rw[R,B,h4]
           have h6:(cellAt l x).kind=(cellAt l y).kind:=by rw[C,i]
           cases hcx:cellAt l x;cases hcy:cellAt l y;rw[hcx,hcy]at X h5 h6;simp only at X h5 h6;rw[X,h5,h6]))];exact⟨rfl,rfl,λh=>by simp at h,λh=>by simp at h,λh=>by simp at h⟩
end
