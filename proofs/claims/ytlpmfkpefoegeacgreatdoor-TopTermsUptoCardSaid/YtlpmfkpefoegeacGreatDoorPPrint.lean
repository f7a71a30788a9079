import Derived.Test.YtlpmfkpefoegeacGreatDoorPNum
import Derived.Carry
import Derived.Lib.ItoaLen
namespace Go.Proofs.YtlpmfkpefoegeacGreatDoor
set_option maxRecDepth 99999
set_option maxHeartbeats 0
set_option linter.all false
def aeO{f:Rd->Tm×Rd}(a:∀r,(f r).1.nodes+(f r).2.s.length<=r.s.length+1):∀(k:Nat)(l:List Tm)(r:Rd),Tm.aC (jK f k l r).1+(jK f k l r).2.s.length<=Tm.aC l+r.s.length+1
 |0,l,r=>by rw[jK];simp only;omega
 |k+1,l,r=>by
  rw[jK];have g:=a r;have b:=at_len (sg:=[44]) (f r).2;have e:Tm.aC (l++[(f r).1])=Tm.aC l+(f r).1.nodes:=by rw[Tm.Jn];simp[Tm.aC]
  split;·simp only;omega
  ·split;·rename_i c;have d:=b.2 c;simp only[dZ]at d;have :=aeO a k (l++[(f r).1]) ((f r).2.at_ [44]).2;omega
   ·simp only;have :=b.1;omega
def aot{f:Rd->Tm×Rd}(b:∀r,(f r).1.nodes+(f r).2.s.length<=r.s.length+1)(w:Str)(r:Rd):(Ea f w r).1.nodes+(Ea f w r).2.s.length<=r.s.length+1:=by
 unfold Ea;have a:=at_len (sg:=[40]) r;split;·have :=a.1;simp only[Tm.nodes,Tm.aC];omega
 ·rename_i c;have e:=a.2 (by simpa using c);simp only[dZ]at e;simp only;have d:=aeO b ((r.at_ [40]).2.s.length+1) [] (r.at_ [40]).2;have g:=(at_len (sg:=[41]) (jK f ((r.at_ [40]).2.s.length+1) [] (r.at_ [40]).2).2).1;simp only[Tm.aC]at d;simp only[Tm.nodes];split;·omega
  ·simp only[Rd.kill];omega
def aou{f:Rd->Tm×Rd}(a:∀r,(f r).1.nodes+(f r).2.s.length<=r.s.length+1)(c:UInt8)(rest:Str)(vars:List Str):(Eb f c rest vars).1.nodes+(Eb f c rest vars).2.s.length<=rest.length+2:=by
 unfold Eb;split;·have :=Jj (dB (c::rest)) (c::rest);simp only[bn]at this;simp only[Tm.nodes,Tm.aC];omega
 ·split;·simp only[Tm.nodes,Tm.aC];omega
  ·split
   ·split;·have :=Jj (ed (c::rest)) (c::rest);simp only[bn]at this;simp only[Tm.nodes,Tm.aC];omega
    ·simp only[Tm.nodes,Tm.aC,bn];omega
   ·have d:=aot a ((c::rest).take (dB (c::rest))) ⟨(c::rest).drop (dB (c::rest)),vars,false⟩;have b:=Jj (dB (c::rest)) (c::rest);simp only[bn]at d b;omega
def Xr:∀(n:Nat)(r:Rd),(cz n r).1.nodes+(cz n r).2.s.length<=r.s.length+1
 |0,r=>by have :=Ar r.s;simp only[cz,xk,Tm.nodes,Tm.aC,Rd.kill,Rd.space];omega
 |n+1,r=>by
  have d:=Ar r.s;have b:(xk,r.space.kill).1.nodes+(xk,r.space.kill).2.s.length<=r.s.length+1:=by simp only[xk,Tm.nodes,Tm.aC,Rd.kill,Rd.space];omega
  unfold cz;split;·exact b
  ·split;·exact b
   ·rename_i c a e;have :=aou (Xr n) c a r.vars;rw[e]at d;simp only[bn]at d;omega
def aeP{f:Rd->Tm×Rd}(a:∀r,(f r).1.nodes+(f r).2.s.length<=r.s.length+1):∀(k:Nat)(l:List Tm)(r:Rd),Tm.aC (jA f k l r).1+(jA f k l r).2.s.length<=Tm.aC l+r.s.length+1
 |0,l,r=>by rw[jA];simp only;omega
 |k+1,l,r=>by
  rw[jA];have g:=a r;have b:=at_len (sg:=[44]) (f r).2;have e:Tm.aC (l++[(f r).1])=Tm.aC l+(f r).1.nodes:=by rw[Tm.Jn];simp[Tm.aC]
  split;·simp only;omega
  ·split;·rename_i c;have d:=b.2 c;simp only[dZ]at d;have :=aeP a k (l++[(f r).1]) ((f r).2.at_ [44]).2;omega
   ·simp only;have :=b.1;omega
def Xt(r:Rd):Tm.aC (gD r).1+(gD r).2.s.length<=r.s.length+1:=by unfold gD;have a:=aeP (Xr 24) (r.s.length+1) [] r;have b:=(Rk (sg:=[46]) (jA (cz 24) (r.s.length+1) [] r).2).1;simp only[Tm.aC]at a ⊢;omega
def aeQ(r:Rd):(fI r).1.nodes+(fI r).2.s.length<=r.s.length+1/\((fI r).2.bad=false->(fI r).1.nodes+(fI r).2.s.length<=r.s.length):=by
 unfold fI;simp only;have e:=Xr 24 {r with vars:=[]};generalize cz 24 {r with vars:=[]}=X at*;have c:=at_len (sg:=[58,45]) X.2;simp only at e;split;·rename_i d;have a:=Xt (X.2.at_ [58,45]).2;have b:=c.2 d;simp only[bn,fT]at b;simp only[Cl.nodes];exact⟨zB,λ_=>zB⟩
 ·have a:=Rk (sg:=[46]) (X.2.at_ [58,45]).2;have b:=c.1;simp only[bn,fT]at a;simp only[Cl.nodes,Tm.aC];exact⟨by have :=a.1;omega,λh=>by have :=a.2 h;omega⟩
def aov(l:List Cl)(c:Cl):mR (l++[c])=mR l+c.nodes:=by induction l with|nil=>simp[mR]|cons x r b=>rw[oO,mR,mR,b];omega
def aeR:∀(k:Nat)(l:List Cl)(r:Rd)(a:List Cl),lL k l r=some a->mR a<=mR l+r.s.length
 |0,l,r,a,h=>by rw[lL]at h;simp only[bW]at h;subst h;omega
 |k+1,l,r,a,h=>by
  rw[lL]at h;split at h;·simp only[bW]at h;subst h;omega
  ·split at h;·cases h
   ·rename_i d;have b:(fI r.space).2.bad=false:=by
     by_cases c:(fI r.space).2.bad=true;·exact absurd (.inl c) d
     ·simpa using c
    have e:=aeR k _ _ _ h;have g:=(aeQ r.space).2 b;have f:r.space.s.length<=r.s.length:=Ar _;rw[aov]at e;omega
def aeS(s:Str):mR (gF s).1<=2000:=by
 unfold gF;split;·simp[mR]
 ·cases h:lL (s.length+1) [] ⟨s,[],false⟩with
   |none=>simp[Ej,mR]
   |some l=>
    have :=aeR _ _ _ _ h;simp only[mR]at this;unfold Ej;simp only;split;·simp[mR]
    ·simp only;omega
def aeT(s:Str):Tm.aC (dI s).1<=2001:=by
 unfold dI;split;·simp[Tm.aC]
 ·have :=Xt ⟨s,[],false⟩;split;·simp[Tm.aC]
  ·simp only at this ⊢;omega
def aow{s:Str}(h:(dI s).2.2=0):iJ (dI s).1 (dI s).2.1:=by
 unfold dI at h ⊢;split at h;·simp at h
 ·rename_i b;rw[O b];split at h;·simp at h
  ·rename_i a;rw[O a];exact DY λh9=>a (.inr (.inr h9))
def aox(s:Str):(gF s).2=0\/((gF s).1=[]/\((gF s).2=1\/(gF s).2=3)):=by
 unfold gF;split;·exact .inr ⟨rfl,.inr rfl⟩
 ·cases lL (s.length+1) [] ⟨s,[],false⟩with
   |none=>exact .inr ⟨rfl,.inl rfl⟩
   |some l=>
    unfold Ej;simp only;split;·exact .inr ⟨rfl,.inr rfl⟩
    ·exact .inl rfl
def aeU(s:Str):(dI s).2.2=0\/((dI s).1=[]/\(dI s).2.1=0/\((dI s).2.2=1\/(dI s).2.2=3)):=by
 unfold dI;split;·exact .inr ⟨rfl,rfl,.inr rfl⟩
 ·split;·exact .inr ⟨rfl,rfl,.inl rfl⟩
  ·exact .inl rfl
open Go.RowKit
def qi(w:World)(r:Nat)(L:List (Int×Value)):Prop:=∃b a,w.heap[r]?=some (.map b a)/\b.toList.map (λe=>(e.key,e.val))=L.map (λp=>(Value.int .i64 p.1,p.2))
def qi.lt{w:World}{r:Nat}{L:List (Int×Value)}(h:qi w r L):r<w:=by obtain⟨b,a,h,_⟩:=h;exact ax h
def qi.keeps{A:Nat->Prop}{w w':World}{r:Nat}{L:List (Int×Value)}(h:qi w r L)(b:J A w w')(c:A r):qi w' r L:=by obtain⟨f,a,e,d⟩:=h;exact⟨f,a,bJ e b c,d⟩
def qi.made(w:World):qi (w.alloc (.map #[] 0)) w []:=⟨#[],0,bq _ _,rfl⟩
def sU(L:List (Int×Value))(n:Int):Option Value:=(L.find? (λp=>p.1==n)).map (·.2)
def Rv(n:Int):∀(a:List MapEntry)(L:List (Int×Value))(i:Nat),a.map (λe=>(e.key,e.val))=L.map (λp=>(Value.int .i64 p.1,p.2))->∃r,Instr.findNow (.int .i64) ↑n a i=some r/\r.map (·.2)=sU L n/\(∀k x,r=some (k,x)->i<=k/\(∃e,a[k - i]?=some e/\e.key= ↑n)/\∀j,j<k - i->∀p,L[j]?=some p->p.1≠n)
 |[],L,i,h=>by
  have :L=[]:=by simpa using h.symm
  subst this;exact⟨none,rfl,rfl,λk x h=>by cases h⟩
 |e::a,[],i,h=>by simp at h
 |e::a,p::L,i,h=>by
  simp only[sH,sF,gI]at h;obtain⟨⟨d,m⟩,o⟩:=h;by_cases f:n=p.1
  ·subst f;refine⟨some (i,e.val),?_,?_,?_⟩;·simp[Instr.findNow,Instr.sameNow,d]
   ·simp[sU,m]
   ·intro k x h;simp only[bW,gI]at h;obtain⟨rfl,rfl⟩:=h;exact⟨zL _,⟨e,zh,d⟩,λj s=>zB⟩
  ·obtain⟨r,A,z,y⟩:=Rv n a L (i+1) o;refine⟨r,?_,?_,?_⟩
   ·rw[Instr.findNow,d];have t:(n==p.1)=false:=by simpa using f
    simp[Instr.sameNow,t,A]
   ·rw[z];have :(p.1==n)=false:=by simp;omega
    simp[sU,this]
   ·intro k x h;obtain⟨C,⟨B,w,v⟩,u⟩:=y k x h;refine⟨zB,⟨B,?_,v⟩,λj s q c=>?_⟩;·rw[show k - i=(k - (i+1))+1 by omega];simpa using w
    ·cases j with|zero=>simp at c;subst c;omega|succ j=>exact u j zB q (by simpa using c)
def Rw(P:Program)(t e:TypeId)(z:Value):Prop:=∃k,P.underlying t=some (.map k e)/\P.underlying k=some (.int .i64)/\∀w,(zeroValue e).run P w= .ok z w
section
variable {P : Program} {t e : TypeId} {z : Value} {w : World} {r : Nat} {L : List (Int × Value)} {n : Int}
def run_findKey(k:TypeId)(b:P.underlying k=some (.int .i64))(a:List MapEntry)(x:Option (Nat×Value))(h:Instr.findNow (.int .i64) ↑n a 0=some x):(Instr.findKey k ↑n a).run P w= .ok x w:=by simp[Instr.findKey,Jf b,h]
def run_checkKey(k:TypeId)(a:P.underlying k=some (.int .i64))(b:Bool):(Instr.checkKey b 10000 k ↑n).run P w= .ok () w:=by rw[show(10000:Nat)=9999+1 from rfl,Instr.checkKey];simp[Jf a]
def aeV(d:Rw P t e z)(h:qi w r L):(Instr.lookup t (.map (some r)) ↑n true).run P w= .ok (.tuple #[(sU L n).getD z,.bool (sU L n).isSome]) w:=by obtain⟨k,i,j,q⟩:=d;obtain⟨c,g,o,v⟩:=h;obtain⟨x,u,s, -⟩:=Rv n c.toList L 0 v;have m:=run_findKey (P:=P) (w:=w) k j c.toList x u;have l:=run_checkKey (P:=P) (w:=w) (n:=n) k j c.isEmpty;rw[<-s];cases x with|none=>simp[Instr.lookup,Jf i,getObj,Sem.run,o,m,l,q]|some p=>simp[Instr.lookup,Jf i,getObj,Sem.run,o,m,l]
def aoy(d:Rw P t e z)(h:qi w r L)(p:sU L n=none)(v:Value):∃w',(Instr.mapUpdate t (.map (some r)) ↑n v).run P w= .ok () w'/\qi w' r (L++[(n,v)])/\Ch (λb=>b=r) w w'/\w'.heap.size=w.heap.size:=by
 obtain⟨k,o,i,A⟩:=d;obtain⟨c,a,l,j⟩:=h;obtain⟨x,y,u, -⟩:=Rv n c.toList L 0 j;rw[p]at u;have m:x=none:=by cases x<;>simp_all
 subst m;have s:=run_findKey (P:=P) (w:=w) k i c.toList none y;have q:=run_checkKey (P:=P) (w:=w) (n:=n) k i false;have g:=ax l;refine⟨{w with heap:=w.heap.setIfInBounds r (.map (c.push {key:= ↑n,val:=v,born:=a}) (a+1))},?_,⟨c.push {key:= ↑n,val:=v,born:=a},a+1,?_,?_⟩,⟨rfl,rfl,rfl,zh,λb B f=>?_⟩,zh⟩;·simp[Instr.mapUpdate,Jf o,getObj,setObj,Sem.run,l,s,q]
 ·simp[g]
 ·simp[j]
 ·rw[BS (sJ f)]
end
def aL(st:List Int)(n:Int):Int×List Int:=if n∈st then((st.idxOf n:Nat),st)else((st.length:Nat),st++[n])
def aeW(st:List Int)(n:Int):(aL st n).2.length<=st.length+1:=by unfold aL;split<;>simp
def aeX{k:Nat}(h:k<=4194304):ah (k:Int):=by unfold ah;omega
def tidy(l:List Tm):List Tm:=(Tm.aZ aL [] l).1
namespace Tm
inductive Vars (p : Int → Prop) : Tm → Prop where
  | mk (k n : Int) (s : ByteArray) (l : List Tm) (h : k = 0 → p n) (hl : ∀ t ∈ l, Vars p t) : Vars p (mk k n s l)
end Tm
section
variable {p : Int → Prop} {g : Int → Int}
def aeY(f:∀a b,p a->p b->g a=g b->a=b){st:List Int}(c:∀x∈st,p x){n:Int}(e:p n):g n∈st.map g↔n∈st:=by
 constructor;·intro h;obtain⟨x,d,i⟩:=iZ.1 h;rw[f n x e (c x d) i.symm];exact d
 ·exactλh=>iZ.2 ⟨n,h,rfl⟩
def aeZ(f:∀a b,p a->p b->g a=g b->a=b){n:Int}(d:p n):∀{st:List Int},(∀x∈st,p x)->(st.map g).idxOf (g n)=st.idxOf n
 |[],_=>rfl
 |x::st,c=>by
  have i:=aeZ f d (st:=st) (λy j=>c y (sD _ j));by_cases h:x=n;·subst h;simp
  ·have m:¬g x=g n:=λe=>h (f x n (c x (rA ..)) d e);simp only[sH,anl,i];have l:(x==n)=false:=by simpa using h
   have k:(g x==g n)=false:=by simpa using m
   rw[l,k]
def aoz(i:∀a b,p a->p b->g a=g b->a=b){st:List Int}(c:∀x∈st,p x){n:Int}(f:p n):aL (st.map g) (g n)=((aL st n).1,(aL st n).2.map g)/\∀x∈(aL st n).2,p x:=by
 by_cases h:n∈st;·have j:=(aeY i c f).2 h;simp only[aL,h,if_true,j,aeZ i f c];exact⟨trivial,c⟩
 ·have j:¬g n∈st.map g:=λe=>h ((aeY i c f).1 e);simp only[aL,h,if_false,j,nR,qF,sH,D8];refine⟨trivial,λx d=>?_⟩;rcases iw.1 d with d|d;·exact c x d
  ·simp only[iX]at d;subst d;exact f
def aoA(B:∀a b,p a->p b->g a=g b->a=b):∀(t:Tm)(st:List Int),t.Vars p->(∀x∈st,p x)->(t.ren g).cZ aL (st.map g)=((t.cZ aL st).1,(t.cZ aL st).2.map g)/\∀x∈(t.cZ aL st).2,p x:=by
 intro t;induction t using Tm.induct with
  |h k n s l u=>
   intro st v c;obtain⟨_,_,_,_,y,A⟩:=v;have z:Tm.num aL (st.map g) k (if k=0 then g n else n)=((Tm.num aL st k n).1,(Tm.num aL st k n).2.map g)/\∀x∈(Tm.num aL st k n).2,p x:=by
    unfold Tm.num;by_cases e:k=0;·simp only[e,if_true];exact aoz B c (y e)
    ·simp only[e,if_false];exact⟨trivial,c⟩
   have C:∀(r:List Tm),(∀t∈r,t∈l)->∀st:List Int,(∀x∈st,p x)->Tm.aZ aL (st.map g) (Tm.uE g r)=((Tm.aZ aL st r).1,(Tm.aZ aL st r).2.map g)/\∀x∈(Tm.aZ aL st r).2,p x:=by intro r;induction r with|nil=>intro _ st c;exact⟨rfl,c⟩|cons x r o=>intro d st c;obtain⟨m,j⟩:=u x (d x (rA ..)) st (A x (d x (rA ..))) c;obtain⟨i,f⟩:=o (λt w=>d t (sD _ w)) (x.cZ aL st).2 j;simp only[Tm.uE,Tm.aZ,m,i];exact⟨trivial,f⟩
   obtain⟨m,j⟩:=z;obtain⟨i,f⟩:=C l (λ_ h=>h) _ j;simp only[Tm.ren,Tm.cZ,m,i];exact⟨trivial,f⟩
def aoB(i:∀a b,p a->p b->g a=g b->a=b)(l:List Tm):∀(st:List Int),(∀t∈l,t.Vars p)->(∀x∈st,p x)->Tm.aZ aL (st.map g) (l.map (Tm.ren g))=((Tm.aZ aL st l).1,(Tm.aZ aL st l).2.map g):=by induction l with|nil=>intro st _ _;rfl|cons x r c=>intro st e d;obtain⟨k,j⟩:=aoA i x st (e x (rA ..)) d;simp only[sH,Tm.aZ,k,c _ (λt h=>e t (sD _ h)) j]
def aoC(e:∀a b,p a->p b->g a=g b->a=b)(l:List Tm)(d:∀t∈l,t.Vars p):tidy (l.map (Tm.ren g))=tidy l:=by unfold tidy;rw[show([]:List Int)=([]:List Int).map g from rfl,aoB e l [] d (λx c=>by cases c)];rfl
end
abbrev Env:=List (Int×Tm)
def jf(E:Env)(n:Int):Option Tm:=(E.find? λp=>p.1==n).map (·.2)
def Xu{E:Env}{n:Int}:jf E n=none↔∀p∈E,p.1≠n:=by unfold jf;rw[Option.map_eq_none_iff,List.find?_eq_none];simp
def M5{E:Env}{n:Int}{t:Tm}(h:jf E n=some t):(n,t)∈E:=by unfold jf at h;rw[amS]at h;obtain⟨p,b,rfl⟩:=h;have a:=List.find?_some b;have c:=List.mem_of_find?_eq_some b;simp only[rE]at a;rw[<-a];exact c
def M6{E:Env}{v n:Int}{t:Tm}:jf (E++[(v,t)]) n=match jf E n with|some x=>some x|none=>if v=n then some t else none:=by unfold jf;rw[List.find?_append];cases h:E.find? (λp=>p.1==n)with|some p=>simp|none=>by_cases e:v=n<;>simp[e]
def kT(E:Env):Nat->Tm->Tm|0,t=>t|k+1,t=>if t.kind=0 then(match jf E t.n with|none=>t|some x=>kT E k x)else t
def ai(E:Env)(t:Tm):Tm:=kT E (t.n.toNat+1) t
abbrev Tm.In(N:Int)(t:Tm):Prop:=t.Good N
def Tm.In.n{N:Int}{t:Tm}(h:t.In N)(hk:t.kind=0):0<=t.n/\t.n<N:=by cases h with|var n e d=>exact⟨e,d⟩|atom=>cases hk|int=>cases hk|comp=>cases hk
def Tm.In.arg{N:Int}{t:Tm}(h:t.In N){x:Tm}(hx:x∈t.args):x.In N:=by cases h with|var=>cases hx|atom=>cases hx|int=>cases hx|comp _ _ _ _ _ _ d=>exact d x hx
def Tm.In.mono{N N':Int}{t:Tm}(h:t.In N)(k:N<=N'):t.In N':=by induction h with|var n b h1=>exact .var n b zB|atom s h=>exact .atom s h|int n b h1=>exact .int n b h1|comp s l h h1 g f _ e=>exact .comp s l h h1 g f e
structure cu (N : Int) (E : Env) : Prop where
  key : ∀ p ∈ E, 0 ≤ p.1 ∧ p.1 < N
  tm : ∀ p ∈ E, p.2.In N
  less : ∀ p ∈ E, p.2.kind = 0 → p.2.n < p.1
  nodup : (E.map (·.1)).Nodup
def cu.nil(N:Int):cu N []:=⟨zh,zh,zh,zh⟩
def cu.mono{N N':Int}{E:Env}(h:cu N E)(b:N<=N'):cu N' E:=⟨λp a=>⟨(h.key p a).1,by have :=(h.key p a).2;omega⟩,λp a=>(h.tm p a).mono b,h.less,h.nodup⟩
def cu.take{N:Int}{E:Env}(h:cu N E)(k:Nat):cu N (E.take k):=⟨λp a=>h.key p (QP a),λp a=>h.tm p (QP a),λp a=>h.less p (QP a),by rw[List.map_take];exact h.nodup.sublist (List.take_sublist _ _)⟩
def cu.snoc{N:Int}{E:Env}(h:cu N E){v:Int}{t:Tm}(j:0<=v)(i:v<N)(e:jf E v=none)(ht:t.In N)(f:t.kind=0->t.n<v):cu N (E++[(v,t)]):=by
 refine⟨λp c=>?_,λp c=>?_,λp c=>?_,?_⟩
 ·rcases iw.1 c with c|c;·exact h.key p c
  ·simp only[iX]at c;subst c;exact⟨j,i⟩
 ·rcases iw.1 c with c|c;·exact h.tm p c
  ·simp only[iX]at c;subst c;exact ht
 ·rcases iw.1 c with c|c;·exact h.less p c
  ·simp only[iX]at c;subst c;exact f
 ·rw[qF,am9];refine⟨h.nodup,zh,λa g b d=>?_⟩;simp only[sH,D8,iX]at d;subst d;obtain⟨p,c,rfl⟩:=iZ.1 g;exact Xu.1 e p c
section
variable {N : Int} {E : Env}
def Rx(h:cu N E):∀(k:Nat)(t:Tm),t.In N->t.n.toNat<k->((kT E k t).kind=0->jf E (kT E k t).n=none)/\(kT E k t).In N/\∀k',t.n.toNat<k'->kT E k' t=kT E k t
 |0,t,g,r=>by omega
 |k+1,t,g,r=>by
  by_cases e:t.kind=0
  ·cases c:jf E t.n with
    |none=>refine⟨by simp[kT,e,c],by simpa[kT,e,c]using g,λk' d=>?_⟩;cases k' with|zero=>omega|succ k'=>simp[kT,e,c]
    |some x=>
     have m:=M5 c;have j:x.In N:=h.tm _ m;have u:=g.n e;by_cases i:x.kind=0;·have v:x.n<t.n:=h.less _ m i;have s:=j.n i;obtain⟨q,p,o⟩:=Rx h k x j zB;refine⟨by simpa[kT,e,c]using q,by simpa[kT,e,c]using p,λk' d=>?_⟩;cases k' with|zero=>omega|succ k'=>simp only[kT,e,c,if_true];exact o k' zB
     ·have l:∀k,kT E k x=x:=λk=>by cases k<;>simp[kT,i]
      refine⟨by simp[kT,e,c,l,i],by simpa[kT,e,c,l]using j,λk' d=>?_⟩;cases k' with|zero=>omega|succ k'=>simp[kT,e,c,l]
  ·refine⟨by simp[kT,e],by simpa[kT,e]using g,λk' d=>?_⟩;cases k' with|zero=>omega|succ k'=>simp[kT,e]
def Gx(h:cu N E){t:Tm}(ht:t.In N)(a:(ai E t).kind=0):jf E (ai E t).n=none:=(Rx h _ t ht (Wu _)).1 a
def oZ(h:cu N E){t:Tm}(ht:t.In N):(ai E t).In N:=(Rx h _ t ht (Wu _)).2.1
def Ry(h:cu N E){t x:Tm}(ht:t.In N)(e:t.kind=0)(c:jf E t.n=some x):ai E t=ai E x:=by
 have d:=M5 c;have a:x.In N:=h.tm _ d;have i:=ht.n e;unfold ai;rw[kT,G e,c];by_cases b:x.kind=0;·have j:x.n<t.n:=h.less _ d b;have g:=a.n b;exact(Rx h _ x a (Wu _)).2.2 _ zB
 ·have f:∀k,kT E k x=x:=λk=>by cases k<;>simp[kT,b]
  simp only[f]
def kD{t:Tm}(h:t.kind≠0\/jf E t.n=none):ai E t=t:=by
 unfold ai;rw[kT];split
 ·rename_i a;rcases h with h|h;·exact absurd a h
  ·rw[h]
 ·rfl
def Rz(h:cu N E){t:Tm}(ht:t.In N):ai E (ai E t)=ai E t:=by
 by_cases a:(ai E t).kind=0;·exact kD (.inr (Gx h ht a))
 ·exact kD (.inl a)
end
def dh(E:Env)(v:Int):Nat->List Tm->Bool×Int|w,[]=>(false,w)|0,_::_=>(false, -1)|w+1,z::r=>if(ai E z).kind=0 then(if(ai E z).n=v then(true,w)else dh E v w r)else dh E v w ((ai E z).args++r)
def Gy(E:Env)(v:Int)(w:Nat):dh E v w []=(false,(w:Int)):=by cases w<;>rfl
theorem aoD(E:Env)(v:Int)(z:Tm)(r:List Tm):dh E v 0 (z::r)=(false, -1):=rfl
theorem Gz(E:Env)(v:Int)(w:Nat)(z:Tm)(r:List Tm):dh E v (w+1) (z::r)=if(ai E z).kind=0 then(if(ai E z).n=v then(true,(w:Int))else dh E v w r)else dh E v w ((ai E z).args++r):=rfl
def Jy(E:Env)(v:Int):∀(w:Nat)(s:List Tm),(dh E v w s).2<=w/\ -1<=(dh E v w s).2
 |w,[]=>by rw[Gy];exact⟨qI _,by simp only;omega⟩
 |0,z::r=>by simp[dh]
 |w+1,z::r=>by
  rw[Gz];have b:=Jy E v w r;have a:=Jy E v w ((ai E z).args++r);split
  ·split;·simp;omega
   ·omega
  ·omega
def M7(E:Env)(v:Int):∀(w:Nat)(s r:List Tm),dh E v w (s++r)=if(dh E v w s).1=true\/(dh E v w s).2<0 then dh E v w s else dh E v (dh E v w s).2.toNat r
 |w,[],r=>by simp[Gy];omega
 |0,z::s,r=>by simp[dh]
 |w+1,z::s,r=>by
  rw[oO,Gz,Gz];have b:=M7 E v w s r;have a:=M7 E v w ((ai E z).args++s) r;rw[Ao]at a;split
  ·split;·simp
   ·exact b
  ·exact a
def M8(E:Env)(v:Int):∀(w:Nat)(s:List Tm),(dh E v w s).1=true->0<=(dh E v w s).2
 |w,[],h=>by rw[Gy]at h ⊢;simp at h
 |0,z::r,h=>by simp[dh]at h
 |w+1,z::r,h=>by
  rw[Gz]at h ⊢;have d:=M8 E v w r;have c:=M8 E v w ((ai E z).args++r);split at h
  ·rename_i b;simp only[b,if_true];split at h;·rename_i a;simp only[a,if_true];omega
   ·rename_i a;simp only[a,if_false];exact d h
  ·rename_i b;simp only[b,if_false];exact c h
structure US where
  ok : Bool
  env : Env
  work : Int
def fK(n:Int):Tm:= .mk 0 n .empty []
def aO(w:Nat)(s:List (Tm×Tm))(E:Env):US:=match w,s with|w,[]=>⟨true,E,w⟩|0,_::_=>⟨false,E, -1⟩|w+1,(a,b)::r=>let x:=ai E a;let y:=ai E b;if x.kind=0/\y.kind=0 then(if x.n=y.n then aO w r E else aO w r (E++[(max x.n y.n,fK (min x.n y.n))]))else if x.kind=0\/y.kind=0 then let v:=if y.kind=0 then y.n else x.n;let z:=if y.kind=0 then x else y;let p:=dh E v w [z];if p.1=true\/p.2<0 then⟨false,E,p.2⟩else aO (min w p.2.toNat) r (E++[(v,z)])else if ¬(x.kind=y.kind/\x.n=y.n/\x.s=y.s/\x.args.length=y.args.length)then⟨false,E,w⟩else aO w (x.args.zip y.args++r) E termination_by w decreasing_by all_goals omega
def Cu(w:Nat)(E:Env):aO w [] E=⟨true,E,w⟩:=by cases w<;>simp[aO]
def Jz(p:Tm×Tm)(r:List (Tm×Tm))(E:Env):aO 0 (p::r) E=⟨false,E, -1⟩:=by simp[aO]
def aoE : ∀ (w : Nat) (s : List (Tm × Tm)) (E : Env),(aO w s E).work ≤ w ∧ -1 ≤ (aO w s E).work ∧ ((aO w s E).ok = true → 0 ≤ (aO w s E).work) :=by
 intro w;induction w using Nat.strongRecOn with
  | _ w e=>
   intro s E;match w,s,e with
    | w,[],_=>rw [Cu];exact ⟨qI _,by simp only;omega,λ_=>by simp only;omega⟩
    | 0,_ :: _,_=>simp [Jz]
    | w + 1,(a,b) :: r,e=>
     have c : ∀ w' ≤ w,∀ (s : List (Tm × Tm)) (E : Env),(aO w' s E).work ≤ (w + 1 : Nat) ∧ -1 ≤ (aO w' s E).work ∧ ((aO w' s E).ok = true → 0 ≤ (aO w' s E).work) :=λw' h s E=>by obtain ⟨f,i,g⟩ :=e w' zB s E;exact ⟨zB,i,g⟩
     rw [aO];simp only;split
     ·split;·exact c w zB _ _
      ·exact c w zB _ _
     ·split
      ·generalize hp : dh E (if (ai E b).kind = 0 then (ai E b).n else (ai E a).n) w [if (ai E b).kind = 0 then ai E a else ai E b] = p;have f:=Jy E (if (ai E b).kind = 0 then (ai E b).n else (ai E a).n) w [if (ai E b).kind = 0 then ai E a else ai E b];rw [hp] at f;split;·refine ⟨?_,?_,λh=>by simp at h⟩ <;> simp only <;> omega
       ·exact c _ zB _ _
      ·split;·refine ⟨?_,?_,λh=>by simp at h⟩ <;> simp only <;> omega
       ·exact c w zB _ _
def Xv:∀(w:Nat)(s r:List (Tm×Tm))(E:Env),aO w (s++r) E=if(aO w s E).ok=true then aO (aO w s E).work.toNat r (aO w s E).env else aO w s E:=by
 intro w;induction w using Nat.strongRecOn with
  |_ w c=>
   intro s r E;match w,s,c with
    |w,[],_=>simp[Cu]
    |0,_::_,_=>simp[Jz]
    |w+1,(a,b)::s,c=>
     rw[oO];rw[aO.eq_def (w+1) ((a,b)::(s++r)),aO.eq_def (w+1) ((a,b)::s)];simp only;split
     ·split;·exact c w zB s r E
      ·exact c w zB s r _
     ·split
      ·generalize dh E (if(ai E b).kind=0 then(ai E b).n else(ai E a).n) w [if(ai E b).kind=0 then ai E a else ai E b]=p;by_cases d:p.1=true\/p.2<0;·rw[G d,G d];rfl
       ·rw[O d,O d];exact c (min w p.2.toNat) zB s r _
      ·split;·simp
       ·rw[<-Ao];exact c w zB _ r E
def Es{N:Int}:∀(w:Nat)(s:List (Tm×Tm))(E:Env),cu N E->(∀p∈s,p.1.In N/\p.2.In N)->cu N (aO w s E).env/\(∃F,(aO w s E).env=E++F/\F.length<=w):=by
 intro w;induction w using Nat.strongRecOn with
  |_ w j=>
   intro s E c o;match w,s,j,o with
    |w,[],_,_=>rw[Cu];exact⟨c,[],zh,zh⟩
    |0,_::_,_,_=>rw[Jz];exact⟨c,[],zh,zh⟩
    |w+1,(a,b)::r,j,o=>
     obtain⟨z,v⟩:=o (a,b) zh;simp only at z v;have q:∀p∈r,p.1.In N/\p.2.In N:=λp d=>o p (by simp[d]);have m:=oZ c z;have l:=oZ c v;have D:=Gx c z;have C:=Gx c v;rw[aO];simp only;generalize ai E a=x at*;generalize ai E b=y at*;split
     ·rename_i k;have u:=m.n k.1;have t:=l.n k.2;split;·obtain⟨g,F,f,A⟩:=j w zB r E c q;exact⟨g,F,f,zB⟩
      ·rename_i H;have i:cu N (E++[(max x.n y.n,fK (min x.n y.n))]):=by
        refine c.snoc zB zB ?_ (.var _ zB zB) (λ_=>by show min x.n y.n<max x.n y.n;omega);by_cases h:x.n<=y.n;·rw[adL h];exact C k.2
        ·rw[adP zB];exact D k.1
       obtain⟨g,F,f,A⟩:=j w zB r _ i q;exact⟨g,_,by rw[f,Ao],by simp;omega⟩
     ·rename_i k;split
      ·rename_i B;generalize dh E (if y.kind=0 then y.n else x.n) w [if y.kind=0 then x else y]=p;split;·exact⟨c,[],zh,zh⟩
       ·have i:cu N (E++[(if y.kind=0 then y.n else x.n,if y.kind=0 then x else y)]):=by
         by_cases e:y.kind=0;·simp only[e,if_true];have t:=l.n e;exact c.snoc t.1 t.2 (C e) m (λh=>absurd ⟨h,e⟩ k)
         ·simp only[e,if_false];have G:x.kind=0:=B.resolve_right e;have u:=m.n G;exact c.snoc u.1 u.2 (D G) l (λh=>absurd h e)
        obtain⟨g,F,f,A⟩:=j (min w p.2.toNat) zB r _ i q;exact⟨g,_,by rw[f,Ao],by simp;omega⟩
      ·split;·exact⟨c,[],zh,zh⟩
       ·obtain⟨g,F,f,A⟩:=j w zB (x.args.zip y.args++r) E c (λp d=>by
         rcases iw.1 d with d|d;·have :=anj d;exact⟨m.arg this.1,l.arg this.2⟩
         ·exact q p d);exact⟨g,F,f,zB⟩
def bU(E:Env)(w:Nat)(s:List Tm):Option (List Tm×Nat):=match w,s with|w,[]=>some ([],w)|0,_::_=>none|w+1,z::r=>let x:=ai E z;match bU E w x.args with|none=>none|some (ts,w1)=>match bU E (min w w1) r with|none=>none|some (rs,w2)=>some (.mk x.kind x.n x.s ts::rs,w2)termination_by w decreasing_by all_goals omega
def yK(E:Env)(w:Nat):bU E w []=some ([],w):=by cases w<;>simp[bU]
def GA(E:Env)(z:Tm)(r:List Tm):bU E 0 (z::r)=none:=by simp[bU]
def JA(E:Env):∀(w:Nat)(s ts:List Tm)(w':Nat),bU E w s=some (ts,w')->w'<=w/\ts.length=s.length:=by
 intro w;induction w using Nat.strongRecOn with
  |_ w b=>
   intro s ts w' h;match w,s,b,h with
    |w,[],_,h=>rw[yK]at h;simp at h;obtain⟨rfl,rfl⟩:=h;simp
    |0,_::_,_,h=>rw[GA]at h;cases h
    |w+1,a::r,b,h=>
     rw[bU]at h;try simp only at h
     split at h;·simp at h
     ·rename_i _ k c f;have d:=b w zB _ _ _ f;rw[F9 d.1]at h;split at h;·simp at h
      ·rename_i _ i g e;have j:=b c zB _ _ _ e;simp only[bW,gI]at h;obtain⟨rfl,rfl⟩:=h;simp only[bn];omega
structure Ev where
  kind : Int
  terms : List Tm
structure Gl where
  t : Tm
  bar : Nat
structure jN where
  g : List Gl
  at_ : Nat
  trail : Nat
structure Sv where
  env : Env
  choices : List jN
  vars : Int
  fuel : Nat
  out : List Ev
inductive vP where
  | next (g : List Gl)
  | no
  | off
def Sv.put(s:Sv)(kind:Int):Sv:={s with out:=s.out++[⟨kind,[]⟩]}
def fG(t:Tm)(d:Int):Tm:=t.ren λn=>low n+low d
def jB(a b:Tm):Prop:=a.s=b.s/\a.args.length=b.args.length
noncomputable instance(a b:Tm):Decidable (jB a b):=by unfold jB;infer_instance
noncomputable def jT(P:List Cl)(t:Tm):Nat->Nat->Nat|0,k=>k|n+1,k=>match P[k]? with|none=>k|some c=>if jB c.head t then k else jT P t n (k+1)
def yL(b:Nat)(d:Int)(l:List Tm)(rest:List Gl):List Gl:=(l.map λt=>(⟨fG t d,b⟩:Gl))++rest
noncomputable def fC(P:List Cl)(g:Gl)(rest:List Gl):Nat->Nat->Sv->vP×Sv|0,_,s=>(.no,s)|n+1,k,s=>match P[k]? with|none=>(.no,s)|some c=>if ¬jB c.head g.t then fC P g rest n (k+1) s else let u:=aO 400 [(fG c.head s.vars,g.t)] s.env;if u.work<0 then(.off,{s with env:=u.env}.put 4)else if u.ok=false then fC P g rest n (k+1) s else(.next (yL s.choices.length s.vars c.body rest),{s with env:=u.env,choices:=if jT P g.t (P.length - (k+1)) (k+1)<P.length then⟨g::rest,jT P g.t (P.length - (k+1)) (k+1),s.env.length⟩::s.choices else s.choices,vars:=s.vars+c.vars})
noncomputable def eQ(P:List Cl):List jN->Sv->vP×Sv|[],s=>(.off,{s with choices:=[]}.put 2)|c::b,s=>match c.g with|[]=>(.off,s)|g::rest=>match fC P g rest (P.length - c.at_) c.at_ {s with choices:=b,env:=s.env.take c.trail}with|(.no,s')=>eQ P b s'|r=>r
noncomputable def jh(g:Gl)(s:Sv):Option Bool×Sv:=if g.t.s.toList=[33]then(some true,{s with choices:=s.choices.drop (s.choices.length - g.bar)})else if g.t.s.toList=[116,114,117,101]then(some true,s)else if g.t.s.toList=[102,97,105,108]then(some false,s)else if g.t.s.toList=[101,113]then let u:=aO 400 [((g.t.args[0]?).getD default,(g.t.args[1]?).getD default)] s.env;if u.work<0 then(none,{s with env:=u.env}.put 4)else(some u.ok,{s with env:=u.env})else let a:=ai s.env ((g.t.args[0]?).getD default);let b:=ai s.env ((g.t.args[1]?).getD default);if a.kind≠2\/b.kind≠2 then(none,s.put 5)else if g.t.s.toList=[108,101,115,115]then(some (decide (a.n<b.n)),s)else if a.n+b.n>1099511627776\/a.n+b.n< -1099511627776 then(none,s.put 5)else let u:=aO 400 [((g.t.args[2]?).getD default,.mk 2 (a.n+b.n) .empty [])] s.env;(some u.ok,{s with env:=u.env})
noncomputable def ig(P:List Cl)(g:Gl)(rest:List Gl)(s:Sv):vP×Sv:=if s.fuel=0 then(.off,s.put 3)else let s:={s with fuel:=s.fuel - 1};haveI :=Classical.propDecidable g.t.jL;if g.t.jL then match jh g s with|(none,a)=>(.off,a)|(some true,a)=>(.next rest,a)|(some false,a)=>eQ P a.choices a else if ∀c∈P,¬jB c.head g.t then(.off,s.put 5)else match fC P g rest P.length 0 s with|(.no,a)=>eQ P a.choices a|r=>r
def kE(q:Nat)(s:Sv):Bool×Sv:=match bU s.env 200 ((List.range q).map λi=>fK (i:Nat))with|none=>(false,s.put 4)|some (l,_)=>let s:={s with out:=s.out++[⟨1,tidy l⟩]};if s.out.length≥12 then(false,s.put 6)else(true,s)
noncomputable def jC(P:List Cl)(q:Nat):Nat->List Gl->Sv->Sv
 |0,_,s=>s
 |n+1,[],s=>match kE q s with|(false,a)=>a|(true,a)=>match eQ P a.choices a with|(.next g,b)=>jC P q n g b|(_,b)=>b
 |n+1,g::c,s=>match ig P g c s with|(.next d,a)=>jC P q n d a|(_,a)=>a
noncomputable def jU(P:List Cl)(Q:List Tm)(vars fuel:Int):List Ev×Int:=haveI :=Classical.propDecidable (fV P/\iJ Q vars);if ¬(fV P/\iJ Q vars)then([],1)else if fuel<0\/fuel>150 then([],2)else((jC P vars.toNat (fuel.toNat+14) (Q.map λt=>⟨t,0⟩) ⟨[],[],vars,fuel.toNat,[]⟩).out,0)
mutual
def kF : Tm → Str
  | .mk k n s l => if k = 0 then (if n < 0 ∨ 25 < n then [90, 122] else [UInt8.ofNat (65 + n.toNat)])
    else if k = 2 then Lib.itoa n
    else if k = 1 ∨ k = 3 then s.data.toList ++ qj 40 l ++ (if l = [] then [] else [41])
    else []
def qj (b : UInt8) : List Tm → Str
  | [] => []
  | t :: r => b :: (kF t ++ qj 44 r)
end
mutual
def Et : Tm → Nat
  | .mk k n s l => s.size + 24 + gU l
def gU : List Tm → Nat
  | [] => 0
  | t :: r => Et t + gU r
end
def ae0(b:UInt8)(l:List Tm)(t:Tm):qj b (l++[t])=qj b l++(if l=[]then b else 44)::kF t:=by
 cases l with
  |nil=>simp[qj]
  |cons x r=>
   rw[O zh];suffices h:∀(r:List Tm),qj 44 (r++[t])=qj 44 r++44::kF t by rw[oO,qj,qj,h];simp
   intro r;induction r with|nil=>simp[qj]|cons y r d=>rw[oO,qj,qj,d];simp
def Xw(l:List Tm)(t:Tm):gU (l++[t])=gU l+Et t:=by induction l with|nil=>simp[gU]|cons x r b=>rw[oO,gU,gU,b];omega
def ae1(l:List Tm)(j:Nat)(h:j<l.length):gU (l.take j)+Et l[j]<=gU l:=by
 have g:l=l.take j++l[j]::l.drop (j+1):=zh;have f:∀(a b:List Tm),gU (a++b)=gU a+gU b:=by intro a b;induction a with|nil=>simp[gU]|cons x r d=>rw[oO,gU,gU,d];omega
 have e:=congrArg gU g;rw[f,gU]at e;omega
def RA:∀t:Tm,(∀x:Tm,True)->(∃A w d,Tm.rep A w t d)->(kF t).length+1<=Et t:=by
 intro t;induction t using Tm.induct with
  |h k n s l z=>
   rintro - ⟨A,w,d,o⟩;rw[Tm.jv]at o;obtain⟨J,p,I,v,rfl,C⟩:=o;obtain⟨b,G, -,E⟩:=C;have g:∀(a:List Tm)(c:UInt8),(∀x∈a,x∈l)->(qj c a).length<=gU a:=by intro a;induction a with|nil=>intro c _;simp[qj,gU]|cons x r f=>intro c q;have e:=q x zh;obtain⟨i,D,j⟩:=Wj e;obtain⟨d, -,F, -⟩:=E i x (by rw[<-j];exact aJ D);have O:=z x e (λ_=>trivial) ⟨A,w,d,F⟩;have N:=f 44 λy B=>q y (by simp[B]);simp only[qj,gU,bn,bB];omega
   have M:=g l 40 λx e=>e;have L:=Lib.itoa_length_le n p.1 p.2;unfold kF Et;have K:s.data.toList.length=s.size:=adG;split;·split<;>simp only[bn,fT]<;>omega
   ·split;·omega
    ·split;·simp only[bB];split<;>simp only[bn,fT]<;>omega
     ·simp only[fT];omega
def ae2:∀t:Tm,(∃A w c,Tm.rep A w t c)->Et t<=t.nodes*1048600:=by
 intro t;induction t using Tm.induct with
  |h k n s l p=>
   rintro⟨A,w,c,j⟩;rw[Tm.jv]at j;obtain⟨H,G,F,v,rfl,u⟩:=j;obtain⟨b,D, -,B⟩:=u;have f:∀(a:List Tm),(∀x∈a,x∈l)->gU a<=Tm.aC a*1048600:=by intro a;induction a with|nil=>intro _;simp[gU]|cons x r e=>intro m;have d:=m x zh;obtain⟨i,z,g⟩:=Wj d;obtain⟨c, -,C, -⟩:=B i x (by rw[<-g];exact aJ z);have K:=p x d ⟨A,w,c,C⟩;have J:=e λy q=>m y (by simp[q]);simp only[gU,Tm.aC,oQ];omega
   have I:=f l λx d=>d;simp only[Et,Tm.nodes,oQ];omega
def Xx{A:Nat->Prop}{w:World}{l:List Tm}{v:Value}(h:iN A w l v):gU l<=Tm.aC l*1048600:=by
 obtain⟨b,q, -,o⟩:=h;have e:∀(a:List Tm),(∀x∈a,x∈l)->gU a<=Tm.aC a*1048600:=by intro a;induction a with|nil=>intro _;simp[gU]|cons x r d=>intro g;have c:=g x zh;obtain⟨i,n,f⟩:=Wj c;obtain⟨k, -,p, -⟩:=o i x (by rw[<-f];exact aJ n);have u:=ae2 x ⟨A,w,k,p⟩;have t:=d λy m=>g y (by simp[m]);simp only[gU,Tm.aC,oQ];omega
 exact e l λx c=>c
def GG(k:Int):Str:=if k=2 then[100,111,110,101]else if k=3 then[102,117,101,108]else if k=4 then[108,97,114,103,101]else if k=5 then[102,97,117,108,116]else if k=6 then[101,110,111,117,103,104]else[]
def uI(i:Nat):List Tm->Str|[]=>[]|t::r=>32::(Lib.itoa (i:Int)++61::kF t)++uI (i+1) r
def qO(e:Ev):Str:=if e.kind=1 then[121,101,115]++uI 0 e.terms else GG e.kind
def ae3:∀(l:List Tm)(i:Nat)(t:Tm),uI i (l++[t])=uI i l++32::(Lib.itoa ((i+l.length:Nat):Int)++61::kF t)|[],i,t=>by simp[uI]|x::r,i,t=>by rw[oO,uI,uI,ae3 r (i+1) t,bn,show i+1+r.length=i+(r.length+1)by omega];simp
