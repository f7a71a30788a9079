import Derived.Test.YtlpmfkpefoegeacGreatDoorPNum
import Derived.Carry
import Derived.Lib.ItoaLen
namespace Go.Proofs.YtlpmfkpefoegeacGreatDoor
set_option maxRecDepth 99999
set_option maxHeartbeats 0
set_option linter.all false
theorem YY{f:Rd->Tm×Rd}(hf:∀r,(f r).1.nodes+(f r).2.s.length<=r.s.length+1):∀(k:Nat)(l:List Tm)(r:Rd),Tm.aH (iI f k l r).1+(iI f k l r).2.s.length<=Tm.aH l+r.s.length+1
 |0,l,r=>by rw[iI];simp only;omega
 |k+1,l,r=>by
  rw[iI];have h1:=hf r;have h2:=at_len (sg:=[44]) (f r).2;have h3:Tm.aH (l++[(f r).1])=Tm.aH l+(f r).1.nodes:=by rw[Tm.ED];simp[Tm.aH]
  split;·simp only;omega
  ·split;·rename_i ha;have h4:=h2.2 ha;simp only[dW]at h4;have :=YY hf k (l++[(f r).1]) ((f r).2.at_ [44]).2;omega
   ·simp only;have :=h2.1;omega
theorem ahQ{f:Rd->Tm×Rd}(hf:∀r,(f r).1.nodes+(f r).2.s.length<=r.s.length+1)(w:Str)(r:Rd):(AA f w r).1.nodes+(AA f w r).2.s.length<=r.s.length+1:=by
 unfold AA;have h1:=at_len (sg:=[40]) r;split;·have :=h1.1;simp only[Tm.nodes,Tm.aH];omega
 ·rename_i ha;have h2:=h1.2 (by simpa using ha);simp only[dW]at h2;simp only;have h3:=YY hf ((r.at_ [40]).2.s.length+1) [] (r.at_ [40]).2;have h4:=(at_len (sg:=[41]) (iI f ((r.at_ [40]).2.s.length+1) [] (r.at_ [40]).2).2).1;simp only[Tm.aH]at h3;simp only[Tm.nodes];split;·omega
  ·simp only[Rd.kill];omega
theorem ahR{f:Rd->Tm×Rd}(hf:∀r,(f r).1.nodes+(f r).2.s.length<=r.s.length+1)(c:UInt8)(rest:Str)(vars:List Str):(AB f c rest vars).1.nodes+(AB f c rest vars).2.s.length<=rest.length+2:=by
 unfold AB;split;·have :=EC (dn (c::rest)) (c::rest);simp only[bn]at this;simp only[Tm.nodes,Tm.aH];omega
 ·split;·simp only[Tm.nodes,Tm.aH];omega
  ·split
   ·split;·have :=EC (dN (c::rest)) (c::rest);simp only[bn]at this;simp only[Tm.nodes,Tm.aH];omega
    ·simp only[Tm.nodes,Tm.aH,bn];omega
   ·have h1:=ahQ hf ((c::rest).take (dn (c::rest))) ⟨(c::rest).drop (dn (c::rest)),vars,false⟩;have h2:=EC (dn (c::rest)) (c::rest);simp only[bn]at h1 h2;omega
theorem QY:∀(n:Nat)(r:Rd),(cz n r).1.nodes+(cz n r).2.s.length<=r.s.length+1
 |0,r=>by have :=xq r.s;simp only[cz,uh,Tm.nodes,Tm.aH,Rd.kill,Rd.space];omega
 |n+1,r=>by
  have h0:=xq r.s;have hz:(uh,r.space.kill).1.nodes+(uh,r.space.kill).2.s.length<=r.s.length+1:=by simp only[uh,Tm.nodes,Tm.aH,Rd.kill,Rd.space];omega
  unfold cz;split;·exact hz
  ·split;·exact hz
   ·rename_i c rest hs;have :=ahR (QY n) c rest r.vars;rw[hs]at h0;simp only[bn]at h0;omega
theorem YZ{f:Rd->Tm×Rd}(hf:∀r,(f r).1.nodes+(f r).2.s.length<=r.s.length+1):∀(k:Nat)(l:List Tm)(r:Rd),Tm.aH (iy f k l r).1+(iy f k l r).2.s.length<=Tm.aH l+r.s.length+1
 |0,l,r=>by rw[iy];simp only;omega
 |k+1,l,r=>by
  rw[iy];have h1:=hf r;have h2:=at_len (sg:=[44]) (f r).2;have h3:Tm.aH (l++[(f r).1])=Tm.aH l+(f r).1.nodes:=by rw[Tm.ED];simp[Tm.aH]
  split;·simp only;omega
  ·split;·rename_i ha;have h4:=h2.2 ha;simp only[dW]at h4;have :=YZ hf k (l++[(f r).1]) ((f r).2.at_ [44]).2;omega
   ·simp only;have :=h2.1;omega
theorem QZ(r:Rd):Tm.aH (fA r).1+(fA r).2.s.length<=r.s.length+1:=by unfold fA;have h1:=YZ (QY 24) (r.s.length+1) [] r;have h2:=(L6 (sg:=[46]) (iy (cz 24) (r.s.length+1) [] r).2).1;simp only[Tm.aH]at h1 ⊢;omega
theorem Y0(r:Rd):(eY r).1.nodes+(eY r).2.s.length<=r.s.length+1/\((eY r).2.bad=false->(eY r).1.nodes+(eY r).2.s.length<=r.s.length):=by
 unfold eY;simp only;have h1:=QY 24 {r with vars:=[]};generalize cz 24 {r with vars:=[]}=X at*;have h2:=at_len (sg:=[58,45]) X.2;simp only at h1;split;·rename_i ha;have h3:=QZ (X.2.at_ [58,45]).2;have h4:=h2.2 ha;simp only[bn,fC]at h4;simp only[Cl.nodes];exact⟨by omega,fun _=>by omega⟩
 ·have h3:=L6 (sg:=[46]) (X.2.at_ [58,45]).2;have h4:=h2.1;simp only[bn,fC]at h3;simp only[Cl.nodes,Tm.aH];exact⟨by have :=h3.1;omega,fun h=>by have :=h3.2 h;omega⟩
theorem ahS(l:List Cl)(c:Cl):lX (l++[c])=lX l+c.nodes:=by induction l with|nil=>simp[lX]|cons x r ih=>rw[mE,lX,lX,ih];omega
theorem Y1:∀(k:Nat)(l:List Cl)(r:Rd)(l':List Cl),jC k l r=some l'->lX l'<=lX l+r.s.length
 |0,l,r,l',h=>by rw[jC]at h;simp only[cZ]at h;subst h;omega
 |k+1,l,r,l',h=>by
  rw[jC]at h;split at h;·simp only[cZ]at h;subst h;omega
  ·split at h;·cases h
   ·rename_i hb;have hb':(eY r.space).2.bad=false:=by
     by_cases h9:(eY r.space).2.bad=true;·exact absurd (.inl h9) hb
     ·simpa using h9
    have h1:=Y1 k _ _ _ h;have h2:=(Y0 r.space).2 hb';have h3:r.space.s.length<=r.s.length:=xq _;rw[ahS]at h1;omega
theorem ahT(s:Str):lX (gL s).1<=2000:=by
 unfold gL;split;·simp[lX]
 ·cases h:jC (s.length+1) [] ⟨s,[],false⟩with
   |none=>simp[AR,lX]
   |some l=>
    have :=Y1 _ _ _ _ h;simp only[lX]at this;unfold AR;simp only;split;·simp[lX]
    ·simp only;omega
theorem ahU(s:Str):Tm.aH (eO s).1<=2001:=by
 unfold eO;split;·simp[Tm.aH]
 ·have :=QZ ⟨s,[],false⟩;split;·simp[Tm.aH]
  ·simp only at this ⊢;omega
theorem ahV{s:Str}(h:(eO s).2.2=0):iw (eO s).1 (eO s).2.1:=by
 unfold eO at h ⊢;split at h;·simp at h
 ·rename_i hs;rw[ae hs];split at h;·simp at h
  ·rename_i hb;rw[ae hb];exact Cq fun h9=>hb (.inr (.inr h9))
theorem ahW(s:Str):(gL s).2=0\/((gL s).1=[]/\((gL s).2=1\/(gL s).2=3)):=by
 unfold gL;split;·exact .inr ⟨rfl,.inr rfl⟩
 ·cases jC (s.length+1) [] ⟨s,[],false⟩with
   |none=>exact .inr ⟨rfl,.inl rfl⟩
   |some l=>
    unfold AR;simp only;split;·exact .inr ⟨rfl,.inr rfl⟩
    ·exact .inl rfl
theorem Y2(s:Str):(eO s).2.2=0\/((eO s).1=[]/\(eO s).2.1=0/\((eO s).2.2=1\/(eO s).2.2=3)):=by
 unfold eO;split;·exact .inr ⟨rfl,rfl,.inr rfl⟩
 ·split;·exact .inr ⟨rfl,rfl,.inl rfl⟩
  ·exact .inl rfl
open Go.RowKit
def ahX(w:World)(r:Nat)(L:List (Int×Value)):Prop:=∃es clock,w.heap[r]?=some (.map es clock)/\es.toList.map (fun e=>(e.key,e.val))=L.map (fun p=>(Value.int .i64 p.1,p.2))
section
variable {P : Program} {t e : TypeId} {z : Value} {w : World} {r : Nat} {L : List (Int × Value)} {n : Int}
end
def aJ(st:List Int)(n:Int):Int×List Int:=if n∈st then((st.idxOf n:Nat),st)else((st.length:Nat),st++[n])
theorem Y3(st:List Int)(n:Int):(aJ st n).2.length<=st.length+1:=by unfold aJ;split<;>simp
theorem Y4{k:Nat}(h:k<=4194304):au (k:Int):=by unfold au;omega
def tidy(l:List Tm):List Tm:=(Tm.aV aJ [] l).1
namespace Tm
inductive Vars (p : Int → Prop) : Tm → Prop where
  | mk (k n : Int) (s : ByteArray) (l : List Tm) (h : k = 0 → p n) (hl : ∀ t ∈ l, Vars p t) : Vars p (mk k n s l)
end Tm
section
variable {p : Int → Prop} {g : Int → Int}
theorem Y5(hg:∀a b,p a->p b->g a=g b->a=b){st:List Int}(hst:∀x∈st,p x){n:Int}(hn:p n):g n∈st.map g↔n∈st:=by
 constructor;·intro h;obtain⟨x,hx,he⟩:=gQ.1 h;rw[hg n x hn (hst x hx) he.symm];exact hx
 ·exact fun h=>gQ.2 ⟨n,h,rfl⟩
theorem Y6(hg:∀a b,p a->p b->g a=g b->a=b){n:Int}(hn:p n):∀{st:List Int},(∀x∈st,p x)->(st.map g).idxOf (g n)=st.idxOf n
 |[],_=>rfl
 |x::st,hst=>by
  have ih:=Y6 hg hn (st:=st) (fun y hy=>hst y (nU _ hy));by_cases h:x=n;·subst h;simp
  ·have h1:¬g x=g n:=fun e=>h (hg x n (hst x (mY ..)) hn e);simp only[qy,agF,ih];have h2:(x==n)=false:=by simpa using h
   have h3:(g x==g n)=false:=by simpa using h1
   rw[h2,h3]
theorem ahY(hg:∀a b,p a->p b->g a=g b->a=b){st:List Int}(hst:∀x∈st,p x){n:Int}(hn:p n):aJ (st.map g) (g n)=((aJ st n).1,(aJ st n).2.map g)/\∀x∈(aJ st n).2,p x:=by
 by_cases h:n∈st;·have h1:=(Y5 hg hst hn).2 h;simp only[aJ,h,if_true,h1,Y6 hg hn hst];exact⟨trivial,hst⟩
 ·have h1:¬g n∈st.map g:=fun e=>h ((Y5 hg hst hn).1 e);simp only[aJ,h,if_false,h1,jq,mF,qy,Aw];refine⟨trivial,fun x hx=>?_⟩;rcases gy.1 hx with hx|hx;·exact hst x hx
  ·simp only[iF]at hx;subst hx;exact hn
theorem ahZ(hg:∀a b,p a->p b->g a=g b->a=b):∀(t:Tm)(st:List Int),t.Vars p->(∀x∈st,p x)->(t.ren g).bB aJ (st.map g)=((t.bB aJ st).1,(t.bB aJ st).2.map g)/\∀x∈(t.bB aJ st).2,p x:=by
 intro t;induction t using Tm.induct with
  |h k n s l ih=>
   intro st hv hst;obtain⟨_,_,_,_,hp,hl⟩:=hv;have hn:Tm.num aJ (st.map g) k (if k=0 then g n else n)=((Tm.num aJ st k n).1,(Tm.num aJ st k n).2.map g)/\∀x∈(Tm.num aJ st k n).2,p x:=by
    unfold Tm.num;by_cases e:k=0;·simp only[e,if_true];exact ahY hg hst (hp e)
    ·simp only[e,if_false];exact⟨trivial,hst⟩
   have hL:∀(r:List Tm),(∀t∈r,t∈l)->∀st:List Int,(∀x∈st,p x)->Tm.aV aJ (st.map g) (Tm.qC g r)=((Tm.aV aJ st r).1,(Tm.aV aJ st r).2.map g)/\∀x∈(Tm.aV aJ st r).2,p x:=by intro r;induction r with|nil=>intro _ st hst;exact⟨rfl,hst⟩|cons x r ihr=>intro hm st hst;obtain⟨h1,h2⟩:=ih x (hm x (mY ..)) st (hl x (hm x (mY ..))) hst;obtain⟨h3,h4⟩:=ihr (fun t ht=>hm t (nU _ ht)) (x.bB aJ st).2 h2;simp only[Tm.qC,Tm.aV,h1,h3];exact⟨trivial,h4⟩
   obtain⟨h1,h2⟩:=hn;obtain⟨h3,h4⟩:=hL l (fun _ h=>h) _ h2;simp only[Tm.ren,Tm.bB,h1,h3];exact⟨trivial,h4⟩
theorem ah0(hg:∀a b,p a->p b->g a=g b->a=b)(l:List Tm):∀(st:List Int),(∀t∈l,t.Vars p)->(∀x∈st,p x)->Tm.aV aJ (st.map g) (l.map (Tm.ren g))=((Tm.aV aJ st l).1,(Tm.aV aJ st l).2.map g):=by induction l with|nil=>intro st _ _;rfl|cons x r ihr=>intro st hv hst;obtain⟨h1,h2⟩:=ahZ hg x st (hv x (mY ..)) hst;simp only[qy,Tm.aV,h1,ihr _ (fun t ht=>hv t (nU _ ht)) h2]
theorem ah1(hg:∀a b,p a->p b->g a=g b->a=b)(l:List Tm)(hv:∀t∈l,t.Vars p):tidy (l.map (Tm.ren g))=tidy l:=by unfold tidy;rw[show([]:List Int)=([]:List Int).map g from rfl,ah0 hg l [] hv (fun x hx=>by cases hx)];rfl
end
abbrev Env:=List (Int×Tm)
def jZ(E:Env)(n:Int):Option Tm:=(E.find? fun p=>p.1==n).map (·.2)
theorem Q0{E:Env}{n:Int}:jZ E n=none↔∀p∈E,p.1≠n:=by unfold jZ;rw[Option.map_eq_none_iff,List.find?_eq_none];simp
theorem Q3{E:Env}{n:Int}{t:Tm}(h:jZ E n=some t):(n,t)∈E:=by unfold jZ at h;rw[agc]at h;obtain⟨p,h1,rfl⟩:=h;have h2:=List.find?_some h1;have h3:=List.mem_of_find?_eq_some h1;simp only[rG]at h2;rw[<-h2];exact h3
theorem Iw{E:Env}{v n:Int}{t:Tm}:jZ (E++[(v,t)]) n=match jZ E n with|some x=>some x|none=>if v=n then some t else none:=by unfold jZ;rw[List.find?_append];cases h:E.find? (fun p=>p.1==n)with|some p=>simp|none=>by_cases e:v=n<;>simp[e]
def jw(E:Env):Nat->Tm->Tm|0,t=>t|k+1,t=>if t.kind=0 then(match jZ E t.n with|none=>t|some x=>jw E k x)else t
def aB(E:Env)(t:Tm):Tm:=jw E (t.n.toNat+1) t
abbrev Tm.In(N:Int)(t:Tm):Prop:=t.Good N
theorem Tm.In.n{N:Int}{t:Tm}(h:t.In N)(hk:t.kind=0):0<=t.n/\t.n<N:=by cases h with|var n h0 h1=>exact⟨h0,h1⟩|atom=>cases hk|int=>cases hk|comp=>cases hk
theorem Tm.In.arg{N:Int}{t:Tm}(h:t.In N){x:Tm}(hx:x∈t.args):x.In N:=by cases h with|var=>cases hx|atom=>cases hx|int=>cases hx|comp _ _ _ _ _ _ h4=>exact h4 x hx
theorem Tm.In.mono{N N':Int}{t:Tm}(h:t.In N)(hN:N<=N'):t.In N':=by induction h with|var n h0 h1=>exact .var n h0 (by omega)|atom s h=>exact .atom s h|int n h0 h1=>exact .int n h0 h1|comp s l h h1 h2 h3 _ ih=>exact .comp s l h h1 h2 h3 ih
structure dI (N : Int) (E : Env) : Prop where
  key : ∀ p ∈ E, 0 ≤ p.1 ∧ p.1 < N
  tm : ∀ p ∈ E, p.2.In N
  less : ∀ p ∈ E, p.2.kind = 0 → p.2.n < p.1
  nodup : (E.map (·.1)).Nodup
theorem dI.nil(N:Int):dI N []:=⟨by simp,by simp,by simp,by simp⟩
theorem dI.mono{N N':Int}{E:Env}(h:dI N E)(hN:N<=N'):dI N' E:=⟨fun p hp=>⟨(h.key p hp).1,by have :=(h.key p hp).2;omega⟩,fun p hp=>(h.tm p hp).mono hN,h.less,h.nodup⟩
theorem dI.take{N:Int}{E:Env}(h:dI N E)(k:Nat):dI N (E.take k):=⟨fun p hp=>h.key p (Qb hp),fun p hp=>h.tm p (Qb hp),fun p hp=>h.less p (Qb hp),by rw[List.map_take];exact h.nodup.sublist (List.take_sublist _ _)⟩
theorem dI.snoc{N:Int}{E:Env}(h:dI N E){v:Int}{t:Tm}(h0:0<=v)(h1:v<N)(hv:jZ E v=none)(ht:t.In N)(hk:t.kind=0->t.n<v):dI N (E++[(v,t)]):=by
 refine⟨fun p hp=>?_,fun p hp=>?_,fun p hp=>?_,?_⟩
 ·rcases gy.1 hp with hp|hp;·exact h.key p hp
  ·simp only[iF]at hp;subst hp;exact⟨h0,h1⟩
 ·rcases gy.1 hp with hp|hp;·exact h.tm p hp
  ·simp only[iF]at hp;subst hp;exact ht
 ·rcases gy.1 hp with hp|hp;·exact h.less p hp
  ·simp only[iF]at hp;subst hp;exact hk
 ·rw[mF,agv];refine⟨h.nodup,by simp,fun a ha b hb=>?_⟩;simp only[qy,Aw,iF]at hb;subst hb;obtain⟨p,hp,rfl⟩:=gQ.1 ha;exact Q0.1 hv p hp
section
variable {N : Int} {E : Env}
theorem Mg(h:dI N E):∀(k:Nat)(t:Tm),t.In N->t.n.toNat<k->((jw E k t).kind=0->jZ E (jw E k t).n=none)/\(jw E k t).In N/\∀k',t.n.toNat<k'->jw E k' t=jw E k t
 |0,t,ht,hk=>by omega
 |k+1,t,ht,hk=>by
  by_cases e:t.kind=0
  ·cases he:jZ E t.n with
    |none=>refine⟨by simp[jw,e,he],by simpa[jw,e,he]using ht,fun k' hk'=>?_⟩;cases k' with|zero=>omega|succ k'=>simp[jw,e,he]
    |some x=>
     have hm:=Q3 he;have hx:x.In N:=h.tm _ hm;have hn:=ht.n e;by_cases ex:x.kind=0;·have hl:x.n<t.n:=h.less _ hm ex;have hx0:=hx.n ex;obtain⟨i1,i2,i3⟩:=Mg h k x hx (by omega);refine⟨by simpa[jw,e,he]using i1,by simpa[jw,e,he]using i2,fun k' hk'=>?_⟩;cases k' with|zero=>omega|succ k'=>simp only[jw,e,he,if_true];exact i3 k' (by omega)
     ·have hs:∀k,jw E k x=x:=fun k=>by cases k<;>simp[jw,ex]
      refine⟨by simp[jw,e,he,hs,ex],by simpa[jw,e,he,hs]using hx,fun k' hk'=>?_⟩;cases k' with|zero=>omega|succ k'=>simp[jw,e,he,hs]
  ·refine⟨by simp[jw,e],by simpa[jw,e]using ht,fun k' hk'=>?_⟩;cases k' with|zero=>omega|succ k'=>simp[jw,e]
theorem Q4(h:dI N E){t:Tm}(ht:t.In N)(hk:(aB E t).kind=0):jZ E (aB E t).n=none:=(Mg h _ t ht (Ql _)).1 hk
theorem vL(h:dI N E){t:Tm}(ht:t.In N):(aB E t).In N:=(Mg h _ t ht (Ql _)).2.1
theorem Q5(h:dI N E){t x:Tm}(ht:t.In N)(hk:t.kind=0)(hx:jZ E t.n=some x):aB E t=aB E x:=by
 have hm:=Q3 hx;have hxi:x.In N:=h.tm _ hm;have hn:=ht.n hk;unfold aB;rw[jw,ah hk,hx];by_cases ex:x.kind=0;·have hl:x.n<t.n:=h.less _ hm ex;have hx0:=hxi.n ex;exact(Mg h _ x hxi (Ql _)).2.2 _ (by omega)
 ·have hs:∀k,jw E k x=x:=fun k=>by cases k<;>simp[jw,ex]
  simp only[hs]
theorem jF{t:Tm}(h:t.kind≠0\/jZ E t.n=none):aB E t=t:=by
 unfold aB;rw[jw];split
 ·rename_i hk;rcases h with h|h;·exact absurd hk h
  ·rw[h]
 ·rfl
theorem Y7(h:dI N E){t:Tm}(ht:t.In N):aB E (aB E t)=aB E t:=by
 by_cases hk:(aB E t).kind=0;·exact jF (.inr (Q4 h ht hk))
 ·exact jF (.inl hk)
end
def ow(E:Env)(v:Int):Nat->List Tm->Bool×Int|w,[]=>(false,w)|0,_::_=>(false, -1)|w+1,z::r=>if(aB E z).kind=0 then(if(aB E z).n=v then(true,w)else ow E v w r)else ow E v w ((aB E z).args++r)
theorem Y8(E:Env)(v:Int)(w:Nat):ow E v w []=(false,(w:Int)):=by cases w<;>rfl
theorem ah2(E:Env)(v:Int)(z:Tm)(r:List Tm):ow E v 0 (z::r)=(false, -1):=rfl
theorem Y9(E:Env)(v:Int)(w:Nat)(z:Tm)(r:List Tm):ow E v (w+1) (z::r)=if(aB E z).kind=0 then(if(aB E z).n=v then(true,(w:Int))else ow E v w r)else ow E v w ((aB E z).args++r):=rfl
structure US where
  ok : Bool
  env : Env
  work : Int
def jG(n:Int):Tm:= .mk 0 n .empty []
def fE(w:Nat)(s:List (Tm×Tm))(E:Env):US:=match w,s with|w,[]=>⟨true,E,w⟩|0,_::_=>⟨false,E, -1⟩|w+1,(a,b)::r=>let x:=aB E a;let y:=aB E b;if x.kind=0/\y.kind=0 then(if x.n=y.n then fE w r E else fE w r (E++[(max x.n y.n,jG (min x.n y.n))]))else if x.kind=0\/y.kind=0 then let v:=if y.kind=0 then y.n else x.n;let z:=if y.kind=0 then x else y;let p:=ow E v w [z];if p.1=true\/p.2<0 then⟨false,E,p.2⟩else fE (min w p.2.toNat) r (E++[(v,z)])else if ¬(x.kind=y.kind/\x.n=y.n/\x.s=y.s/\x.args.length=y.args.length)then⟨false,E,w⟩else fE w (x.args.zip y.args++r) E termination_by w decreasing_by all_goals omega
theorem Mh(w:Nat)(E:Env):fE w [] E=⟨true,E,w⟩:=by cases w<;>simp[fE]
theorem Za(p:Tm×Tm)(r:List (Tm×Tm))(E:Env):fE 0 (p::r) E=⟨false,E, -1⟩:=by simp[fE]
theorem EW{N:Int}:∀(w:Nat)(s:List (Tm×Tm))(E:Env),dI N E->(∀p∈s,p.1.In N/\p.2.In N)->dI N (fE w s E).env/\(∃F,(fE w s E).env=E++F/\F.length<=w):=by
 intro w;induction w using Nat.strongRecOn with
  |_ w ih=>
   intro s E hE hs;match w,s,ih,hs with
    |w,[],_,_=>rw[Mh];exact⟨hE,[],by simp,by simp⟩
    |0,_::_,_,_=>rw[Za];exact⟨hE,[],by simp,by simp⟩
    |w+1,(a,b)::r,ih,hs=>
     obtain⟨ha,hb⟩:=hs (a,b) (by simp);simp only at ha hb;have hr:∀p∈r,p.1.In N/\p.2.In N:=fun p hp=>hs p (by simp[hp]);have xa:=vL hE ha;have xb:=vL hE hb;have fa:=Q4 hE ha;have fb:=Q4 hE hb;rw[fE];simp only;generalize aB E a=x at*;generalize aB E b=y at*;split
     ·rename_i hk;have na:=xa.n hk.1;have nb:=xb.n hk.2;split;·obtain⟨h1,F,h2,h3⟩:=ih w (by omega) r E hE hr;exact⟨h1,F,h2,by omega⟩
      ·rename_i hne;have hE':dI N (E++[(max x.n y.n,jG (min x.n y.n))]):=by
        refine hE.snoc (by omega) (by omega) ?_ (.var _ (by omega) (by omega)) (fun _=>by show min x.n y.n<max x.n y.n;omega);by_cases h:x.n<=y.n;·rw[XI h];exact fb hk.2
        ·rw[XM (by omega)];exact fa hk.1
       obtain⟨h1,F,h2,h3⟩:=ih w (by omega) r _ hE' hr;exact⟨h1,_,by rw[h2,Au],by simp;omega⟩
     ·rename_i hk;split
      ·rename_i hk2;generalize ow E (if y.kind=0 then y.n else x.n) w [if y.kind=0 then x else y]=p;split;·exact⟨hE,[],by simp,by simp⟩
       ·have hE':dI N (E++[(if y.kind=0 then y.n else x.n,if y.kind=0 then x else y)]):=by
         by_cases e:y.kind=0;·simp only[e,if_true];have nb:=xb.n e;exact hE.snoc nb.1 nb.2 (fb e) xa (fun h=>absurd ⟨h,e⟩ hk)
         ·simp only[e,if_false];have e':x.kind=0:=hk2.resolve_right e;have na:=xa.n e';exact hE.snoc na.1 na.2 (fa e') xb (fun h=>absurd h e)
        obtain⟨h1,F,h2,h3⟩:=ih (min w p.2.toNat) (by omega) r _ hE' hr;exact⟨h1,_,by rw[h2,Au],by simp;omega⟩
      ·split;·exact⟨hE,[],by simp,by simp⟩
       ·obtain⟨h1,F,h2,h3⟩:=ih w (by omega) (x.args.zip y.args++r) E hE (fun p hp=>by
         rcases gy.1 hp with hp|hp;·have :=List.of_mem_zip hp;exact⟨xa.arg this.1,xb.arg this.2⟩
         ·exact hr p hp);exact⟨h1,F,h2,by omega⟩
def fe(E:Env)(w:Nat)(s:List Tm):Option (List Tm×Nat):=match w,s with|w,[]=>some ([],w)|0,_::_=>none|w+1,z::r=>let x:=aB E z;match fe E w x.args with|none=>none|some (ts,w1)=>match fe E (min w w1) r with|none=>none|some (rs,w2)=>some (.mk x.kind x.n x.s ts::rs,w2)termination_by w decreasing_by all_goals omega
theorem A7(E:Env)(w:Nat):fe E w []=some ([],w):=by cases w<;>simp[fe]
theorem EX(E:Env)(z:Tm)(r:List Tm):fe E 0 (z::r)=none:=by simp[fe]
theorem Q6(E:Env):∀(w:Nat)(s ts:List Tm)(w':Nat),fe E w s=some (ts,w')->w'<=w/\ts.length=s.length:=by
 intro w;induction w using Nat.strongRecOn with
  |_ w ih=>
   intro s ts w' h;match w,s,ih,h with
    |w,[],_,h=>rw[A7]at h;simp at h;obtain⟨rfl,rfl⟩:=h;simp
    |0,_::_,_,h=>rw[EX]at h;cases h
    |w+1,a::r,ih,h=>
     rw[fe]at h;try simp only at h
     split at h;·simp at h
     ·rename_i _ EK w1 h1;have k1:=ih w (by omega) _ _ _ h1;rw[Eu k1.1]at h;split at h;·simp at h
      ·rename_i _ rs w2 h2;have k2:=ih w1 (by omega) _ _ _ h2;simp only[cZ,fG]at h;obtain⟨rfl,rfl⟩:=h;simp only[bn];omega
structure Ev where
  kind : Int
  terms : List Tm
structure Gl where
  t : Tm
  bar : Nat
structure jf where
  g : List Gl
  at_ : Nat
  trail : Nat
structure Sv where
  env : Env
  choices : List jf
  vars : Int
  fuel : Nat
  out : List Ev
inductive yT where
  | next (g : List Gl)
  | no
  | off
def Sv.put(s:Sv)(kind:Int):Sv:={s with out:=s.out++[⟨kind,[]⟩]}
def fM(t:Tm)(d:Int):Tm:=t.ren fun n=>low n+low d
def um(a b:Tm):Prop:=a.s=b.s/\a.args.length=b.args.length
noncomputable instance(a b:Tm):Decidable (um a b):=by unfold um;infer_instance
noncomputable def lY(P:List Cl)(t:Tm):Nat->Nat->Nat|0,k=>k|n+1,k=>match P[k]? with|none=>k|some c=>if um c.head t then k else lY P t n (k+1)
def Mi(b:Nat)(d:Int)(l:List Tm)(rest:List Gl):List Gl:=(l.map fun t=>(⟨fM t d,b⟩:Gl))++rest
noncomputable def kN(P:List Cl)(g:Gl)(rest:List Gl):Nat->Nat->Sv->yT×Sv|0,_,s=>(.no,s)|n+1,k,s=>match P[k]? with|none=>(.no,s)|some c=>if ¬um c.head g.t then kN P g rest n (k+1) s else let u:=fE 400 [(fM c.head s.vars,g.t)] s.env;if u.work<0 then(.off,{s with env:=u.env}.put 4)else if u.ok=false then kN P g rest n (k+1) s else(.next (Mi s.choices.length s.vars c.body rest),{s with env:=u.env,choices:=if lY P g.t (P.length - (k+1)) (k+1)<P.length then⟨g::rest,lY P g.t (P.length - (k+1)) (k+1),s.env.length⟩::s.choices else s.choices,vars:=s.vars+c.vars})
noncomputable def jN(P:List Cl):List jf->Sv->yT×Sv|[],s=>(.off,{s with choices:=[]}.put 2)|c::cs,s=>match c.g with|[]=>(.off,s)|g::rest=>match kN P g rest (P.length - c.at_) c.at_ {s with choices:=cs,env:=s.env.take c.trail}with|(.no,s')=>jN P cs s'|r=>r
noncomputable def rU(g:Gl)(s:Sv):Option Bool×Sv:=if g.t.s.toList=[33]then(some true,{s with choices:=s.choices.drop (s.choices.length - g.bar)})else if g.t.s.toList=[116,114,117,101]then(some true,s)else if g.t.s.toList=[102,97,105,108]then(some false,s)else if g.t.s.toList=[101,113]then let u:=fE 400 [((g.t.args[0]?).getD default,(g.t.args[1]?).getD default)] s.env;if u.work<0 then(none,{s with env:=u.env}.put 4)else(some u.ok,{s with env:=u.env})else let a:=aB s.env ((g.t.args[0]?).getD default);let b:=aB s.env ((g.t.args[1]?).getD default);if a.kind≠2\/b.kind≠2 then(none,s.put 5)else if g.t.s.toList=[108,101,115,115]then(some (decide (a.n<b.n)),s)else if a.n+b.n>1099511627776\/a.n+b.n< -1099511627776 then(none,s.put 5)else let u:=fE 400 [((g.t.args[2]?).getD default,.mk 2 (a.n+b.n) .empty [])] s.env;(some u.ok,{s with env:=u.env})
noncomputable def qI(P:List Cl)(g:Gl)(rest:List Gl)(s:Sv):yT×Sv:=if s.fuel=0 then(.off,s.put 3)else let s:={s with fuel:=s.fuel - 1};haveI :=Classical.propDecidable g.t.jM;if g.t.jM then match rU g s with|(none,s')=>(.off,s')|(some true,s')=>(.next rest,s')|(some false,s')=>jN P s'.choices s' else if ∀c∈P,¬um c.head g.t then(.off,s.put 5)else match kN P g rest P.length 0 s with|(.no,s')=>jN P s'.choices s'|r=>r
def nD(q:Nat)(s:Sv):Bool×Sv:=match fe s.env 200 ((List.range q).map fun i=>jG (i:Nat))with|none=>(false,s.put 4)|some (l,_)=>let s:={s with out:=s.out++[⟨1,tidy l⟩]};if s.out.length≥12 then(false,s.put 6)else(true,s)
noncomputable def qJ(P:List Cl)(q:Nat):Nat->List Gl->Sv->Sv
 |0,_,s=>s
 |n+1,[],s=>match nD q s with|(false,s')=>s'|(true,s')=>match jN P s'.choices s' with|(.next g,s'')=>qJ P q n g s''|(_,s'')=>s''
 |n+1,g::rest,s=>match qI P g rest s with|(.next g',s')=>qJ P q n g' s'|(_,s')=>s'
noncomputable def uq(P:List Cl)(Q:List Tm)(vars fuel:Int):List Ev×Int:=haveI :=Classical.propDecidable (fJ P/\iw Q vars);if ¬(fJ P/\iw Q vars)then([],1)else if fuel<0\/fuel>150 then([],2)else((qJ P vars.toNat (fuel.toNat+14) (Q.map fun t=>⟨t,0⟩) ⟨[],[],vars,fuel.toNat,[]⟩).out,0)
mutual
def bu : Tm → Str
  | .mk k n s l => if k = 0 then (if n < 0 ∨ 25 < n then [90, 122] else [UInt8.ofNat (65 + n.toNat)])
    else if k = 2 then Lib.itoa n
    else if k = 1 ∨ k = 3 then s.data.toList ++ iA 40 l ++ (if l = [] then [] else [41])
    else []
def iA (b : UInt8) : List Tm → Str
  | [] => []
  | t :: r => b :: (bu t ++ iA 44 r)
end
mutual
def xA : Tm → Nat
  | .mk k n s l => s.size + 24 + eD l
def eD : List Tm → Nat
  | [] => 0
  | t :: r => xA t + eD r
end
theorem Zb(b:UInt8)(l:List Tm)(t:Tm):iA b (l++[t])=iA b l++(if l=[]then b else 44)::bu t:=by
 cases l with
  |nil=>simp[iA]
  |cons x r=>
   rw[ae (by simp)];suffices h:∀(r:List Tm),iA 44 (r++[t])=iA 44 r++44::bu t by rw[mE,iA,iA,h];simp
   intro r;induction r with|nil=>simp[iA]|cons y r ih=>rw[mE,iA,iA,ih];simp
theorem Q7(l:List Tm)(t:Tm):eD (l++[t])=eD l+xA t:=by induction l with|nil=>simp[eD]|cons x r ih=>rw[mE,eD,eD,ih];omega
theorem Iy(l:List Tm)(j:Nat)(h:j<l.length):eD (l.take j)+xA l[j]<=eD l:=by
 have h1:l=l.take j++l[j]::l.drop (j+1):=by simp
 have h2:∀(a b:List Tm),eD (a++b)=eD a+eD b:=by intro a b;induction a with|nil=>simp[eD]|cons x r ih=>rw[mE,eD,eD,ih];omega
 have h3:=congrArg eD h1;rw[h2,eD]at h3;omega
theorem A8:∀t:Tm,(∀x:Tm,True)->(∃A w us,Tm.rep A w t us)->(bu t).length+1<=xA t:=by
 intro t;induction t using Tm.induct with
  |h k n s l ih=>
   rintro - ⟨A,w,us,hr⟩;rw[Tm.gT]at hr;obtain⟨hk,hn,hs,v,rfl,hl⟩:=hr;obtain⟨b,off, -,he⟩:=hl;have hl2:∀(l':List Tm)(c:UInt8),(∀x∈l',x∈l)->(iA c l').length<=eD l':=by intro l';induction l' with|nil=>intro c _;simp[iA,eD]|cons x r ihl=>intro c hm;have hx:=hm x (by simp);obtain⟨i,hi,hix⟩:=Es hx;obtain⟨us, -,rV, -⟩:=he i x (by rw[<-hix];exact aS hi);have h1:=ih x hx (fun _=>trivial) ⟨A,w,us,rV⟩;have h2:=ihl 44 fun y hy=>hm y (by simp[hy]);simp only[iA,eD,bn,bA];omega
   have h3:=hl2 l 40 fun x hx=>hx;have h4:=Lib.itoa_length_le n hn.1 hn.2;unfold bu xA;have h5:s.data.toList.length=s.size:=agp;split;·split<;>simp only[bn,fC]<;>omega
   ·split;·omega
    ·split;·simp only[bA];split<;>simp only[bn,fC]<;>omega
     ·simp only[fC];omega
theorem ah3:∀t:Tm,(∃A w us,Tm.rep A w t us)->xA t<=t.nodes*1048600:=by
 intro t;induction t using Tm.induct with
  |h k n s l ih=>
   rintro⟨A,w,us,hr⟩;rw[Tm.gT]at hr;obtain⟨hk,hn,hs,v,rfl,hl⟩:=hr;obtain⟨b,off, -,he⟩:=hl;have hl2:∀(l':List Tm),(∀x∈l',x∈l)->eD l'<=Tm.aH l'*1048600:=by intro l';induction l' with|nil=>intro _;simp[eD]|cons x r ihl=>intro hm;have hx:=hm x (by simp);obtain⟨i,hi,hix⟩:=Es hx;obtain⟨us, -,rV, -⟩:=he i x (by rw[<-hix];exact aS hi);have h1:=ih x hx ⟨A,w,us,rV⟩;have h2:=ihl fun y hy=>hm y (by simp[hy]);simp only[eD,Tm.aH,nX];omega
   have h3:=hl2 l fun x hx=>hx;simp only[xA,Tm.nodes,nX];omega
theorem Iz{A:Nat->Prop}{w:World}{l:List Tm}{v:Value}(h:iP A w l v):eD l<=Tm.aH l*1048600:=by
 obtain⟨b,off, -,he⟩:=h;have hl2:∀(l':List Tm),(∀x∈l',x∈l)->eD l'<=Tm.aH l'*1048600:=by intro l';induction l' with|nil=>intro _;simp[eD]|cons x r ihl=>intro hm;have hx:=hm x (by simp);obtain⟨i,hi,hix⟩:=Es hx;obtain⟨us, -,rV, -⟩:=he i x (by rw[<-hix];exact aS hi);have h1:=ah3 x ⟨A,w,us,rV⟩;have h2:=ihl fun y hy=>hm y (by simp[hy]);simp only[eD,Tm.aH,nX];omega
 exact hl2 l fun x hx=>hx
def xB(k:Int):Str:=if k=2 then[100,111,110,101]else if k=3 then[102,117,101,108]else if k=4 then[108,97,114,103,101]else if k=5 then[102,97,117,108,116]else if k=6 then[101,110,111,117,103,104]else[]
def j3(i:Nat):List Tm->Str|[]=>[]|t::r=>32::(Lib.itoa (i:Int)++61::bu t)++j3 (i+1) r
def oz(e:Ev):Str:=if e.kind=1 then[121,101,115]++j3 0 e.terms else xB e.kind
theorem Zc:∀(l:List Tm)(i:Nat)(t:Tm),j3 i (l++[t])=j3 i l++32::(Lib.itoa ((i+l.length:Nat):Int)++61::bu t)|[],i,t=>by simp[j3]|x::r,i,t=>by rw[mE,j3,j3,Zc r (i+1) t,bn,show i+1+r.length=i+(r.length+1)by omega];simp
