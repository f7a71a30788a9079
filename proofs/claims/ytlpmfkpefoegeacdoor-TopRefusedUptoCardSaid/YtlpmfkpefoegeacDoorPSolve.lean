import Derived.Test.YtlpmfkpefoegeacDoorPRead2
import Derived.Test.YtlpmfkpefoegeacDoorQNodes
import Derived.Test.YtlpmfkpefoegeacDoorQCopy
namespace Go.Proofs.YtlpmfkpefoegeacDoor
set_option maxRecDepth 100000
set_option maxHeartbeats 16000000
set_option linter.all false
theorem ZgT{f:Rd->Tm×Rd}(hf:∀r,(f r).1.nodes+(f r).2.s.length<=r.s.length+1):∀(k:Nat)(l:List Tm)(r:Rd),Tm.nodesL (Zb1 f k l r).1+(Zb1 f k l r).2.s.length<=Tm.nodesL l+r.s.length+1
 |0,l,r=>by rw[Zb1];simp only;omega
 |k+1,l,r=>by
  rw[Zb1];have h1:=hf r;have h2:=Zci (sg:=[44]) (f r).2;have h3:Tm.nodesL (l++[(f r).1])=Tm.nodesL l+(f r).1.nodes:=by rw[Tm.nodesL_append];simp[Tm.nodesL]
  split;·simp only;omega
  ·split;·rename_i ha;have h4:=h2.2 ha;simp only[List.length_singleton]at h4;have :=ZgT hf k (l++[(f r).1]) ((f r).2.at_ [44]).2;omega
   ·simp only;have :=h2.1;omega
theorem ZkI{f:Rd->Tm×Rd}(hf:∀r,(f r).1.nodes+(f r).2.s.length<=r.s.length+1)(w:Str)(r:Rd):(ZhO f w r).1.nodes+(ZhO f w r).2.s.length<=r.s.length+1:=by
 unfold ZhO;have h1:=Zci (sg:=[40]) r;split;·have :=h1.1;simp only[Tm.nodes,Tm.nodesL];omega
 ·rename_i ha;have h2:=h1.2 (by simpa using ha);simp only[List.length_singleton]at h2;simp only;have h3:=ZgT hf ((r.at_ [40]).2.s.length+1) [] (r.at_ [40]).2;have h4:=(Zci (sg:=[41]) (Zb1 f ((r.at_ [40]).2.s.length+1) [] (r.at_ [40]).2).2).1;simp only[Tm.nodesL]at h3;simp only[Tm.nodes];split;·omega
  ·simp only[Rd.kill];omega
theorem ZkJ{f:Rd->Tm×Rd}(hf:∀r,(f r).1.nodes+(f r).2.s.length<=r.s.length+1)(c:UInt8)(rest:Str)(vars:List Str):(ZhP f c rest vars).1.nodes+(ZhP f c rest vars).2.s.length<=rest.length+2:=by
 unfold ZhP;split;·have :=ZeY (Zav (c::rest)) (c::rest);simp only[List.length_cons]at this;simp only[Tm.nodes,Tm.nodesL];omega
 ·split;·simp only[Tm.nodes,Tm.nodesL];omega
  ·split
   ·split;·have :=ZeY (ZaD (c::rest)) (c::rest);simp only[List.length_cons]at this;simp only[Tm.nodes,Tm.nodesL];omega
    ·simp only[Tm.nodes,Tm.nodesL,List.length_cons];omega
   ·have h1:=ZkI hf ((c::rest).take (Zav (c::rest))) ⟨(c::rest).drop (Zav (c::rest)),vars,false⟩;have h2:=ZeY (Zav (c::rest)) (c::rest);simp only[List.length_cons]at h1 h2;omega
theorem Ze4:∀(n:Nat)(r:Rd),(ZaW n r).1.nodes+(ZaW n r).2.s.length<=r.s.length+1
 |0,r=>by have :=Zbu r.s;simp only[ZaW,tmz,Tm.nodes,Tm.nodesL,Rd.kill,Rd.space];omega
 |n+1,r=>by
  have h0:=Zbu r.s;have hz:(tmz,r.space.kill).1.nodes+(tmz,r.space.kill).2.s.length<=r.s.length+1:=by simp only[tmz,Tm.nodes,Tm.nodesL,Rd.kill,Rd.space];omega
  unfold ZaW;split;·exact hz
  ·split;·exact hz
   ·rename_i c rest hs;have :=ZkJ (Ze4 n) c rest r.vars;rw[hs]at h0;simp only[List.length_cons]at h0;omega
theorem Zey{f:Rd->Tm×Rd}(hf:∀r,(f r).1.nodes+(f r).2.s.length<=r.s.length+1):∀(k:Nat)(l:List Tm)(r:Rd),Tm.nodesL (ZaT f k l r).1+(ZaT f k l r).2.s.length<=Tm.nodesL l+r.s.length+1
 |0,l,r=>by rw[ZaT];simp only;omega
 |k+1,l,r=>by
  rw[ZaT];have h1:=hf r;have h2:=Zci (sg:=[44]) (f r).2;have h3:Tm.nodesL (l++[(f r).1])=Tm.nodesL l+(f r).1.nodes:=by rw[Tm.nodesL_append];simp[Tm.nodesL]
  split;·simp only;omega
  ·split;·rename_i ha;have h4:=h2.2 ha;simp only[List.length_singleton]at h4;have :=Zey hf k (l++[(f r).1]) ((f r).2.at_ [44]).2;omega
   ·simp only;have :=h2.1;omega
theorem Zdq(r:Rd):Tm.nodesL (ZaZ r).1+(ZaZ r).2.s.length<=r.s.length+1:=by unfold ZaZ;have h1:=Zey (Ze4 24) (r.s.length+1) [] r;have h2:=(ZfC (sg:=[46]) (ZaT (ZaW 24) (r.s.length+1) [] r).2).1;simp only[Tm.nodesL]at h1 ⊢;omega
theorem Zez(r:Rd):(ZaK r).1.nodes+(ZaK r).2.s.length<=r.s.length+1/\((ZaK r).2.bad=false->(ZaK r).1.nodes+(ZaK r).2.s.length<=r.s.length):=by
 unfold ZaK;simp only;have h1:=Ze4 24 {r with vars:=[]};generalize ZaW 24 {r with vars:=[]}=X at*;have h2:=Zci (sg:=[58,45]) X.2;simp only at h1;split;·rename_i ha;have h3:=Zdq (X.2.at_ [58,45]).2;have h4:=h2.2 ha;simp only[List.length_cons,List.length_nil]at h4;simp only[Cl.nodes];exact⟨by omega,fun _=>by omega⟩
 ·have h3:=ZfC (sg:=[46]) (X.2.at_ [58,45]).2;have h4:=h2.1;simp only[List.length_cons,List.length_nil]at h3;simp only[Cl.nodes,Tm.nodesL];exact⟨by have :=h3.1;omega,fun h=>by have :=h3.2 h;omega⟩
theorem Zhm(l:List Cl)(c:Cl):Za7 (l++[c])=Za7 l+c.nodes:=by induction l with|nil=>simp[Za7]|cons x r ih=>rw[List.cons_append,Za7,Za7,ih];omega
theorem Zf4:∀(k:Nat)(l:List Cl)(r:Rd)(l':List Cl),Zb2 k l r=some l'->Za7 l'<=Za7 l+r.s.length
 |0,l,r,l',h=>by rw[Zb2]at h;simp only[Option.some.injEq]at h;subst h;omega
 |k+1,l,r,l',h=>by
  rw[Zb2]at h;split at h;·simp only[Option.some.injEq]at h;subst h;omega
  ·split at h;·cases h
   ·rename_i hb;have hb':(ZaK r.space).2.bad=false:=by
     by_cases h9:(ZaK r.space).2.bad=true;·exact absurd (.inl h9) hb
     ·simpa using h9
    have h1:=Zf4 k _ _ _ h;have h2:=(Zez r.space).2 hb';have h3:r.space.s.length<=r.s.length:=Zbu _;rw[Zhm]at h1;omega
theorem ZiS(s:Str):Za7 (Zbc s).1<=2000:=by
 unfold Zbc;split;·simp[Za7]
 ·cases h:Zb2 (s.length+1) [] ⟨s,[],false⟩with
   |none=>simp[ZgL,Za7]
   |some l=>
    have :=Zf4 _ _ _ _ h;simp only[Za7]at this;unfold ZgL;simp only;split;·simp[Za7]
    ·simp only;omega
theorem Zh9(s:Str):Tm.nodesL (ZaE s).1<=2001:=by
 unfold ZaE;split;·simp[Tm.nodesL]
 ·have :=Zdq ⟨s,[],false⟩;split;·simp[Tm.nodesL]
  ·simp only at this ⊢;omega
theorem ZgU:∀(k:Nat)(l:List Cl)(r:Rd)(l':List Cl),(∀c∈l,c.Good)->Zb2 k l r=some l'->∀c∈l',c.Good
 |0,l,r,l',hl,h=>by rw[Zb2]at h;simp only[Option.some.injEq]at h;subst h;exact hl
 |k+1,l,r,l',hl,h=>by
  rw[Zb2]at h;split at h;·simp only[Option.some.injEq]at h;subst h;exact hl
  ·split at h;·cases h
   ·rename_i hb;refine ZgU k _ _ _ (fun c hc=>?_) h;rcases List.mem_append.1 hc with hc|hc;·exact hl c hc
    ·simp only[List.mem_singleton]at hc;subst hc;exact Classical.byContradiction fun h9=>hb (.inr h9)
theorem ZkK{s:Str}(h:(Zbc s).2=0):GoodP (Zbc s).1:=by
 unfold Zbc at h ⊢;split at h;·simp at h
 ·rename_i hs;rw[if_neg hs];cases hp:Zb2 (s.length+1) [] ⟨s,[],false⟩with
   |none=>rw[hp]at h;simp[ZgL]at h
   |some l=>
    rw[hp]at h;unfold ZgL at h ⊢;simp only at h ⊢;split at h;·simp at h
    ·rename_i hl;rw[if_neg hl];exact⟨show l.length<=24 by omega,ZgU _ _ _ _ (by simp) hp⟩
theorem Zf5{s:Str}(h:(ZaE s).2.2=0):ZbQ (ZaE s).1 (ZaE s).2.1:=by
 unfold ZaE at h ⊢;split at h;·simp at h
 ·rename_i hs;rw[if_neg hs];split at h;·simp at h
  ·rename_i hb;rw[if_neg hb];exact Classical.byContradiction fun h9=>hb (.inr (.inr h9))
theorem Zly(s:Str):(Zbc s).2=0\/((Zbc s).1=[]/\((Zbc s).2=1\/(Zbc s).2=3)):=by
 unfold Zbc;split;·exact .inr ⟨rfl,.inr rfl⟩
 ·cases Zb2 (s.length+1) [] ⟨s,[],false⟩with
   |none=>exact .inr ⟨rfl,.inl rfl⟩
   |some l=>
    unfold ZgL;simp only;split;·exact .inr ⟨rfl,.inr rfl⟩
    ·exact .inl rfl
theorem ZgV(s:Str):(ZaE s).2.2=0\/((ZaE s).1=[]/\(ZaE s).2.1=0/\((ZaE s).2.2=1\/(ZaE s).2.2=3)):=by
 unfold ZaE;split;·exact .inr ⟨rfl,rfl,.inr rfl⟩
 ·split;·exact .inr ⟨rfl,rfl,.inl rfl⟩
  ·exact .inl rfl
end Go.Proofs.YtlpmfkpefoegeacDoor
namespace Go.Proofs.YtlpmfkpefoegeacDoor
set_option maxRecDepth 100000
set_option maxHeartbeats 16000000
set_option linter.all false
open Go.RowKit
def Zaq(st:List Int)(n:Int):Int×List Int:=if n∈st then((st.idxOf n:Nat),st)else((st.length:Nat),st++[n])
theorem ZjO(st:List Int)(n:Int):(Zaq st n).2.length<=st.length+1:=by unfold Zaq;split<;>simp
theorem Zlz{k:Nat}(h:k<=4194304):I64 (k:Int):=by unfold I64;omega
end Go.Proofs.YtlpmfkpefoegeacDoor
namespace Go.Proofs.YtlpmfkpefoegeacDoor
set_option maxRecDepth 100000
set_option maxHeartbeats 16000000
set_option linter.all false
def tidy(l:List Tm):List Tm:=(Tm.renSL Zaq [] l).1
namespace Tm
inductive Vars (p : Int → Prop) : Tm → Prop where
  | mk (k n : Int) (s : ByteArray) (l : List Tm) (h : k = 0 → p n) (hl : ∀ t ∈ l, Vars p t) : Vars p (mk k n s l)
end Tm
section
variable {p : Int → Prop} {g : Int → Int}
theorem Zf6(hg:∀a b,p a->p b->g a=g b->a=b){st:List Int}(hst:∀x∈st,p x){n:Int}(hn:p n):g n∈st.map g↔n∈st:=by
 constructor;·intro h;obtain⟨x,hx,he⟩:=List.mem_map.1 h;rw[hg n x hn (hst x hx) he.symm];exact hx
 ·exact fun h=>List.mem_map.2 ⟨n,h,rfl⟩
theorem ZeA(hg:∀a b,p a->p b->g a=g b->a=b){n:Int}(hn:p n):∀{st:List Int},(∀x∈st,p x)->(st.map g).idxOf (g n)=st.idxOf n
 |[],_=>rfl
 |x::st,hst=>by
  have ih:=ZeA hg hn (st:=st) (fun y hy=>hst y (List.mem_cons_of_mem _ hy));by_cases h:x=n;·subst h;simp
  ·have h1:¬g x=g n:=fun e=>h (hg x n (hst x (List.mem_cons_self ..)) hn e);simp only[List.map_cons,List.idxOf_cons,ih];have h2:(x==n)=false:=by simpa using h
   have h3:(g x==g n)=false:=by simpa using h1
   rw[h2,h3]
theorem ZlA(hg:∀a b,p a->p b->g a=g b->a=b){st:List Int}(hst:∀x∈st,p x){n:Int}(hn:p n):Zaq (st.map g) (g n)=((Zaq st n).1,(Zaq st n).2.map g)/\∀x∈(Zaq st n).2,p x:=by
 by_cases h:n∈st;·have h1:=(Zf6 hg hst hn).2 h;simp only[Zaq,h,if_true,h1,ZeA hg hn hst];exact⟨trivial,hst⟩
 ·have h1:¬g n∈st.map g:=fun e=>h ((Zf6 hg hst hn).1 e);simp only[Zaq,h,if_false,h1,List.length_map,List.map_append,List.map_cons,List.map_nil];refine⟨trivial,fun x hx=>?_⟩;rcases List.mem_append.1 hx with hx|hx;·exact hst x hx
  ·simp only[List.mem_singleton]at hx;subst hx;exact hn
theorem Zm2(hg:∀a b,p a->p b->g a=g b->a=b):∀(t:Tm)(st:List Int),t.Vars p->(∀x∈st,p x)->(t.ren g).renS Zaq (st.map g)=((t.renS Zaq st).1,(t.renS Zaq st).2.map g)/\∀x∈(t.renS Zaq st).2,p x:=by
 intro t;induction t using Tm.induct with
  |h k n s l ih=>
   intro st hv hst;obtain⟨_,_,_,_,hp,hl⟩:=hv;have hn:Tm.num Zaq (st.map g) k (if k=0 then g n else n)=((Tm.num Zaq st k n).1,(Tm.num Zaq st k n).2.map g)/\∀x∈(Tm.num Zaq st k n).2,p x:=by
    unfold Tm.num;by_cases e:k=0;·simp only[e,if_true];exact ZlA hg hst (hp e)
    ·simp only[e,if_false];exact⟨trivial,hst⟩
   have hL:∀(r:List Tm),(∀t∈r,t∈l)->∀st:List Int,(∀x∈st,p x)->Tm.renSL Zaq (st.map g) (Tm.renL g r)=((Tm.renSL Zaq st r).1,(Tm.renSL Zaq st r).2.map g)/\∀x∈(Tm.renSL Zaq st r).2,p x:=by intro r;induction r with|nil=>intro _ st hst;exact⟨rfl,hst⟩|cons x r ihr=>intro hm st hst;obtain⟨h1,h2⟩:=ih x (hm x (List.mem_cons_self ..)) st (hl x (hm x (List.mem_cons_self ..))) hst;obtain⟨h3,h4⟩:=ihr (fun t ht=>hm t (List.mem_cons_of_mem _ ht)) (x.renS Zaq st).2 h2;simp only[Tm.renL,Tm.renSL,h1,h3];exact⟨trivial,h4⟩
   obtain⟨h1,h2⟩:=hn;obtain⟨h3,h4⟩:=hL l (fun _ h=>h) _ h2;simp only[Tm.ren,Tm.renS,h1,h3];exact⟨trivial,h4⟩
theorem ZlB(hg:∀a b,p a->p b->g a=g b->a=b)(l:List Tm):∀(st:List Int),(∀t∈l,t.Vars p)->(∀x∈st,p x)->Tm.renSL Zaq (st.map g) (l.map (Tm.ren g))=((Tm.renSL Zaq st l).1,(Tm.renSL Zaq st l).2.map g):=by induction l with|nil=>intro st _ _;rfl|cons x r ihr=>intro st hv hst;obtain⟨h1,h2⟩:=Zm2 hg x st (hv x (List.mem_cons_self ..)) hst;simp only[List.map_cons,Tm.renSL,h1,ihr _ (fun t ht=>hv t (List.mem_cons_of_mem _ ht)) h2]
theorem Zm3(hg:∀a b,p a->p b->g a=g b->a=b)(l:List Tm)(hv:∀t∈l,t.Vars p):tidy (l.map (Tm.ren g))=tidy l:=by unfold tidy;rw[show([]:List Int)=([]:List Int).map g from rfl,ZlB hg l [] hv (fun x hx=>by cases hx)];rfl
end
abbrev Env:=List (Int×Tm)
def eget(E:Env)(n:Int):Option Tm:=(E.find? fun p=>p.1==n).map (·.2)
theorem eget_none{E:Env}{n:Int}:eget E n=none↔∀p∈E,p.1≠n:=by unfold eget;rw[Option.map_eq_none_iff,List.find?_eq_none];simp
theorem Zhn{E:Env}{n:Int}{t:Tm}(h:eget E n=some t):(n,t)∈E:=by unfold eget at h;rw[Option.map_eq_some_iff]at h;obtain⟨p,h1,rfl⟩:=h;have h2:=List.find?_some h1;have h3:=List.mem_of_find?_eq_some h1;simp only[beq_iff_eq]at h2;rw[<-h2];exact h3
theorem Zdr{E:Env}{v n:Int}{t:Tm}:eget (E++[(v,t)]) n=match eget E n with|some x=>some x|none=>if v=n then some t else none:=by unfold eget;rw[List.find?_append];cases h:E.find? (fun p=>p.1==n)with|some p=>simp|none=>by_cases e:v=n<;>simp[e]
def Zbq(E:Env):Nat->Tm->Tm|0,t=>t|k+1,t=>if t.kind=0 then(match eget E t.n with|none=>t|some x=>Zbq E k x)else t
def slook(E:Env)(t:Tm):Tm:=Zbq E (t.n.toNat+1) t
abbrev Tm.In(N:Int)(t:Tm):Prop:=t.Good N
theorem Tm.In.n{N:Int}{t:Tm}(h:t.In N)(hk:t.kind=0):0<=t.n/\t.n<N:=by cases h with|var n h0 h1=>exact⟨h0,h1⟩|atom=>cases hk|int=>cases hk|comp=>cases hk
theorem Tm.In.arg{N:Int}{t:Tm}(h:t.In N){x:Tm}(hx:x∈t.args):x.In N:=by cases h with|var=>cases hx|atom=>cases hx|int=>cases hx|comp _ _ _ _ _ _ h4=>exact h4 x hx
theorem Tm.In.mono{N N':Int}{t:Tm}(h:t.In N)(hN:N<=N'):t.In N':=by induction h with|var n h0 h1=>exact .var n h0 (by omega)|atom s h=>exact .atom s h|int n h0 h1=>exact .int n h0 h1|comp s l h h1 h2 h3 _ ih=>exact .comp s l h h1 h2 h3 ih
structure EnvOk (N : Int) (E : Env) : Prop where
  key : ∀ p ∈ E, 0 ≤ p.1 ∧ p.1 < N
  tm : ∀ p ∈ E, p.2.In N
  less : ∀ p ∈ E, p.2.kind = 0 → p.2.n < p.1
  nodup : (E.map (·.1)).Nodup
theorem EnvOk.nil(N:Int):EnvOk N []:=⟨by simp,by simp,by simp,by simp⟩
theorem EnvOk.mono{N N':Int}{E:Env}(h:EnvOk N E)(hN:N<=N'):EnvOk N' E:=⟨fun p hp=>⟨(h.key p hp).1,by have :=(h.key p hp).2;omega⟩,fun p hp=>(h.tm p hp).mono hN,h.less,h.nodup⟩
theorem EnvOk.take{N:Int}{E:Env}(h:EnvOk N E)(k:Nat):EnvOk N (E.take k):=⟨fun p hp=>h.key p (List.mem_of_mem_take hp),fun p hp=>h.tm p (List.mem_of_mem_take hp),fun p hp=>h.less p (List.mem_of_mem_take hp),by rw[List.map_take];exact h.nodup.sublist (List.take_sublist _ _)⟩
theorem EnvOk.snoc{N:Int}{E:Env}(h:EnvOk N E){v:Int}{t:Tm}(h0:0<=v)(h1:v<N)(hv:eget E v=none)(ht:t.In N)(hk:t.kind=0->t.n<v):EnvOk N (E++[(v,t)]):=by
 refine⟨fun p hp=>?_,fun p hp=>?_,fun p hp=>?_,?_⟩
 ·rcases List.mem_append.1 hp with hp|hp;·exact h.key p hp
  ·simp only[List.mem_singleton]at hp;subst hp;exact⟨h0,h1⟩
 ·rcases List.mem_append.1 hp with hp|hp;·exact h.tm p hp
  ·simp only[List.mem_singleton]at hp;subst hp;exact ht
 ·rcases List.mem_append.1 hp with hp|hp;·exact h.less p hp
  ·simp only[List.mem_singleton]at hp;subst hp;exact hk
 ·rw[List.map_append,List.nodup_append];refine⟨h.nodup,by simp,fun a ha b hb=>?_⟩;simp only[List.map_cons,List.map_nil,List.mem_singleton]at hb;subst hb;obtain⟨p,hp,rfl⟩:=List.mem_map.1 ha;exact eget_none.1 hv p hp
section
variable {N : Int} {E : Env}
theorem Zcm(h:EnvOk N E):∀(k:Nat)(t:Tm),t.In N->t.n.toNat<k->((Zbq E k t).kind=0->eget E (Zbq E k t).n=none)/\(Zbq E k t).In N/\∀k',t.n.toNat<k'->Zbq E k' t=Zbq E k t
 |0,t,ht,hk=>by omega
 |k+1,t,ht,hk=>by
  by_cases e:t.kind=0
  ·cases he:eget E t.n with
    |none=>refine⟨by simp[Zbq,e,he],by simpa[Zbq,e,he]using ht,fun k' hk'=>?_⟩;cases k' with|zero=>omega|succ k'=>simp[Zbq,e,he]
    |some x=>
     have hm:=Zhn he;have hx:x.In N:=h.tm _ hm;have hn:=ht.n e;by_cases ex:x.kind=0;·have hl:x.n<t.n:=h.less _ hm ex;have hx0:=hx.n ex;obtain⟨i1,i2,i3⟩:=Zcm h k x hx (by omega);refine⟨by simpa[Zbq,e,he]using i1,by simpa[Zbq,e,he]using i2,fun k' hk'=>?_⟩;cases k' with|zero=>omega|succ k'=>simp only[Zbq,e,he,if_true];exact i3 k' (by omega)
     ·have hs:∀k,Zbq E k x=x:=fun k=>by cases k<;>simp[Zbq,ex]
      refine⟨by simp[Zbq,e,he,hs,ex],by simpa[Zbq,e,he,hs]using hx,fun k' hk'=>?_⟩;cases k' with|zero=>omega|succ k'=>simp[Zbq,e,he,hs]
  ·refine⟨by simp[Zbq,e],by simpa[Zbq,e]using ht,fun k' hk'=>?_⟩;cases k' with|zero=>omega|succ k'=>simp[Zbq,e]
theorem ZcT(h:EnvOk N E){t:Tm}(ht:t.In N)(hk:(slook E t).kind=0):eget E (slook E t).n=none:=(Zcm h _ t ht (Nat.lt_succ_self _)).1 hk
theorem ZbU(h:EnvOk N E){t:Tm}(ht:t.In N):(slook E t).In N:=(Zcm h _ t ht (Nat.lt_succ_self _)).2.1
theorem Ze5(h:EnvOk N E){t x:Tm}(ht:t.In N)(hk:t.kind=0)(hx:eget E t.n=some x):slook E t=slook E x:=by
 have hm:=Zhn hx;have hxi:x.In N:=h.tm _ hm;have hn:=ht.n hk;unfold slook;rw[Zbq,if_pos hk,hx];by_cases ex:x.kind=0;·have hl:x.n<t.n:=h.less _ hm ex;have hx0:=hxi.n ex;exact(Zcm h _ x hxi (Nat.lt_succ_self _)).2.2 _ (by omega)
 ·have hs:∀k,Zbq E k x=x:=fun k=>by cases k<;>simp[Zbq,ex]
  simp only[hs]
theorem ZaG{t:Tm}(h:t.kind≠0\/eget E t.n=none):slook E t=t:=by
 unfold slook;rw[Zbq];split
 ·rename_i hk;rcases h with h|h;·exact absurd hk h
  ·rw[h]
 ·rfl
theorem ZgW(h:EnvOk N E){t:Tm}(ht:t.In N):slook E (slook E t)=slook E t:=by
 by_cases hk:(slook E t).kind=0;·exact ZaG (.inr (ZcT h ht hk))
 ·exact ZaG (.inl hk)
end
def inS(E:Env)(v:Int):Nat->List Tm->Bool×Int|w,[]=>(false,w)|0,_::_=>(false, -1)|w+1,z::r=>if(slook E z).kind=0 then(if(slook E z).n=v then(true,w)else inS E v w r)else inS E v w ((slook E z).args++r)
theorem ZlC(E:Env)(v:Int)(w:Nat):inS E v w []=(false,(w:Int)):=by cases w<;>rfl
theorem Zm4(E:Env)(v:Int)(z:Tm)(r:List Tm):inS E v 0 (z::r)=(false, -1):=rfl
theorem ZjP(E:Env)(v:Int)(w:Nat)(z:Tm)(r:List Tm):inS E v (w+1) (z::r)=if(slook E z).kind=0 then(if(slook E z).n=v then(true,(w:Int))else inS E v w r)else inS E v w ((slook E z).args++r):=rfl
structure US where
  ok : Bool
  env : Env
  work : Int
def tvar(n:Int):Tm:= .mk 0 n ByteArray.empty []
def Zds(w:Nat)(s:List (Tm×Tm))(E:Env):US:=match w,s with|w,[]=>⟨true,E,w⟩|0,_::_=>⟨false,E, -1⟩|w+1,(a,b)::r=>let x:=slook E a;let y:=slook E b;if x.kind=0/\y.kind=0 then(if x.n=y.n then Zds w r E else Zds w r (E++[(max x.n y.n,tvar (min x.n y.n))]))else if x.kind=0\/y.kind=0 then let v:=if y.kind=0 then y.n else x.n;let z:=if y.kind=0 then x else y;let p:=inS E v w [z];if p.1=true\/p.2<0 then⟨false,E,p.2⟩else Zds (min w p.2.toNat) r (E++[(v,z)])else if ¬(x.kind=y.kind/\x.n=y.n/\x.s=y.s/\x.args.length=y.args.length)then⟨false,E,w⟩else Zds w (x.args.zip y.args++r) E termination_by w decreasing_by all_goals omega
theorem ZfE(w:Nat)(E:Env):Zds w [] E=⟨true,E,w⟩:=by cases w<;>simp[Zds]
theorem Zia(p:Tm×Tm)(r:List (Tm×Tm))(E:Env):Zds 0 (p::r) E=⟨false,E, -1⟩:=by simp[Zds]
theorem ZdU{N:Int}:∀(w:Nat)(s:List (Tm×Tm))(E:Env),EnvOk N E->(∀p∈s,p.1.In N/\p.2.In N)->EnvOk N (Zds w s E).env/\(∃F,(Zds w s E).env=E++F/\F.length<=w):=by
 intro w;induction w using Nat.strongRecOn with
  |_ w ih=>
   intro s E hE hs;match w,s,ih,hs with
    |w,[],_,_=>rw[ZfE];exact⟨hE,[],by simp,by simp⟩
    |0,_::_,_,_=>rw[Zia];exact⟨hE,[],by simp,by simp⟩
    |w+1,(a,b)::r,ih,hs=>
     obtain⟨ha,hb⟩:=hs (a,b) (by simp);simp only at ha hb;have hr:∀p∈r,p.1.In N/\p.2.In N:=fun p hp=>hs p (by simp[hp]);have xa:=ZbU hE ha;have xb:=ZbU hE hb;have fa:=ZcT hE ha;have fb:=ZcT hE hb;rw[Zds];simp only;generalize slook E a=x at*;generalize slook E b=y at*;split
     ·rename_i hk;have na:=xa.n hk.1;have nb:=xb.n hk.2;split;·obtain⟨h1,F,h2,h3⟩:=ih w (by omega) r E hE hr;exact⟨h1,F,h2,by omega⟩
      ·rename_i hne;have hE':EnvOk N (E++[(max x.n y.n,tvar (min x.n y.n))]):=by
        refine hE.snoc (by omega) (by omega) ?_ (.var _ (by omega) (by omega)) (fun _=>by show min x.n y.n<max x.n y.n;omega);by_cases h:x.n<=y.n;·rw[Int.max_eq_right h];exact fb hk.2
        ·rw[Int.max_eq_left (by omega)];exact fa hk.1
       obtain⟨h1,F,h2,h3⟩:=ih w (by omega) r _ hE' hr;exact⟨h1,_,by rw[h2,List.append_assoc],by simp;omega⟩
     ·rename_i hk;split
      ·rename_i hk2;generalize inS E (if y.kind=0 then y.n else x.n) w [if y.kind=0 then x else y]=p;split;·exact⟨hE,[],by simp,by simp⟩
       ·have hE':EnvOk N (E++[(if y.kind=0 then y.n else x.n,if y.kind=0 then x else y)]):=by
         by_cases e:y.kind=0;·simp only[e,if_true];have nb:=xb.n e;exact hE.snoc nb.1 nb.2 (fb e) xa (fun h=>absurd ⟨h,e⟩ hk)
         ·simp only[e,if_false];have e':x.kind=0:=hk2.resolve_right e;have na:=xa.n e';exact hE.snoc na.1 na.2 (fa e') xb (fun h=>absurd h e)
        obtain⟨h1,F,h2,h3⟩:=ih (min w p.2.toNat) (by omega) r _ hE' hr;exact⟨h1,_,by rw[h2,List.append_assoc],by simp;omega⟩
      ·split;·exact⟨hE,[],by simp,by simp⟩
       ·obtain⟨h1,F,h2,h3⟩:=ih w (by omega) (x.args.zip y.args++r) E hE (fun p hp=>by
         rcases List.mem_append.1 hp with hp|hp;·have :=List.of_mem_zip hp;exact⟨xa.arg this.1,xb.arg this.2⟩
         ·exact hr p hp);exact⟨h1,F,h2,by omega⟩
def flL(E:Env)(w:Nat)(s:List Tm):Option (List Tm×Nat):=match w,s with|w,[]=>some ([],w)|0,_::_=>none|w+1,z::r=>let x:=slook E z;match flL E w x.args with|none=>none|some (ts,w1)=>match flL E (min w w1) r with|none=>none|some (rs,w2)=>some (.mk x.kind x.n x.s ts::rs,w2)termination_by w decreasing_by all_goals omega
theorem Zdt(E:Env)(w:Nat):flL E w []=some ([],w):=by cases w<;>simp[flL]
theorem ZdV(E:Env)(z:Tm)(r:List Tm):flL E 0 (z::r)=none:=by simp[flL]
theorem ZlD(E:Env):∀(w:Nat)(s ts:List Tm)(w':Nat),flL E w s=some (ts,w')->w'<=w/\ts.length=s.length:=by
 intro w;induction w using Nat.strongRecOn with
  |_ w ih=>
   intro s ts w' h;match w,s,ih,h with
    |w,[],_,h=>rw[Zdt]at h;simp at h;obtain⟨rfl,rfl⟩:=h;simp
    |0,_::_,_,h=>rw[ZdV]at h;cases h
    |w+1,a::r,ih,h=>
     rw[flL]at h;try simp only at h
     split at h;·simp at h
     ·rename_i _ ts1 w1 h1;have k1:=ih w (by omega) _ _ _ h1;rw[Nat.min_eq_right k1.1]at h;split at h;·simp at h
      ·rename_i _ rs w2 h2;have k2:=ih w1 (by omega) _ _ _ h2;simp only[Option.some.injEq,Prod.mk.injEq]at h;obtain⟨rfl,rfl⟩:=h;simp only[List.length_cons];omega
structure Ev where
  kind : Int
  terms : List Tm
structure Gl where
  t : Tm
  bar : Nat
structure Chc where
  g : List Gl
  at_ : Nat
  trail : Nat
structure Sv where
  env : Env
  choices : List Chc
  vars : Int
  fuel : Nat
  out : List Ev
inductive Res where
  | next (g : List Gl)
  | no
  | off
def Sv.put(s:Sv)(kind:Int):Sv:={s with out:=s.out++[⟨kind,[]⟩]}
def Za1(t:Tm)(d:Int):Tm:=t.ren fun n=>low n+low d
def Zfy(a b:Tm):Prop:=a.s=b.s/\a.args.length=b.args.length
noncomputable instance(a b:Tm):Decidable (Zfy a b):=by unfold Zfy;infer_instance
noncomputable def Zc3(P:List Cl)(t:Tm):Nat->Nat->Nat|0,k=>k|n+1,k=>match P[k]? with|none=>k|some c=>if Zfy c.head t then k else Zc3 P t n (k+1)
def Zm5(b:Nat)(d:Int)(l:List Tm)(rest:List Gl):List Gl:=(l.map fun t=>(⟨Za1 t d,b⟩:Gl))++rest
noncomputable def ZcM(P:List Cl)(g:Gl)(rest:List Gl):Nat->Nat->Sv->Res×Sv|0,_,s=>(.no,s)|n+1,k,s=>match P[k]? with|none=>(.no,s)|some c=>if ¬Zfy c.head g.t then ZcM P g rest n (k+1) s else let u:=Zds 400 [(Za1 c.head s.vars,g.t)] s.env;if u.work<0 then(.off,{s with env:=u.env}.put 4)else if u.ok=false then ZcM P g rest n (k+1) s else(.next (Zm5 s.choices.length s.vars c.body rest),{s with env:=u.env,choices:=if Zc3 P g.t (P.length - (k+1)) (k+1)<P.length then⟨g::rest,Zc3 P g.t (P.length - (k+1)) (k+1),s.env.length⟩::s.choices else s.choices,vars:=s.vars+c.vars})
noncomputable def ZcB(P:List Cl):List Chc->Sv->Res×Sv|[],s=>(.off,{s with choices:=[]}.put 2)|c::cs,s=>match c.g with|[]=>(.off,s)|g::rest=>match ZcM P g rest (P.length - c.at_) c.at_ {s with choices:=cs,env:=s.env.take c.trail}with|(.no,s')=>ZcB P cs s'|r=>r
noncomputable def ZcU(g:Gl)(s:Sv):Option Bool×Sv:=if g.t.s.toList=[33]then(some true,{s with choices:=s.choices.drop (s.choices.length - g.bar)})else if g.t.s.toList=[116,114,117,101]then(some true,s)else if g.t.s.toList=[102,97,105,108]then(some false,s)else if g.t.s.toList=[101,113]then let u:=Zds 400 [((g.t.args[0]?).getD default,(g.t.args[1]?).getD default)] s.env;if u.work<0 then(none,{s with env:=u.env}.put 4)else(some u.ok,{s with env:=u.env})else let a:=slook s.env ((g.t.args[0]?).getD default);let b:=slook s.env ((g.t.args[1]?).getD default);if a.kind≠2\/b.kind≠2 then(none,s.put 5)else if g.t.s.toList=[108,101,115,115]then(some (decide (a.n<b.n)),s)else if a.n+b.n>1099511627776\/a.n+b.n< -1099511627776 then(none,s.put 5)else let u:=Zds 400 [((g.t.args[2]?).getD default,.mk 2 (a.n+b.n) ByteArray.empty [])] s.env;(some u.ok,{s with env:=u.env})
noncomputable def ZeB(P:List Cl)(g:Gl)(rest:List Gl)(s:Sv):Res×Sv:=if s.fuel=0 then(.off,s.put 3)else let s:={s with fuel:=s.fuel - 1};haveI :=Classical.propDecidable g.t.Known;if g.t.Known then match ZcU g s with|(none,s')=>(.off,s')|(some true,s')=>(.next rest,s')|(some false,s')=>ZcB P s'.choices s' else if ∀c∈P,¬Zfy c.head g.t then(.off,s.put 5)else match ZcM P g rest P.length 0 s with|(.no,s')=>ZcB P s'.choices s'|r=>r
def Zby(q:Nat)(s:Sv):Bool×Sv:=match flL s.env 200 ((List.range q).map fun i=>tvar (i:Nat))with|none=>(false,s.put 4)|some (l,_)=>let s:={s with out:=s.out++[⟨1,tidy l⟩]};if s.out.length≥12 then(false,s.put 6)else(true,s)
noncomputable def ZjQ(P:List Cl)(q:Nat):Nat->List Gl->Sv->Sv
 |0,_,s=>s
 |n+1,[],s=>match Zby q s with|(false,s')=>s'|(true,s')=>match ZcB P s'.choices s' with|(.next g,s'')=>ZjQ P q n g s''|(_,s'')=>s''
 |n+1,g::rest,s=>match ZeB P g rest s with|(.next g',s')=>ZjQ P q n g' s'|(_,s')=>s'
noncomputable def Zda(P:List Cl)(Q:List Tm)(vars fuel:Int):List Ev×Int:=haveI :=Classical.propDecidable (GoodP P/\ZbQ Q vars);if ¬(GoodP P/\ZbQ Q vars)then([],1)else if fuel<0\/fuel>150 then([],2)else((ZjQ P vars.toNat (fuel.toNat+14) (Q.map fun t=>⟨t,0⟩) ⟨[],[],vars,fuel.toNat,[]⟩).out,0)
end Go.Proofs.YtlpmfkpefoegeacDoor
