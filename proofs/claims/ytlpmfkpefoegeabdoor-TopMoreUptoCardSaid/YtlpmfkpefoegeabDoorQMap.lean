import Derived.Test.YtlpmfkpefoegeabDoorPRead2
import Derived.Test.YtlpmfkpefoegeabDoorQCopy
import Derived.Carry
namespace Go.Proofs.YtlpmfkpefoegeabDoor
set_option maxRecDepth 100000
set_option maxHeartbeats 16000000
set_option linter.all false
theorem Zg5{f:Rd->Tm×Rd}(hf:∀r,(f r).1.nodes+(f r).2.s.length<=r.s.length+1):∀(k:Nat)(l:List Tm)(r:Rd),Tm.nodesL (Zb5 f k l r).1+(Zb5 f k l r).2.s.length<=Tm.nodesL l+r.s.length+1
 |0,l,r=>by rw[Zb5];simp only;omega
 |k+1,l,r=>by
  rw[Zb5];have h1:=hf r;have h2:=Zco (sg:=[44]) (f r).2;have h3:Tm.nodesL (l++[(f r).1])=Tm.nodesL l+(f r).1.nodes:=by rw[Tm.nodesL_append];simp[Tm.nodesL]
  split;·simp only;omega
  ·split;·rename_i ha;have h4:=h2.2 ha;simp only[List.length_singleton]at h4;have :=Zg5 hf k (l++[(f r).1]) ((f r).2.at_ [44]).2;omega
   ·simp only;have :=h2.1;omega
theorem ZkT{f:Rd->Tm×Rd}(hf:∀r,(f r).1.nodes+(f r).2.s.length<=r.s.length+1)(w:Str)(r:Rd):(Zh2 f w r).1.nodes+(Zh2 f w r).2.s.length<=r.s.length+1:=by
 unfold Zh2;have h1:=Zco (sg:=[40]) r;split;·have :=h1.1;simp only[Tm.nodes,Tm.nodesL];omega
 ·rename_i ha;have h2:=h1.2 (by simpa using ha);simp only[List.length_singleton]at h2;simp only;have h3:=Zg5 hf ((r.at_ [40]).2.s.length+1) [] (r.at_ [40]).2;have h4:=(Zco (sg:=[41]) (Zb5 f ((r.at_ [40]).2.s.length+1) [] (r.at_ [40]).2).2).1;simp only[Tm.nodesL]at h3;simp only[Tm.nodes];split;·omega
  ·simp only[Rd.kill];omega
theorem ZkU{f:Rd->Tm×Rd}(hf:∀r,(f r).1.nodes+(f r).2.s.length<=r.s.length+1)(c:UInt8)(rest:Str)(vars:List Str):(Zh3 f c rest vars).1.nodes+(Zh3 f c rest vars).2.s.length<=rest.length+2:=by
 unfold Zh3;split;·have :=Ze6 (Zaw (c::rest)) (c::rest);simp only[List.length_cons]at this;simp only[Tm.nodes,Tm.nodesL];omega
 ·split;·simp only[Tm.nodes,Tm.nodesL];omega
  ·split
   ·split;·have :=Ze6 (ZaD (c::rest)) (c::rest);simp only[List.length_cons]at this;simp only[Tm.nodes,Tm.nodesL];omega
    ·simp only[Tm.nodes,Tm.nodesL,List.length_cons];omega
   ·have h1:=ZkT hf ((c::rest).take (Zaw (c::rest))) ⟨(c::rest).drop (Zaw (c::rest)),vars,false⟩;have h2:=Ze6 (Zaw (c::rest)) (c::rest);simp only[List.length_cons]at h1 h2;omega
theorem Zfc:∀(n:Nat)(r:Rd),(ZaW n r).1.nodes+(ZaW n r).2.s.length<=r.s.length+1
 |0,r=>by have :=Zbw r.s;simp only[ZaW,tmz,Tm.nodes,Tm.nodesL,Rd.kill,Rd.space];omega
 |n+1,r=>by
  have h0:=Zbw r.s;have hz:(tmz,r.space.kill).1.nodes+(tmz,r.space.kill).2.s.length<=r.s.length+1:=by simp only[tmz,Tm.nodes,Tm.nodesL,Rd.kill,Rd.space];omega
  unfold ZaW;split;·exact hz
  ·split;·exact hz
   ·rename_i c rest hs;have :=ZkU (Zfc n) c rest r.vars;rw[hs]at h0;simp only[List.length_cons]at h0;omega
theorem ZeG{f:Rd->Tm×Rd}(hf:∀r,(f r).1.nodes+(f r).2.s.length<=r.s.length+1):∀(k:Nat)(l:List Tm)(r:Rd),Tm.nodesL (ZaT f k l r).1+(ZaT f k l r).2.s.length<=Tm.nodesL l+r.s.length+1
 |0,l,r=>by rw[ZaT];simp only;omega
 |k+1,l,r=>by
  rw[ZaT];have h1:=hf r;have h2:=Zco (sg:=[44]) (f r).2;have h3:Tm.nodesL (l++[(f r).1])=Tm.nodesL l+(f r).1.nodes:=by rw[Tm.nodesL_append];simp[Tm.nodesL]
  split;·simp only;omega
  ·split;·rename_i ha;have h4:=h2.2 ha;simp only[List.length_singleton]at h4;have :=ZeG hf k (l++[(f r).1]) ((f r).2.at_ [44]).2;omega
   ·simp only;have :=h2.1;omega
theorem Zdx(r:Rd):Tm.nodesL (ZaZ r).1+(ZaZ r).2.s.length<=r.s.length+1:=by unfold ZaZ;have h1:=ZeG (Zfc 24) (r.s.length+1) [] r;have h2:=(ZfL (sg:=[46]) (ZaT (ZaW 24) (r.s.length+1) [] r).2).1;simp only[Tm.nodesL]at h1 ⊢;omega
theorem ZeH(r:Rd):(ZaK r).1.nodes+(ZaK r).2.s.length<=r.s.length+1/\((ZaK r).2.bad=false->(ZaK r).1.nodes+(ZaK r).2.s.length<=r.s.length):=by
 unfold ZaK;simp only;have h1:=Zfc 24 {r with vars:=[]};generalize ZaW 24 {r with vars:=[]}=X at*;have h2:=Zco (sg:=[58,45]) X.2;simp only at h1;split;·rename_i ha;have h3:=Zdx (X.2.at_ [58,45]).2;have h4:=h2.2 ha;simp only[List.length_cons,List.length_nil]at h4;simp only[Cl.nodes];exact⟨by omega,fun _=>by omega⟩
 ·have h3:=ZfL (sg:=[46]) (X.2.at_ [58,45]).2;have h4:=h2.1;simp only[List.length_cons,List.length_nil]at h3;simp only[Cl.nodes,Tm.nodesL];exact⟨by have :=h3.1;omega,fun h=>by have :=h3.2 h;omega⟩
theorem ZhA(l:List Cl)(c:Cl):Za7 (l++[c])=Za7 l+c.nodes:=by induction l with|nil=>simp[Za7]|cons x r ih=>rw[List.cons_append,Za7,Za7,ih];omega
theorem Zgf:∀(k:Nat)(l:List Cl)(r:Rd)(l':List Cl),Zb6 k l r=some l'->Za7 l'<=Za7 l+r.s.length
 |0,l,r,l',h=>by rw[Zb6]at h;simp only[Option.some.injEq]at h;subst h;omega
 |k+1,l,r,l',h=>by
  rw[Zb6]at h;split at h;·simp only[Option.some.injEq]at h;subst h;omega
  ·split at h;·cases h
   ·rename_i hb;have hb':(ZaK r.space).2.bad=false:=by
     by_cases h9:(ZaK r.space).2.bad=true;·exact absurd (.inl h9) hb
     ·simpa using h9
    have h1:=Zgf k _ _ _ h;have h2:=(ZeH r.space).2 hb';have h3:r.space.s.length<=r.s.length:=Zbw _;rw[ZhA]at h1;omega
theorem Zi5(s:Str):Za7 (Zbd s).1<=2000:=by
 unfold Zbd;split;·simp[Za7]
 ·cases h:Zb6 (s.length+1) [] ⟨s,[],false⟩with
   |none=>simp[ZgW,Za7]
   |some l=>
    have :=Zgf _ _ _ _ h;simp only[Za7]at this;unfold ZgW;simp only;split;·simp[Za7]
    ·simp only;omega
theorem Zin(s:Str):Tm.nodesL (ZaF s).1<=2001:=by
 unfold ZaF;split;·simp[Tm.nodesL]
 ·have :=Zdx ⟨s,[],false⟩;split;·simp[Tm.nodesL]
  ·simp only at this ⊢;omega
theorem Zg6:∀(k:Nat)(l:List Cl)(r:Rd)(l':List Cl),(∀c∈l,c.Good)->Zb6 k l r=some l'->∀c∈l',c.Good
 |0,l,r,l',hl,h=>by rw[Zb6]at h;simp only[Option.some.injEq]at h;subst h;exact hl
 |k+1,l,r,l',hl,h=>by
  rw[Zb6]at h;split at h;·simp only[Option.some.injEq]at h;subst h;exact hl
  ·split at h;·cases h
   ·rename_i hb;refine Zg6 k _ _ _ (fun c hc=>?_) h;rcases List.mem_append.1 hc with hc|hc;·exact hl c hc
    ·simp only[List.mem_singleton]at hc;subst hc;exact Classical.byContradiction fun h9=>hb (.inr h9)
theorem ZkV{s:Str}(h:(Zbd s).2=0):GoodP (Zbd s).1:=by
 unfold Zbd at h ⊢;split at h;·simp at h
 ·rename_i hs;rw[if_neg hs];cases hp:Zb6 (s.length+1) [] ⟨s,[],false⟩with
   |none=>rw[hp]at h;simp[ZgW]at h
   |some l=>
    rw[hp]at h;unfold ZgW at h ⊢;simp only at h ⊢;split at h;·simp at h
    ·rename_i hl;rw[if_neg hl];exact⟨show l.length<=24 by omega,Zg6 _ _ _ _ (by simp) hp⟩
theorem Zgg{s:Str}(h:(ZaF s).2.2=0):ZbT (ZaF s).1 (ZaF s).2.1:=by
 unfold ZaF at h ⊢;split at h;·simp at h
 ·rename_i hs;rw[if_neg hs];split at h;·simp at h
  ·rename_i hb;rw[if_neg hb];exact Classical.byContradiction fun h9=>hb (.inr (.inr h9))
theorem ZlJ(s:Str):(Zbd s).2=0\/((Zbd s).1=[]/\((Zbd s).2=1\/(Zbd s).2=3)):=by
 unfold Zbd;split;·exact .inr ⟨rfl,.inr rfl⟩
 ·cases Zb6 (s.length+1) [] ⟨s,[],false⟩with
   |none=>exact .inr ⟨rfl,.inl rfl⟩
   |some l=>
    unfold ZgW;simp only;split;·exact .inr ⟨rfl,.inr rfl⟩
    ·exact .inl rfl
theorem Zg7(s:Str):(ZaF s).2.2=0\/((ZaF s).1=[]/\(ZaF s).2.1=0/\((ZaF s).2.2=1\/(ZaF s).2.2=3)):=by
 unfold ZaF;split;·exact .inr ⟨rfl,rfl,.inr rfl⟩
 ·split;·exact .inr ⟨rfl,rfl,.inl rfl⟩
  ·exact .inl rfl
end Go.Proofs.YtlpmfkpefoegeabDoor
namespace Go.Proofs.YtlpmfkpefoegeabDoor
set_option maxRecDepth 100000
set_option maxHeartbeats 16000000
set_option linter.all false
open Go.RowKit
def ZpV(w:World)(r:Nat)(L:List (Int×Value)):Prop:=∃es clock,w.heap[r]?=some (.map es clock)/\es.toList.map (fun e=>(e.key,e.val))=L.map (fun p=>(Value.int .i64 p.1,p.2))
section
variable {P : Program} {t e : TypeId} {z : Value} {w : World} {r : Nat} {L : List (Int × Value)} {n : Int}
end
end Go.Proofs.YtlpmfkpefoegeabDoor
