import Derived.Test.YtlpmfkpefoegeabDoorPRead2
import Derived.Test.YtlpmfkpefoegeabDoorQCopy
import Derived.Carry
namespace Go.Proofs.YtlpmfkpefoegeabDoor
set_option maxRecDepth 100000
set_option maxHeartbeats 16000000
set_option linter.all false
theorem ZgT{f:Rd->Tm×Rd}(hf:∀r,(f r).1.nodes+(f r).2.s.length<=r.s.length+1):∀(k:Nat)(l:List Tm)(r:Rd),Tm.nodesL (Zb1 f k l r).1+(Zb1 f k l r).2.s.length<=Tm.nodesL l+r.s.length+1
 |0,l,r=>by rw[Zb1];simp only;omega
 |k+1,l,r=>by
  rw[Zb1];have h1:=hf r;have h2:=Zcg (sg:=[44]) (f r).2;have h3:Tm.nodesL (l++[(f r).1])=Tm.nodesL l+(f r).1.nodes:=by rw[Tm.nodesL_append];simp[Tm.nodesL]
  split;·simp only;omega
  ·split;·rename_i ha;have h4:=h2.2 ha;simp only[List.length_singleton]at h4;have :=ZgT hf k (l++[(f r).1]) ((f r).2.at_ [44]).2;omega
   ·simp only;have :=h2.1;omega
theorem ZkI{f:Rd->Tm×Rd}(hf:∀r,(f r).1.nodes+(f r).2.s.length<=r.s.length+1)(w:Str)(r:Rd):(ZhP f w r).1.nodes+(ZhP f w r).2.s.length<=r.s.length+1:=by
 unfold ZhP;have h1:=Zcg (sg:=[40]) r;split;·have :=h1.1;simp only[Tm.nodes,Tm.nodesL];omega
 ·rename_i ha;have h2:=h1.2 (by simpa using ha);simp only[List.length_singleton]at h2;simp only;have h3:=ZgT hf ((r.at_ [40]).2.s.length+1) [] (r.at_ [40]).2;have h4:=(Zcg (sg:=[41]) (Zb1 f ((r.at_ [40]).2.s.length+1) [] (r.at_ [40]).2).2).1;simp only[Tm.nodesL]at h3;simp only[Tm.nodes];split;·omega
  ·simp only[Rd.kill];omega
theorem ZkJ{f:Rd->Tm×Rd}(hf:∀r,(f r).1.nodes+(f r).2.s.length<=r.s.length+1)(c:UInt8)(rest:Str)(vars:List Str):(ZhQ f c rest vars).1.nodes+(ZhQ f c rest vars).2.s.length<=rest.length+2:=by
 unfold ZhQ;split;·have :=Ze0 (Zax (c::rest)) (c::rest);simp only[List.length_cons]at this;simp only[Tm.nodes,Tm.nodesL];omega
 ·split;·simp only[Tm.nodes,Tm.nodesL];omega
  ·split
   ·split;·have :=Ze0 (ZaD (c::rest)) (c::rest);simp only[List.length_cons]at this;simp only[Tm.nodes,Tm.nodesL];omega
    ·simp only[Tm.nodes,Tm.nodesL,List.length_cons];omega
   ·have h1:=ZkI hf ((c::rest).take (Zax (c::rest))) ⟨(c::rest).drop (Zax (c::rest)),vars,false⟩;have h2:=Ze0 (Zax (c::rest)) (c::rest);simp only[List.length_cons]at h1 h2;omega
theorem Ze6:∀(n:Nat)(r:Rd),(ZaW n r).1.nodes+(ZaW n r).2.s.length<=r.s.length+1
 |0,r=>by have :=Zbu r.s;simp only[ZaW,tmz,Tm.nodes,Tm.nodesL,Rd.kill,Rd.space];omega
 |n+1,r=>by
  have h0:=Zbu r.s;have hz:(tmz,r.space.kill).1.nodes+(tmz,r.space.kill).2.s.length<=r.s.length+1:=by simp only[tmz,Tm.nodes,Tm.nodesL,Rd.kill,Rd.space];omega
  unfold ZaW;split;·exact hz
  ·split;·exact hz
   ·rename_i c rest hs;have :=ZkJ (Ze6 n) c rest r.vars;rw[hs]at h0;simp only[List.length_cons]at h0;omega
theorem ZeB{f:Rd->Tm×Rd}(hf:∀r,(f r).1.nodes+(f r).2.s.length<=r.s.length+1):∀(k:Nat)(l:List Tm)(r:Rd),Tm.nodesL (ZaT f k l r).1+(ZaT f k l r).2.s.length<=Tm.nodesL l+r.s.length+1
 |0,l,r=>by rw[ZaT];simp only;omega
 |k+1,l,r=>by
  rw[ZaT];have h1:=hf r;have h2:=Zcg (sg:=[44]) (f r).2;have h3:Tm.nodesL (l++[(f r).1])=Tm.nodesL l+(f r).1.nodes:=by rw[Tm.nodesL_append];simp[Tm.nodesL]
  split;·simp only;omega
  ·split;·rename_i ha;have h4:=h2.2 ha;simp only[List.length_singleton]at h4;have :=ZeB hf k (l++[(f r).1]) ((f r).2.at_ [44]).2;omega
   ·simp only;have :=h2.1;omega
theorem Zdq(r:Rd):Tm.nodesL (ZaZ r).1+(ZaZ r).2.s.length<=r.s.length+1:=by unfold ZaZ;have h1:=ZeB (Ze6 24) (r.s.length+1) [] r;have h2:=(ZfG (sg:=[46]) (ZaT (ZaW 24) (r.s.length+1) [] r).2).1;simp only[Tm.nodesL]at h1 ⊢;omega
theorem ZeC(r:Rd):(ZaJ r).1.nodes+(ZaJ r).2.s.length<=r.s.length+1/\((ZaJ r).2.bad=false->(ZaJ r).1.nodes+(ZaJ r).2.s.length<=r.s.length):=by
 unfold ZaJ;simp only;have h1:=Ze6 24 {r with vars:=[]};generalize ZaW 24 {r with vars:=[]}=X at*;have h2:=Zcg (sg:=[58,45]) X.2;simp only at h1;split;·rename_i ha;have h3:=Zdq (X.2.at_ [58,45]).2;have h4:=h2.2 ha;simp only[List.length_cons,List.length_nil]at h4;simp only[Cl.nodes];exact⟨by omega,fun _=>by omega⟩
 ·have h3:=ZfG (sg:=[46]) (X.2.at_ [58,45]).2;have h4:=h2.1;simp only[List.length_cons,List.length_nil]at h3;simp only[Cl.nodes,Tm.nodesL];exact⟨by have :=h3.1;omega,fun h=>by have :=h3.2 h;omega⟩
theorem Zhl(l:List Cl)(c:Cl):Za8 (l++[c])=Za8 l+c.nodes:=by induction l with|nil=>simp[Za8]|cons x r ih=>rw[List.cons_append,Za8,Za8,ih];omega
theorem Zf8:∀(k:Nat)(l:List Cl)(r:Rd)(l':List Cl),Zck k l r=some l'->Za8 l'<=Za8 l+r.s.length
 |0,l,r,l',h=>by rw[Zck]at h;simp only[Option.some.injEq]at h;subst h;omega
 |k+1,l,r,l',h=>by
  rw[Zck]at h;split at h;·simp only[Option.some.injEq]at h;subst h;omega
  ·split at h;·cases h
   ·rename_i hb;have hb':(ZaJ r.space).2.bad=false:=by
     by_cases h9:(ZaJ r.space).2.bad=true;·exact absurd (.inl h9) hb
     ·simpa using h9
    have h1:=Zf8 k _ _ _ h;have h2:=(ZeC r.space).2 hb';have h3:r.space.s.length<=r.s.length:=Zbu _;rw[Zhl]at h1;omega
theorem ZiU(s:Str):Za8 (Zbw s).1<=2000:=by
 unfold Zbw;split;·simp[Za8]
 ·cases h:Zck (s.length+1) [] ⟨s,[],false⟩with
   |none=>simp[Zh0,Za8]
   |some l=>
    have :=Zf8 _ _ _ _ h;simp only[Za8]at this;unfold Zh0;simp only;split;·simp[Za8]
    ·simp only;omega
theorem Zib(s:Str):Tm.nodesL (ZaK s).1<=2001:=by
 unfold ZaK;split;·simp[Tm.nodesL]
 ·have :=Zdq ⟨s,[],false⟩;split;·simp[Tm.nodesL]
  ·simp only at this ⊢;omega
theorem ZiV{s:Str}(h:(ZaK s).2.2=0):ZbQ (ZaK s).1 (ZaK s).2.1:=by
 unfold ZaK at h ⊢;split at h;·simp at h
 ·rename_i hs;rw[if_neg hs];split at h;·simp at h
  ·rename_i hb;rw[if_neg hb];exact Classical.byContradiction fun h9=>hb (.inr (.inr h9))
theorem Zlz(s:Str):(Zbw s).2=0\/((Zbw s).1=[]/\((Zbw s).2=1\/(Zbw s).2=3)):=by
 unfold Zbw;split;·exact .inr ⟨rfl,.inr rfl⟩
 ·cases Zck (s.length+1) [] ⟨s,[],false⟩with
   |none=>exact .inr ⟨rfl,.inl rfl⟩
   |some l=>
    unfold Zh0;simp only;split;·exact .inr ⟨rfl,.inr rfl⟩
    ·exact .inl rfl
theorem ZgU(s:Str):(ZaK s).2.2=0\/((ZaK s).1=[]/\(ZaK s).2.1=0/\((ZaK s).2.2=1\/(ZaK s).2.2=3)):=by
 unfold ZaK;split;·exact .inr ⟨rfl,rfl,.inr rfl⟩
 ·split;·exact .inr ⟨rfl,rfl,.inl rfl⟩
  ·exact .inl rfl
end Go.Proofs.YtlpmfkpefoegeabDoor
namespace Go.Proofs.YtlpmfkpefoegeabDoor
set_option maxRecDepth 100000
set_option maxHeartbeats 16000000
set_option linter.all false
open Go.RowKit
def ZpF(w:World)(r:Nat)(L:List (Int×Value)):Prop:=∃es clock,w.heap[r]?=some (.map es clock)/\es.toList.map (fun e=>(e.key,e.val))=L.map (fun p=>(Value.int .i64 p.1,p.2))
section
variable {P : Program} {t e : TypeId} {z : Value} {w : World} {r : Nat} {L : List (Int × Value)} {n : Int}
end
end Go.Proofs.YtlpmfkpefoegeabDoor
