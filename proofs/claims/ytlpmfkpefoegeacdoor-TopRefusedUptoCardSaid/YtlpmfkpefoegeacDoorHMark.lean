import Derived.Test.YtlpmfkpefoegeacDoorPMMor
namespace Go.Proofs.YtlpmfkpefoegeacDoor
set_option maxRecDepth 100000
set_option maxHeartbeats 16000000
set_option linter.all false
def unm:List Bool->Nat|[]=>0|b::r=>(if b=true then 0 else 1)+unm r
theorem Zoa:∀(m:List Bool),unm m<=m.length|[]=>zL _|b::r=>by have :=Zoa r;unfold unm;split<;>simp<;>omega
theorem Zjf:∀(m:List Bool)(k:Nat),m[k]?=some false->unm (m.set k true)+1=unm m|[],k,h=>by simp at h|b::r,0,h=>by simp at h;subst h;simp[unm];omega|b::r,k+1,h=>by have :=Zjf r k (by simpa using h);simp only[List.set_cons_succ,unm];omega
def pushes(k:Nat)(c:Ce):List Int:=if c.kind=0 then[c.n]else if c.kind=3 then Zam (k:Int) c.n else[]
theorem Zk9(l:List Ce)(hg:GoodC l){k:Nat}(hk:k<l.length):(pushes k l[k]).length<=4:=by
 have h1:=hg k hk;unfold Ce.OkAt at h1;unfold pushes;split;·simp
 ·split;·rw[ZkF];omega
  ·simp
theorem Zfv{l:List Ce}(hg:GoodC l){k j:Nat}(hk:k<l.length):(j:Int)∈pushes k l[k]↔Leads l k j:=by
 have h1:=hg k hk;unfold Leads pushes;rw[ZaC hk];by_cases h0:l[k].kind=0
 ·rw[if_pos h0];simp only[List.mem_singleton,h0,true_and];constructor;·intro e;exact .inl e.symm
  ·rintro(e|⟨e,_⟩);·exact e.symm
   ·omega
 ·rw[if_neg h0];by_cases h3:l[k].kind=3
  ·rw[if_pos h3];unfold Zam;simp only[List.mem_map,List.mem_range,h3,true_and];constructor;·rintro⟨i,hi,e⟩;exact .inr ⟨by omega,by omega⟩
   ·rintro(⟨e,_⟩|⟨e1,e2⟩);·omega
    ·exact⟨j - k - 1,by omega,by omega⟩
  ·rw[if_neg h3];simp[h0,h3]
structure MkSt (l : List Ce) (roots : List Int) (m : List Bool) (st : List Int) : Prop where
  len : m.length = l.length
  rts : ∀ i : Nat, (i : Int) ∈ roots → i < l.length → m[i]? = some true ∨ (i : Int) ∈ st
  closed : ∀ i j, m[i]? = some true → Leads l i j → m[j]? = some true ∨ (j : Int) ∈ st
  sound : ∀ i, m[i]? = some true → Reach l roots i
  todo : ∀ i : Nat, (i : Int) ∈ st → i < l.length → Reach l roots i
  few : st.length + 5 * unm m ≤ roots.length + 5 * l.length
theorem MkSt.start(l:List Ce)(roots:List Int):MkSt l roots (List.replicate l.length false) roots:=by
 refine⟨by simp,fun i h _=> .inr h,fun i j h=>?_,fun i h=>?_,fun i h1 h2=> .root h1 h2,?_⟩;·rw[List.getElem?_replicate]at h;split at h<;>simp at h
 ·rw[List.getElem?_replicate]at h;split at h<;>simp at h
 ·have :=Zoa (List.replicate l.length false);simp at this ⊢;omega
section
variable {l : List Ce} {roots : List Int} {m : List Bool} {st : List Int} {a : Int}
theorem MkSt.skip(h:MkSt l roots m (st++[a]))(ha:∀k:Nat,a=(k:Int)->k<l.length->m[k]?=some true)(hg:GoodC l):MkSt l roots m st:=by
 have key:∀i:Nat,i<l.length->(i:Int)∈st++[a]->m[i]?=some true\/(i:Int)∈st:=fun i hi hm=>by
  rcases List.mem_append.1 hm with h1|h1;·exact .inr h1
  ·simp only[List.mem_singleton]at h1;exact .inl (ha i h1.symm hi)
 refine⟨h.len,fun i h1 h2=>?_,fun i j h1 h2=>?_,h.sound,fun i h1 h2=>h.todo i (List.mem_append.2 (.inl h1)) h2,?_⟩
 ·rcases h.rts i h1 h2 with k|k;·exact .inl k
  ·exact key i h2 k
 ·rcases h.closed i j h1 h2 with k|k;·exact .inl k
  ·exact key j (hg.leads (by rw[<-h.len];exact(List.getElem?_eq_some_iff.1 h1).1) h2) k
 ·have :=h.few;simp only[List.length_append,List.length_singleton]at this;omega
theorem MkSt.mark{k:Nat}(h:MkSt l roots m (st++[(k:Int)]))(hk:k<l.length)(hm:m[k]?=some false)(hg:GoodC l):MkSt l roots (m.set k true) (st++pushes k l[k]):=by
 have hr:Reach l roots k:=h.todo k (by simp) hk;have hkm:k<m.length:=by rw[h.len];exact hk
 have get:∀i,(m.set k true)[i]?=some true↔i=k\/m[i]?=some true:=fun i=>by
  rw[List.getElem?_set];by_cases e:k=i;·subst e;simp[hkm]
  ·rw[if_neg e];constructor;·exact .inr
   ·rintro(e'|e');·exact absurd e'.symm e
    ·exact e'
 refine⟨by simp[h.len],fun i h1 h2=>?_,fun i j h1 h2=>?_,fun i h1=>?_,fun i h1 h2=>?_,?_⟩
 ·rcases h.rts i h1 h2 with q|q;·exact .inl ((get i).2 (.inr q))
  ·rcases List.mem_append.1 q with q|q;·exact .inr (List.mem_append.2 (.inl q))
   ·simp only[List.mem_singleton]at q;exact .inl ((get i).2 (.inl (by omega)))
 ·rcases(get i).1 h1 with rfl|h1;·exact .inr (List.mem_append.2 (.inr ((Zfv hg hk).2 h2)))
  ·rcases h.closed i j h1 h2 with q|q;·exact .inl ((get j).2 (.inr q))
   ·rcases List.mem_append.1 q with q|q;·exact .inr (List.mem_append.2 (.inl q))
    ·simp only[List.mem_singleton]at q;exact .inl ((get j).2 (.inl (by omega)))
 ·rcases(get i).1 h1 with rfl|h1;·exact hr
  ·exact h.sound i h1
 ·rcases List.mem_append.1 h1 with h1|h1;·exact h.todo i (List.mem_append.2 (.inl h1)) h2
  ·exact .step hr ((Zfv hg hk).1 h1)
 ·have h1:=h.few;have h2:=Zjf m k hm;have h3:=Zk9 l hg hk;simp only[List.length_append,List.length_singleton]at h1 ⊢;omega
theorem MkSt.done(h:MkSt l roots m [])(hg:GoodC l):m=marks l roots:=ZmP hg h.len (fun i h1 h2=>(h.rts i h1 h2).resolve_right (by simp)) (fun i j h1 h2=>(h.closed i j h1 h2).resolve_right (by simp)) h.sound
end
end Go.Proofs.YtlpmfkpefoegeacDoor
