import Derived.Test.YtlpmfkpefoegeacDoorPMEnd
namespace Go.Proofs.YtlpmfkpefoegeacDoor
set_option maxRecDepth 100000
set_option maxHeartbeats 16000000
set_option linter.all false
def Zko(n:Nat)(vis:List Nat):List Bool:=(List.range n).map fun i=>decide (i∈vis)
theorem Zd4(n:Nat)(vis:List Nat):(Zko n vis).length=n:=by simp[Zko]
theorem ZeU{n:Nat}{vis:List Nat}{i:Nat}(h:i<(Zko n vis).length):(Zko n vis)[i]=decide (i∈vis):=by simp[Zko]
theorem Zkp(n:Nat):Zko n []=List.replicate n false:=by apply List.ext_getElem (by simp[Zko]);intro i h1 h2;rw[ZeU,List.getElem_replicate];simp
theorem Zkq{n:Nat}{vis:List Nat}{i:Nat}:(Zko n vis).set i true=Zko n (vis++[i]):=by
 apply List.ext_getElem (by simp[Zko]);intro j h1 h2;rw[List.getElem_set,ZeU,ZeU];by_cases h:i=j;·subst h;simp
 ·rw[if_neg h];congr 1;simp;intro e;exact absurd e.symm h
theorem ZhL:∀(n:Nat)(l:List Nat),l.Nodup->(∀i∈l,i<n)->l.length<=n
 |0,l,_,h=>by cases l with|nil=>simp|cons a r=>exact absurd (h a (by simp)) (by omega)
 |n+1,l,hn,h=>by
  have h1:=ZhL n (l.erase n) (hn.erase n) (fun i hi=>by
   have h2:=h i (List.mem_of_mem_erase hi);have h3:i≠n:=fun e=>by rw[e]at hi;exact hn.not_mem_erase hi
   omega);rw[List.length_erase]at h1;split at h1<;>omega
structure Under (gs : List Gm) (l : List Ce) (T : List Nat) (n : Int) (vis : List Nat) : Prop where
  eq : ∃ k, Zbl gs k n vis = T ∧ (0 ≤ n → n.toNat < k)
  lt : ∀ i ∈ vis, i < gs.length
  nd : vis.Nodup
  vis : 0 ≤ n → Vis gs l n.toNat
section
variable {gs : List Gm} {l : List Ce} {T vis : List Nat} {n : Int}
theorem Vis.lt{i:Nat}(h:Vis gs l i):i<gs.length:=by cases h;assumption
theorem ZgE:∀(k:Nat)(n:Int)(vis:List Nat),vis <+: Zbl gs k n vis
 |0,_,vis=>by rw[Zbl];exact List.prefix_refl _
 |k+1,n,vis=>by
  rw[Zbl];split;·exact List.prefix_refl _
  ·exact(List.prefix_append vis _).trans (ZgE k _ _)
theorem Zkr:∀(ns:List Int)(vis:List Nat),vis <+: ns.foldl (fun vis n=>Zbl gs (gs.length+1) n vis) vis|[],vis=>List.prefix_refl _|n::ns,vis=>(ZgE _ n vis).trans (Zkr ns _)
theorem Under.start(hl:∀i∈vis,i<gs.length)(hnd:vis.Nodup)(hv:0<=n->Vis gs l n.toNat):Under gs l (Zbl gs (gs.length+1) n vis) n vis:=⟨⟨_,rfl,fun h=>by have :=(hv h).lt;omega⟩,hl,hnd,hv⟩
theorem Zhe{i:Nat}(h:vis.Nodup)(hm:i∉vis):(vis++[i]).Nodup:=by rw[List.nodup_append];exact⟨h,by simp,fun a ha b hb e=>by simp only[List.mem_singleton]at hb;subst hb;subst e;exact hm ha⟩
theorem Zks:∀(k:Nat)(n:Int)(vis:List Nat),vis.Nodup->(Zbl gs k n vis).Nodup
 |0,_,vis,h=>h
 |k+1,n,vis,h=>by
  rw[Zbl];split;·exact h
  ·rename_i h0;exact Zks k _ _ (Zhe h (fun hm=>h0 (.inr hm)))
theorem Under.neg(h:Under gs l T n vis)(hn:n<0):T=vis:=by obtain⟨k,rfl, -⟩:=h.eq;cases k with|zero=>rfl|succ k=>rw[Zbl,if_pos (.inl hn)]
theorem Under.seen(h:Under gs l T n vis)(hn:0<=n)(hm:n.toNat∈vis):T=vis:=by obtain⟨k,rfl, -⟩:=h.eq;cases k with|zero=>rfl|succ k=>rw[Zbl,if_pos (.inr hm)]
theorem Under.next(h:Under gs l T n vis)(hn:0<=n)(hm:n.toNat∉vis):Under gs l T ((gs[n.toNat]?).getD default).next (vis++[n.toNat]):=by
 obtain⟨⟨k,rfl,hk⟩,hl,hnd,hv⟩:=h;have hk0:=hk hn;cases k with
  |zero=>omega
  |succ k=>
   cases hv hn with
    |mk _ h1 h2 h3 h4=>
     refine⟨⟨k,?_,fun h=>by omega⟩,fun i hi=>?_,Zhe hnd hm,h4⟩;·rw[Zbl,if_neg (not_or.2 ⟨by omega,hm⟩)]
     ·rcases List.mem_append.1 hi with hi|hi;·exact hl i hi
      ·simp only[List.mem_singleton]at hi;omega
theorem Under.down(h:Under gs l T n vis)(hn:0<=n):n.toNat<gs.length/\((gs[n.toNat]?).getD default).next<n:=by cases h.vis hn with|mk _ h1 h2 h3 h4=>exact⟨h1,by omega⟩
theorem Under.few(h:Under gs l T n vis):vis.length<=gs.length:=ZhL _ _ h.nd h.lt
theorem Under.pre(h:Under gs l T n vis):vis <+: T:=by obtain⟨k,rfl, -⟩:=h.eq;exact ZgE _ _ _
theorem Under.tlt(h:Under gs l T n vis):∀i∈T,i<gs.length:=by
 obtain⟨⟨k,rfl,hk⟩,hl,hnd,hv⟩:=h;clear hk hnd;induction k generalizing n vis with
  |zero=>exact hl
  |succ k ih=>
   rw[Zbl];split;·exact hl
   ·rename_i h0;have hn:0<=n:=by have :=fun h=>h0 (.inl h);omega
    cases hv hn with
     |mk _ h1 h2 h3 h4=>
      refine ih (fun i hi=>?_) h4;rcases List.mem_append.1 hi with hi|hi;·exact hl i hi
      ·simp only[List.mem_singleton]at hi;omega
def Za8(gs:List Gm)(ns:List Int)(j:Nat):List Nat:=Zbv gs (ns.take j)
theorem ZgF(gs:List Gm)(ns:List Int):Za8 gs ns 0=[]:=rfl
theorem Zc9{ns:List Int}{j:Nat}(hj:j<ns.length):Za8 gs ns (j+1)=Zbl gs (gs.length+1) ns[j] (Za8 gs ns j):=by unfold Za8 Zbv;rw[List.take_succ_eq_append_getElem hj,List.foldl_append];rfl
theorem Zlc(gs:List Gm)(ns:List Int)(j:Nat):Za8 gs ns j <+: Zbv gs ns:=by
 unfold Za8 Zbv;conv=>rhs;rw[<-List.take_append_drop j ns,List.foldl_append]
 exact Zkr _ _
theorem Zd5{ns:List Int}{j:Nat}(hj:ns.length<=j):Za8 gs ns j=Zbv gs ns:=by unfold Za8;rw[List.take_of_length_le hj]
theorem ZcY(ns:List Int):∀j,(Za8 gs ns j).Nodup
 |0=>by rw[ZgF];exact List.nodup_nil
 |j+1=>by
  by_cases hj:j<ns.length;·rw[Zc9 hj];exact Zks _ _ _ (ZcY ns j)
  ·have e:Za8 gs ns (j+1)=Za8 gs ns j:=by unfold Za8;rw[List.take_of_length_le (by omega),List.take_of_length_le (by omega)]
   rw[e];exact ZcY ns j
theorem ZdM{ns:List Int}(hv:∀n∈ns,0<=n->Vis gs l n.toNat):∀j,∀i∈Za8 gs ns j,i<gs.length
 |0,i,hi=>by simp[Za8,Zbv]at hi
 |j+1,i,hi=>by
  by_cases hj:j<ns.length;·rw[Zc9 hj]at hi;exact(Under.start (l:=l) (ZdM hv j) (ZcY ns j) (hv _ (List.getElem_mem hj))).tlt i hi
  ·have e:Za8 gs ns (j+1)=Za8 gs ns j:=by unfold Za8;rw[List.take_of_length_le (by omega),List.take_of_length_le (by omega)]
   rw[e]at hi;exact ZdM hv j i hi
def ZbY(q:Nat)(query:Int)(gs:List Gm)(vis:List Nat):List Int:=((List.range q).map fun v=>query+(v:Nat))++vis.map fun i=>((gs[i]?).getD default).at_
theorem Zel(q:Nat)(query:Int)(gs:List Gm)(vis:List Nat):(ZbY q query gs vis).length=q+vis.length:=by simp[ZbY]
theorem ZiE(q:Nat)(query:Int)(gs:List Gm)(vis:List Nat)(i:Nat):ZbY q query gs (vis++[i])=ZbY q query gs vis++[((gs[i]?).getD default).at_]:=by simp[ZbY]
def Za5(R:List Int)(q:Nat)(vis:List Nat)(gs:List Gm):List Gm:=gs.mapIdx fun i g=>if i∈vis then{g with at_:=(R[q+vis.idxOf i]?).getD 0}else g
theorem ZaV(R:List Int)(q:Nat)(vis:List Nat)(gs:List Gm):(Za5 R q vis gs).length=gs.length:=by simp[Za5]
theorem Zjn(R:List Int)(q:Nat)(gs:List Gm):Za5 R q [] gs=gs:=by apply List.ext_getElem (by simp[Za5]);intro i h1 h2;simp[Za5]
theorem ZcF{R:List Int}{q:Nat}{vis:List Nat}{gs:List Gm}{i:Nat}(h:i<(Za5 R q vis gs).length):(Za5 R q vis gs)[i]=if i∈vis then{gs[i]'(by rwa[ZaV]at h)with at_:=(R[q+vis.idxOf i]?).getD 0}else gs[i]'(by rwa[ZaV]at h):=by simp[Za5]
theorem Zfw{R:List Int}{q:Nat}{vis:List Nat}{gs:List Gm}{i:Nat}(h:i<gs.length):((Za5 R q vis gs)[i]'(by rw[ZaV];exact h)).next=((gs[i]?).getD default).next:=by rw[ZcF,List.getElem?_eq_getElem h];split<;>rfl
theorem ZgG{R:List Int}{q:Nat}{vis:List Nat}{gs:List Gm}{i:Nat}(h:i<gs.length)(hm:i∉vis):(Za5 R q vis gs)[i]'(by rw[ZaV];exact h)=gs[i]:=by rw[ZcF,if_neg hm]
theorem ZiF{R:List Int}{q:Nat}{vis:List Nat}{gs:List Gm}{i:Nat}(h:i<gs.length)(hm:i∉vis):(Za5 R q vis gs).set i ⟨(R[q+vis.length]?).getD 0,gs[i].bar,gs[i].next⟩=Za5 R q (vis++[i]) gs:=by
 apply List.ext_getElem (by simp[Za5]);intro j h1 h2;rw[List.getElem_set];by_cases e:i=j
 ·subst e;rw[if_pos rfl,ZcF,if_pos (by simp)];have :(vis++[i]).idxOf i=vis.length:=by rw[List.idxOf_append,if_neg hm];simp[List.idxOf_cons]
  rw[this]
 ·rw[if_neg e,ZcF,ZcF];by_cases e2:j∈vis;·rw[if_pos e2,if_pos (by simp[e2]),List.idxOf_append,if_pos e2]
  ·rw[if_neg e2,if_neg (by simp[e2];intro h;exact e h.symm)]
def ZcQ(tops mks:List Int)(j:Nat)(cs:List Cm):List Cm:=cs.mapIdx fun i x=>if i<j then{x with top:=((tops[i]?).getD 0).toNat,trail:=((mks[i]?).getD 0).toNat}else x
theorem ZeV(tops mks:List Int)(j:Nat)(cs:List Cm):(ZcQ tops mks j cs).length=cs.length:=by simp[ZcQ]
theorem Zld(tops mks:List Int)(cs:List Cm):ZcQ tops mks 0 cs=cs:=by apply List.ext_getElem (by simp[ZcQ]);intro i h1 h2;simp[ZcQ]
theorem Zmr(tops mks:List Int)(cs:List Cm):ZcQ tops mks cs.length cs=cs.mapIdx fun i x=>{x with top:=((tops[i]?).getD 0).toNat,trail:=((mks[i]?).getD 0).toNat}:=by apply List.ext_getElem (by simp[ZcQ]);intro i h1 h2;simp only[ZcQ,List.getElem_mapIdx];rw[if_pos (by simpa[ZcQ]using h1)]
theorem Zms{tops mks:List Int}{j:Nat}{cs:List Cm}(h:j<cs.length):(ZcQ tops mks j cs)[j]'(by rw[ZeV];exact h)=cs[j]:=by simp[ZcQ]
theorem Zle{tops mks:List Int}{j:Nat}{cs:List Cm}(h:j<cs.length):(ZcQ tops mks j cs).set j {cs[j]with top:=((tops[j]?).getD 0).toNat,trail:=((mks[j]?).getD 0).toNat}=ZcQ tops mks (j+1) cs:=by
 apply List.ext_getElem (by simp[ZcQ]);intro i h1 h2;rw[List.getElem_set];simp only[ZcQ,List.getElem_mapIdx];by_cases e:j=i;·subst e;rw[if_pos rfl,if_pos (by omega)]
 ·rw[if_neg e];by_cases e2:i<j;·rw[if_pos e2,if_pos (by omega)]
  ·rw[if_neg e2,if_neg (by omega)]
end
end Go.Proofs.YtlpmfkpefoegeacDoor
