import Derived.Test.YtlpmfkpefoegeacPMCall
import Derived.Test.YtlpmfkpefoegeacPProve2
namespace Go.Proofs.Ytlpmfkpefoegeac
set_option maxRecDepth 100000
set_option maxHeartbeats 16000000
set_option linter.all false
theorem Zk3{h:Hp}(hg:h.Good)(tr:Nat):Hp.Good ⟨ZbB h.cells (h.trail.drop tr),h.trail.take tr⟩:=by
 obtain⟨g1,g2,g3,g4⟩:=hg;refine⟨fun i hi=>?_,fun j hj=>?_,by rw[Za9];exact g3,by simp only[List.length_take];omega⟩
 ·have hi':i<h.cells.length:=by rw[Za9]at hi;exact hi
  have e:Ce.OkAt (ZbB h.cells (h.trail.drop tr)).length=Ce.OkAt h.cells.length:=by rw[Za9]
  show Ce.OkAt (ZbB h.cells (h.trail.drop tr)).length i _;rw[e,Zc8];have h1:=g1 i hi';split
  ·rename_i hm;obtain⟨j,hj,e⟩:=List.mem_iff_getElem.1 (List.mem_of_mem_drop hm);obtain⟨v,e2,hv,hk⟩:=g2 j hj;have hvi:(v:Int)=i:=e2.symm.trans e;have :v=i:=by omega
   subst this;left;rcases h1 with⟨a1,a2,a3,a4⟩|⟨a1,_⟩|⟨a1,_⟩|⟨a1,_⟩;·exact⟨a1,by simp only;omega,by simp only;omega,a4⟩
   all_goals(rw[hk]at a1;simp at a1)
  ·exact h1
 ·simp only[List.length_take]at hj;obtain⟨v,e,hv,hk⟩:=g2 j (by omega);refine⟨v,by simp only[List.getElem_take];exact e,by rw[Za9];exact hv,?_⟩;simp only;rw[Zc8];split<;>exact hk
theorem Zji{h:Hp}(hg:h.Good){top tr:Nat}(htop:top<=h.cells.length)(htr:tr<=h.trail.length)(ho:(Zcu h top tr).Good):(ZhQ (ZdL h (tr:Int)).1 (top:Int)).1=Zcu h top tr:=by
 have hu:=Zk3 hg tr;have e1:(ZdL h (tr:Int)).1=⟨ZbB h.cells (h.trail.drop tr),h.trail.take tr⟩:=by rw[ZdL,if_neg (not_not_intro hg),if_neg (not_not_intro ⟨zN _,by omega⟩),Int.toNat_natCast]
 rw[e1,ZhQ,if_neg (not_not_intro hu),if_neg (not_not_intro ⟨zN _,by simp only[Za9];omega⟩),if_neg (not_not_intro ?_)];·simp only[Int.toNat_natCast];rfl
 ·simp only[Int.toNat_natCast];exact ho
theorem ZdG{P:List Cl}{n:Nat}{g:Gm}:∀(j k:Nat)(m m':Mv),Zbl P n g j k m=(.no,m')->m'=m
 |0,k,m,m',h=>by simp[Zbl]at h;exact h.symm
 |j+1,k,m,m',h=>by
  rw[Zbl]at h;have ih:=ZdG (P:=P) (n:=n) (g:=g) j (k+1) m m';split at h;·simpa using h.symm
  ·split at h;·exact ih h
   ·simp only at h;split at h;·simp at h
    ·split at h;·simp at h
     ·split at h;·exact ih h
      ·simp at h
theorem Zfj{P:List Cl}{q:Nat}(hP:GoodP P):∀(cs:List Cm)(ds:List Chc)(m:Mv)(s:Sv),Bak P q m s cs ds->(q:Int)<=s.vars->Both q (Zcf P cs m) (Zbj P ds s)
 |[],[],m,s,B,_=>by rw[Zcf,Zbj];show m.out++_=s.out++_;rw[B.out]
 |[],_::_,m,s,B,_=>B.chc.elim
 |_::_,[],m,s,B,_=>B.chc.elim
 |c::cs,d::ds,m,s,B,hqv=>by
  obtain⟨k,hle,hrest⟩:=B.chc;have hdo:=B.ok.chc d (by simp);have hpop:=B.ok.pop;have hpw:=(List.pairwise_cons.1 B.ok.trails).1;have hv1:=B.ok.potV;simp only at hdo hpop hpw hv1;rw[Zcf,Zbj,Zji B.good k.top k.tr k.good];cases hg:d.g with
   |nil=>exact absurd hg hdo.ne
   |cons g rest=>
    simp only;have hlen:=Zcg (h:=m.h) c.top c.trail k.top;have hchs:ChsR (Zcu m.h c.top c.trail) (s.env.take d.trail) s.vars q m.query m.goals cs ds:=hrest.imp fun x y hx hy r=>by
     obtain⟨h1,h2⟩:=hle x hx;refine r.move (ZkZ h1 h2) (by rw[hlen];exact h1) ?_ ?_ ?_ (Int.le_refl _) (fun _ _=>rfl) (zL _);·show x.trail<=(m.h.trail.take c.trail).length;rw[List.length_take];have :=k.tr;omega
     ·rw[List.take_take,Nat.min_eq_left (hpw y hy)]
     ·rw[List.length_take];have :=hpw y hy;have :=r.dtr;omega
    have hsnap:=k.snap;rw[hg]at hsnap;have C:CallOk q {m with choices:=cs,h:=Zcu m.h c.top c.trail} {s with choices:=ds,env:=s.env.take d.trail} c.goal g rest:={good:=k.good,env:=hpop.env,v0:=hpop.vars0,v1:=by simp only;omega,qv:=hqv,gt:=(hdo.gls g (by rw[hg];simp)).1,fuel:=B.fuel,out:=B.out,tr:=by show(m.h.trail.take c.trail).length<=(s.env.take d.trail).length;rw[List.length_take,List.length_take];have :=k.tre;have :=k.dtr;omega,cur:=hsnap,chc:=hchs,pot:=by show(Zcu m.h c.top c.trail).cells.length+300+ZbG m.fuel m.out<=60000;rw[hlen];exact B.pots c (by simp),pots:=fun x hx=>B.pots x (by simp[hx]),gcnt:=B.gcnt};have hcall:=ZgU hP C (P.length - d.at_) d.at_ rfl;rw[k.from_];have hno:=ZdG (P:=P) (n:=c.goal) (g:=ZaK m c.goal) (P.length - d.at_) d.at_ {m with choices:=cs,h:=Zcu m.h c.top c.trail};have hnoF:=ZcU (P:=P) (g:=g) (rest:=rest) (P.length - d.at_) d.at_ {s with choices:=ds,env:=s.env.take d.trail};have e1:ZaK {m with choices:=cs,h:=Zcu m.h c.top c.trail} c.goal=ZaK m c.goal:=rfl;rw[e1]at hcall;generalize Zbl P c.goal (ZaK m c.goal) (P.length - d.at_) d.at_ {m with choices:=cs,h:=Zcu m.h c.top c.trail}=rm at*;generalize Zbb P g rest (P.length - d.at_) d.at_ {s with choices:=ds,env:=s.env.take d.trail}=rs at*;obtain⟨ra,m'⟩:=rm;obtain⟨rb,s'⟩:=rs;cases ra with
     |next=>cases rb with|next gl=>exact hcall|no=>exact hcall.elim|off=>exact hcall.elim
     |off=>cases rb with|next gl=>exact hcall.elim|no=>exact hcall.elim|off=>exact hcall
     |no=>cases rb with|next gl=>exact hcall.elim|off=>exact hcall.elim|no=>obtain rfl:=hno m' rfl;obtain rfl:=hnoF s' rfl;simp only;exact Zfj hP cs ds _ _ ⟨hpop,k.good,B.fuel,B.out,hchs,fun x hx=>B.pots x (by simp[hx]),B.gcnt⟩ hqv
end Go.Proofs.Ytlpmfkpefoegeac
