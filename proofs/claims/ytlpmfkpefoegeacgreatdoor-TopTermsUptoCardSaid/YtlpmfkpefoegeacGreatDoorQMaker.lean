import Derived.Test.YtlpmfkpefoegeacGreatDoorHBack
import Derived.Test.YtlpmfkpefoegeacGreatDoorPMUni
import Derived.Test.YtlpmfkpefoegeacGreatDoorQUbind
import Derived.Deep.RegionLaw
import Derived.Deep.DeepCutAuto
namespace Go.Proofs.YtlpmfkpefoegeacGreatDoor
set_option maxRecDepth 99999
set_option maxHeartbeats 0
set_option linter.all false
section
variable {h : Hp} {roots : List Int}
def RP(h:Hp)(roots:List Int)(a:Int):Prop:=0<=a/\Reach h.cells roots a.toNat
theorem RP.nat{a:Int}(hr:RP h roots a)(hg:iH h.cells):∃k:Nat,a=(k:Int)/\k<h.cells.length/\Reach h.cells roots k:=by obtain⟨h0,h1⟩:=hr;obtain⟨k,rfl⟩:=dH h0;rw[dF]at h1;exact⟨k,rfl,h1.lt hg,h1⟩
theorem RP.of{k:Nat}(hr:Reach h.cells roots k):RP h roots (k:Int):=⟨zN _,by rw[dF];exact hr⟩
theorem xG(m:List Bool)(k:Nat):ahead m (k:Int)=(cnt m k:Nat):=by unfold ahead;rw[dF]
theorem aqm(hg:iH h.cells){a:Int}(hr:RP h roots a):cellAt (jy h roots).cells (ahead (marks h.cells roots) a)=pY (marks h.cells roots) (cellAt h.cells a):=by obtain⟨k,rfl,hk,hr⟩:=hr.nat hg;rw[xG,Xa k hk hr]
theorem af2(hg:iH h.cells){a:Int}(hr:RP h roots a):Inb (jy h roots).cells (ahead (marks h.cells roots) a)/\Inb h.cells a:=by obtain⟨k,rfl,hk,hr⟩:=hr.nat hg;have :=MQ (h:=h) hk hr;rw[xG];unfold Inb;omega
theorem RP.next(hg:iH h.cells){a:Int}(hr:RP h roots a)(hk:(cellAt h.cells a).kind=0):RP h roots (cellAt h.cells a).n:=by obtain⟨k,rfl,hkl,hr⟩:=hr.nat hg;have h1:=hg k hkl;rw[jR hkl]at hk ⊢;unfold Ce.fU at h1;obtain⟨m,hm⟩:=dH (show 0<=h.cells[k].n by omega);rw[hm];exact RP.of (.step hr (.inl (by rw[jR hkl];exact⟨hk,hm⟩)))
theorem aqn(hg:iH h.cells){a:Int}(hr:RP h roots a)(hk:(cellAt h.cells a).kind=3):argsAt (ahead (marks h.cells roots) a) (cellAt h.cells a).n=(argsAt a (cellAt h.cells a).n).map (ahead (marks h.cells roots))/\∀x∈argsAt a (cellAt h.cells a).n,RP h roots x:=by
 obtain⟨k,rfl,hkl,hr⟩:=hr.nat hg;have h1:=hg k hkl;have hk':=hk;rw[jR hkl]at hk';unfold Ce.fU at h1;have hn:0<=(cellAt h.cells (k:Int)).n:=by rw[jR hkl];omega
 obtain⟨n,hn⟩:=dH hn;rw[hn];have key:∀i,i<n->cnt (marks h.cells roots) (k+1+i)=cnt (marks h.cells roots) k+1+i/\Reach h.cells roots (k+1+i):=fun i hi=>by refine⟨(MR hg hkl hr hk i (by omega)).1,?_⟩;have :=(MR hg hkl hr hk (i+1) (by omega)).2 (by omega);rw[show k+1+i=k+(i+1)by omega];exact this
 constructor;·unfold argsAt;rw[WC];refine adC fun i hi=>?_;rw[mh,dF]at hi;obtain⟨k1,k2⟩:=key i hi;simp only[am2];rw[show(k:Int)+1+(i:Nat)=((k+1+i:Nat):Int)by omega,xG,xG,k1];omega
 ·intro x hx;unfold argsAt at hx;obtain⟨i,hi,rfl⟩:=iZ.1 hx;rw[mh,dF]at hi;rw[show(k:Int)+1+(i:Nat)=((k+1+i:Nat):Int)by omega];exact RP.of (key i hi).2
end
def xH(mv:Int->Int)(c:Ce):Ce:=if c.kind=0 then{c with n:=mv c.n}else c
structure oq (l l' : List Ce) (S : Int → Prop) (mv : Int → Int) : Prop where
  jW : ∀ a, S a → Inb l a ∧ Inb l' (mv a)
  cell : ∀ a, S a → cellAt l' (mv a) = xH mv (cellAt l a)
  next : ∀ a, S a → (cellAt l a).kind = 0 → S (cellAt l a).n
  args : ∀ a, S a → (cellAt l a).kind = 3 → ∀ i : Nat, (i : Int) < (cellAt l a).n → S (a + 1 + (i : Nat)) ∧ mv (a + 1 + (i : Nat)) = mv a + 1 + (i : Nat)
  lt : ∀ a b, S a → S b → a < b → mv a < mv b
section
variable {l l' : List Ce} {S : Int → Prop} {mv : Int → Int} {φ φ' : Int → Int} {E : Env} {K K' : Int → Prop} {N : Int}
theorem oq.inj(h:oq l l' S mv){a b:Int}(ha:S a)(hb:S b)(e:mv a=mv b):a=b:=by
 rcases adJ a b with h1|h1|h1;·have :=h.lt a b ha hb h1;omega
 ·exact h1
 ·have :=h.lt b a hb ha h1;omega
theorem AZ(mv:Int->Int)(c:Ce):(xH mv c).kind=c.kind:=by unfold xH;split<;>rfl
theorem JV(mv:Int->Int)(c:Ce):(xH mv c).s=c.s:=by unfold xH;split<;>rfl
theorem Sj(mv:Int->Int){c:Ce}(h:c.kind≠0):(xH mv c).n=c.n:=by unfold xH;rw[O h]
theorem Sk(mv:Int->Int){c:Ce}(h:c.kind=0):(xH mv c).n=mv c.n:=by unfold xH;rw[G h]
theorem oq.stop(h:oq l l' S mv){a:Int}(ha:S a):Stop l' (mv a)↔Stop l a:=by
 unfold Stop;rw[h.cell a ha,AZ];by_cases hk:(cellAt l a).kind=0
 ·rw[Sk mv hk];constructor
  ·rintro(e|e);·exact .inl e
   ·exact .inr (h.inj (h.next a ha hk) ha e)
  ·rintro(e|e);·exact .inl e
   ·exact .inr (by rw[e])
 ·exact⟨fun _=> .inl hk,fun _=> .inl hk⟩
theorem oq.looks(h:oq l l' S mv){a x:Int}(hl:Looks l a x)(ha:S a):Looks l' (mv a) (mv x)/\S x:=by induction hl with|stop h1 h2=>exact⟨.stop (h.jW _ ha).2 ((h.stop ha).2 h2),ha⟩|@next a x h1 h2 _ ih=>have hk:(cellAt l a).kind=0:=DY fun hk=>h2 (.inl hk);obtain⟨k1,k2⟩:=ih (h.next a ha hk);refine⟨.next (h.jW _ ha).2 (fun hs=>h2 ((h.stop ha).1 hs)) ?_,k2⟩;rw[h.cell a ha,Sk mv hk];exact k1
theorem oq.free(h:oq l l' S mv){a:Int}(ha:S a):iI l' (mv a)↔iI l a:=by
 unfold iI;rw[h.cell a ha,AZ];by_cases hk:(cellAt l a).kind=0;·rw[Sk mv hk];exact⟨fun⟨_,_,e⟩=>⟨(h.jW a ha).1,hk,h.inj (h.next a ha hk) ha e⟩,fun⟨_,_,e⟩=>⟨(h.jW a ha).2,hk,by rw[e]⟩⟩
 ·exact⟨fun⟨_,e,_⟩=>absurd e hk,fun⟨_,e,_⟩=>absurd e hk⟩
theorem oq.hr(h:oq l l' S mv)(hφ:∀x,S x->iI l x->K x->φ' (mv x)=φ x/\K' (mv x)){a:Int}{t:Tm}(hr:Hr l φ E K a t):S a->Hr l' φ' E K' (mv a) t:=by
 induction hr with
  |@var a x t h1 h2 h3 h4 h5=>intro ha;obtain⟨k1,k2⟩:=h.looks h1 ha;obtain⟨k3,k4⟩:=hφ x k2 (h1.free h2) h3;exact .var k1 (by rw[h.cell x k2,AZ];exact h2) k4 h4 (by rw[k3];exact h5)
  |@leaf a x t h1 h2 h3 h4 h5 h6 h7=>
   intro ha;obtain⟨k1,k2⟩:=h.looks h1 ha;have hk:(cellAt l x).kind≠0:=by rw[h2];exact h3
   exact .leaf k1 (by rw[h.cell x k2,AZ];exact h2) h3 h4 (by rw[h.cell x k2,Sj mv hk];exact h5) (by rw[h.cell x k2,JV];exact h6) h7
  |@comp a x t h1 h2 h3 h4 h5 h6 h7 ih=>
   intro ha;obtain⟨k1,k2⟩:=h.looks h1 ha;have hk:(cellAt l x).kind≠0:=by rw[h2];decide
   refine .comp k1 (by rw[h.cell x k2,AZ];exact h2) h3 h4 (by rw[h.cell x k2,Sj mv hk];exact h5) (by rw[h.cell x k2,JV];exact h6) fun i hi=>?_;obtain⟨q1,q2⟩:=h.args x k2 h2 i (by rw[h5];omega);rw[<-q2];exact ih i hi q1
open Classical in noncomputable def JW(S:Int->Prop)(mv:Int->Int)(y:Int):Int:=if h:∃x,S x/\mv x=y then Classical.choose h else 0
theorem oq.back(h:oq l l' S mv){a:Int}(ha:S a):JW S mv (mv a)=a:=by have he:∃x,S x/\mv x=mv a:=⟨a,ha,rfl⟩;unfold JW;rw[Aq he];obtain⟨h1,h2⟩:=Classical.choose_spec he;exact h.inj h1 ha h2
theorem oq.all(h:oq l l' S mv)(EJ:∀y,Inb l' y->∃x,S x/\mv x=y)(hM:Mon N l φ E):Mon N l' (fun y=>φ (JW S mv y)) E/\∀a t,S a->Hr l φ E (fun _=>True) a t->Hr l' (fun y=>φ (JW S mv y)) E (fun _=>True) (mv a) t:=by
 refine⟨⟨fun x y hx hy hlt=>?_,fun x hx=>?_,fun x hx=>?_⟩,fun a t ha hr=>h.hr (fun x hx _ _=>⟨by rw[h.back hx],trivial⟩) hr ha⟩
 ·obtain⟨a,ha,rfl⟩:=EJ x hx.1;obtain⟨b,hb,rfl⟩:=EJ y hy.1;rw[h.back ha,h.back hb];refine hM.lt a b ((h.free ha).1 hx) ((h.free hb).1 hy) ?_;rcases adJ a b with h1|h1|h1;·exact h1
  ·subst h1;omega
  ·have :=h.lt b a hb ha h1;omega
 ·obtain⟨a,ha,rfl⟩:=EJ x hx.1;rw[h.back ha];exact hM.bd a ((h.free ha).1 hx)
 ·obtain⟨a,ha,rfl⟩:=EJ x hx.1;rw[h.back ha];exact hM.free a ((h.free ha).1 hx)
end
def eF(h:Hp)(top tr:Nat):Hp:=⟨(iP h.cells (h.trail.drop tr)).take top,h.trail.take tr⟩
def vY(m:List Bool)(v:Int):Bool:=(m[v.toNat]?).getD false
theorem Yt(m:List Bool)(t:List Int):∀(k:Nat),k<=t.length->kS m t k=((t.take k).filter (vY m)).map (ahead m)
 |0,_=>by simp[kS]
 |k+1,hk=>by
  have hlt:k<t.length:=by omega
  rw[iq hlt,List.filter_append,qF,<-Yt m t k (by omega),kS];have e:(aP m t)[k]?=some (vY m t[k]):=by unfold aP;rw[xg,aJ hlt];rfl
  rw[e];cases hq:vY m t[k]with|true=>rw[G rfl,aJ hlt];simp[hq]|false=>rw[O (by simp)];simp[hq]
section
variable {h : Hp} {roots : List Int}
theorem af3(hg:h.Good):oq h.cells (jy h roots).cells (RP h roots) (ahead (marks h.cells roots)):=by
 refine⟨fun a ha=>⟨(af2 hg.1 ha).2,(af2 hg.1 ha).1⟩,fun a ha=>aqm hg.1 ha,fun a ha hk=>ha.next hg.1 hk,fun a ha hk i hi=>?_,fun a b ha hb hlt=>?_⟩
 ·obtain⟨h1,h2⟩:=aqn hg.1 ha hk;have hm:a+1+(i:Nat)∈argsAt a (cellAt h.cells a).n:=by unfold argsAt;exact iZ.2 ⟨i,mh.2 (by omega),rfl⟩
  refine⟨h2 _ hm,?_⟩;have h3:=congrArg (fun l=>l[i]?) h1;unfold argsAt at h3;simp only[xg,am0 (show i<(cellAt h.cells a).n.toNat by omega),pW,bW]at h3;exact h3.symm
 ·obtain⟨k,rfl,hk,ha⟩:=ha.nat hg.1;obtain⟨m,rfl,hm,hb⟩:=hb.nat hg.1;rw[xG,xG];have :=cnt_lt (m:=marks h.cells roots) (i:=k) (j:=m) (by omega) ((vM hk).2 ha);omega
theorem aqo(hg:h.Good):∀y,Inb (jy h roots).cells y->∃x,RP h roots x/\ahead (marks h.cells roots) x=y:=by intro y hy;obtain⟨k,rfl⟩:=dH hy.1;obtain⟨i,h1,h2,h3⟩:=aei (h:=h) (roots:=roots) (j:=k) (by have :=hy.2;omega);exact⟨(i:Int),RP.of h2,by rw[xG,h3]⟩
theorem Yu(hg:h.Good){v:Int}(hv:v∈h.trail):vY (marks h.cells roots) v=true↔RP h roots v:=by
 obtain⟨j,hj,rfl⟩:=vH.1 hv;obtain⟨k,e,hk, -⟩:=hg.2.1 j hj;rw[e];unfold vY RP;rw[dF];constructor;·intro h1;refine⟨zN _,(vM hk).1 ?_⟩;cases hq:(marks h.cells roots)[k]? with|none=>rw[hq]at h1;simp at h1|some b=>rw[hq]at h1;simp only[rC]at h1;rw[h1]
 ·intro h1;rw[(vM hk).2 h1.2];rfl
theorem af4(tr:Nat)(htr:tr<=h.trail.length):(jy h roots).trail.take (cnt (aP (marks h.cells roots) h.trail) tr)=((h.trail.take tr).filter (vY (marks h.cells roots))).map (ahead (marks h.cells roots))/\(jy h roots).trail.drop (cnt (aP (marks h.cells roots) h.trail) tr)=((h.trail.drop tr).filter (vY (marks h.cells roots))).map (ahead (marks h.cells roots)):=by
 have h1:(jy h roots).trail=(h.trail.filter (vY (marks h.cells roots))).map (ahead (marks h.cells roots)):=by show kS _ _ _=_;rw[Yt _ _ _ (zL _),nQ]
 have h2:cnt (aP (marks h.cells roots) h.trail) tr=(((h.trail.take tr).filter (vY (marks h.cells roots))).map (ahead (marks h.cells roots))).length:=by rw[<-vN,Yt _ _ _ htr]
 have h3:(h.trail.filter (vY (marks h.cells roots))).map (ahead (marks h.cells roots))=((h.trail.take tr).filter (vY (marks h.cells roots))).map (ahead (marks h.cells roots))++((h.trail.drop tr).filter (vY (marks h.cells roots))).map (ahead (marks h.cells roots)):=by rw[<-qF,<-List.filter_append,Aj]
 rw[h1,h2,h3];exact⟨Wy rfl,List.drop_left' rfl⟩
theorem CW(top tr:Nat)(htop:top<=h.cells.length):(eF h top tr).cells.length=top:=by show((iP _ _).take top).length=top;rw[dX,vL];omega
theorem Sl{top tr:Nat}{a:Int}(htop:top<=h.cells.length)(h0:0<=a)(h1:a<top):cellAt (eF h top tr).cells a=if a∈h.trail.drop tr then{cellAt h.cells a with n:=a}else cellAt h.cells a:=by
 obtain⟨k,rfl⟩:=dH h0;have hk:k<(eF h top tr).cells.length:=by rw[CW top tr htop];omega
 have hk2:k<h.cells.length:=by omega
 rw[jR hk,jR hk2];have hk':k<((iP h.cells (h.trail.drop tr)).take top).length:=hk;show((iP h.cells (h.trail.drop tr)).take top)[k]'hk'=_;rw[List.getElem_take,MK]
theorem af5(hg:h.Good){top tr:Nat}(htop:top<=h.cells.length)(htr:tr<=h.trail.length)(ho:(eF h top tr).Good):oq (eF h top tr).cells (eF (jy h roots) (cnt (marks h.cells roots) top) (cnt (aP (marks h.cells roots) h.trail) tr)).cells (fun a=>RP h roots a/\a<top) (ahead (marks h.cells roots))/\(∀y,Inb (eF (jy h roots) (cnt (marks h.cells roots) top) (cnt (aP (marks h.cells roots) h.trail) tr)).cells y->∃x,(RP h roots x/\x<top)/\ahead (marks h.cells roots) x=y):=by
 have hlen:=CW (h:=h) top tr htop;have af6:cnt (marks h.cells roots) top<=(jy h roots).cells.length:=by show _<=(ku _ _ _).length;rw[rH];exact Jt htop
 have hlen':=CW (h:=jy h roots) (cnt (marks h.cells roots) top) (cnt (aP (marks h.cells roots) h.trail) tr) af6;have hM:=af3 (roots:=roots) hg;have hin:∀a,RP h roots a->a<top->0<=ahead (marks h.cells roots) a/\ahead (marks h.cells roots) a<(cnt (marks h.cells roots) top:Nat):=fun a ha hlt=>by obtain⟨k,rfl,hk,hr⟩:=ha.nat hg.1;rw[xG];have :=cnt_lt (m:=marks h.cells roots) (i:=k) (j:=top) (by omega) ((vM hk).2 hr);omega
 have hun:∀a,RP h roots a->(ahead (marks h.cells roots) a∈(jy h roots).trail.drop (cnt (aP (marks h.cells roots) h.trail) tr)↔a∈h.trail.drop tr):=fun a ha=>by
  rw[(af4 tr htr).2];constructor;·intro hm;obtain⟨x,hx,e⟩:=iZ.1 hm;obtain⟨hx1,hx2⟩:=ank.1 hx;rw[<-hM.inj ((Yu hg (Md hx1)).1 hx2) ha e];exact hx1
  ·intro hm;exact iZ.2 ⟨a,ank.2 ⟨hm,(Yu hg (Md hm)).2 ha⟩,rfl⟩
 have htk:∀a,a∈h.trail->(cellAt h.cells a).kind=0:=fun a ha=>by obtain⟨j,hj,rfl⟩:=vH.1 ha;obtain⟨k,e,hk,hk0⟩:=hg.2.1 j hj;rw[e,jR hk];exact hk0
 have hok:∀a:Int,0<=a->a<(top:Int)->(cellAt (eF h top tr).cells a).fU top a.toNat:=fun a h0 h1=>by
  obtain⟨k,rfl⟩:=dH h0;have hk:k<(eF h top tr).cells.length:=by omega
  have :=ho.1 k hk;rw[jR hk,dF];rwa[hlen]at this
 refine⟨⟨fun a⟨ha,hlt⟩=>⟨⟨ha.1,by omega⟩,by have :=hin a ha hlt;unfold Inb;omega⟩,fun a⟨ha,hlt⟩=>?_,fun a⟨ha,hlt⟩hk=>?_,fun a⟨ha,hlt⟩hk i hi=>?_,fun a b ha hb hlt=>hM.lt a b ha.1 hb.1 hlt⟩,fun y hy=>?_⟩
 ·obtain⟨q1,q2⟩:=hin a ha hlt;rw[Sl af6 q1 q2,Sl htop ha.1 hlt,hM.cell a ha];by_cases hm:a∈h.trail.drop tr;·rw[G hm,G ((hun a ha).2 hm)];have hk:=htk a (Md hm);unfold xH;rw[G hk,G hk]
  ·rw[O hm,O (fun h=>hm ((hun a ha).1 h))]
 ·have h1:=hok a ha.1 hlt;rw[Sl htop ha.1 hlt]at h1 hk ⊢;by_cases hm:a∈h.trail.drop tr;·rw[G hm];exact⟨ha,hlt⟩
  ·rw[O hm]at h1 hk ⊢;unfold Ce.fU at h1;exact⟨hM.next a ha hk,by omega⟩
 ·have h1:=hok a ha.1 hlt;rw[Sl htop ha.1 hlt]at h1 hk hi;have hm:¬a∈h.trail.drop tr:=fun hm=>by rw[G hm]at hk;have :=htk a (Md hm);simp only at hk;omega
  rw[O hm]at h1 hk hi;obtain⟨k1,k2⟩:=hM.args a ha hk i hi;unfold Ce.fU at h1;have :=ha.1;exact⟨⟨k1,by omega⟩,k2⟩
 ·obtain⟨j,rfl⟩:=dH hy.1;have hj:j<cnt (marks h.cells roots) top:=by have :=hy.2;omega
  obtain⟨i,h1,h2,h3⟩:=MP _ _ hj;exact⟨(i:Int),⟨RP.of ((vM (by omega)).1 h2),by omega⟩,by rw[xG,h3]⟩
theorem oq.good{l l':List Ce}{S:Int->Prop}{mv:Int->Int}(hM:oq l l' S mv)(EJ:∀y,Inb l' y->∃x,S x/\mv x=y)(hg:iH l):iH l':=by
 intro i hi;obtain⟨x,hx,e⟩:=EJ (i:Int) ⟨zN _,by omega⟩;have h1:=hM.cell x hx;rw[e,jR hi]at h1;obtain⟨k,rfl,hk,hc⟩:=pX (hM.jW x hx).1;have h2:=hg k hk;rw[h1];have hnext:=hM.next _ hx;have hargs:=hM.args _ hx;rw[hc]at hnext hargs ⊢;unfold Ce.fU at h2 ⊢;rcases h2 with⟨a1,a2,a3,a4⟩|⟨a1,a2,a3⟩|⟨a1,a2⟩|⟨a1,a2,a3,a4,a5⟩;·left;have hb:=(hM.jW _ (hnext a1)).2;unfold Inb at hb;rw[AZ,JV,Sk mv a1];exact⟨a1,hb.1,hb.2,a4⟩
 ·right;left;rw[AZ,JV,Sj mv (by omega)];exact⟨a1,a2,a3⟩
 ·right;right;left;rw[AZ,JV];exact⟨a1,a2⟩
 ·right;right;right;rw[AZ,JV,Sj mv (by omega)];obtain⟨k1,k2⟩:=hargs a1 ((l[k]).n.toNat - 1) (by omega);have hb:=(hM.jW _ k1).2;unfold Inb at hb;exact⟨a1,a2,a3,by omega,a5⟩
theorem aqp(hg:h.Good){top tr:Nat}(htop:top<=h.cells.length)(htr:tr<=h.trail.length)(ho:(eF h top tr).Good):(eF (jy h roots) (cnt (marks h.cells roots) top) (cnt (aP (marks h.cells roots) h.trail) tr)).Good:=by
 obtain⟨hM,EJ⟩:=af5 (roots:=roots) hg htop htr ho;have hgg:=aej (roots:=roots) hg;have hlen:=CW (h:=h) top tr htop;refine⟨hM.good EJ ho.1,fun j hj=>?_,?_,?_⟩;·have e:(eF (jy h roots) (cnt (marks h.cells roots) top) (cnt (aP (marks h.cells roots) h.trail) tr)).trail=_:=(af4 tr htr).1;have hm:(eF (jy h roots) (cnt (marks h.cells roots) top) (cnt (aP (marks h.cells roots) h.trail) tr)).trail[j]∈((h.trail.take tr).filter (vY (marks h.cells roots))).map (ahead (marks h.cells roots)):=e▸bN hj;obtain⟨x,hx,ex⟩:=iZ.1 hm;obtain⟨hx1,hx2⟩:=ank.1 hx;have hxt:=(Yu (roots:=roots) hg (QP hx1)).1 hx2;obtain⟨i,hi,ei⟩:=vH.1 (show x∈(eF h top tr).trail from hx1);obtain⟨k,ek,hk,hk0⟩:=ho.2.1 i hi;have hxk:x=(k:Int):=ei.symm.trans ek;have hS:RP h roots x/\x<top:=⟨hxt,by omega⟩;have hb:=(hM.jW x hS).2;obtain⟨m,hm,jX,hmc⟩:=pX hb;refine⟨m,by rw[<-hm];exact ex.symm,jX,?_⟩;rw[<-hmc,hM.cell x hS,AZ,hxk,jR hk];exact hk0
 ·show((iP _ _).take _).length<=_;rw[dX,vL];have :=hgg.2.2.1;omega
 ·show(List.take _ _).length<=_;rw[dX];have :=hgg.2.2.2;omega
end
open Go.RowKit
theorem vZ{w:World}{g:Nat}{E:TypeId}{v0:Value}(h:w.heap[g]?=some (.cells #[v0] E (0,0))):w.cell? ⟨g,0,none⟩=some v0/\∀o,w.frozen? ⟨g,o,none⟩=false:=⟨(bY h 0).trans rfl,fun o=>by simp[World.frozen?,h]⟩
mutual
def dU : List Ce → Nat → Tm → List Ce
  | c, k, .mk kd n s l =>
    if kd = 0 then c.set k ⟨0, n, .empty⟩ else if kd = 1 then c.set k ⟨1, 0, s⟩ else if kd = 2 then c.set k ⟨2, n, .empty⟩ else
    if kd = 3 then eZ (c.set k ⟨0, (c.length : Int), .empty⟩ ++ ⟨3, (l.length : Int), s⟩ :: List.replicate l.length ⟨0, 0, .empty⟩) (c.length + 1) l else c
def eZ : List Ce → Nat → List Tm → List Ce
  | c, _, [] => c
  | c, k, t :: r => eZ (dU c k t) (k + 1) r
end
def xI(c:List Ce):Tm->List Ce| .mk _ _ s l=>eZ (c++⟨3,(l.length:Int),s⟩::List.replicate l.length ⟨0,0,.empty⟩) (c.length+1) l
theorem af7:∀(r:List Tm)(c:List Ce)(k:Nat)(t:Tm),eZ c k (r++[t])=dU (eZ c k r) (k+r.length) t|[],c,k,t=>by simp[eZ]|x::r,c,k,t=>by simp only[oO,eZ,af7 r,bn];congr 1;omega
theorem Hf:∀(t:Tm)(c:List Ce)(k:Nat),c.length<=(dU c k t).length/\(dU c k t).length+1<=c.length+2*t.nodes:=by
 intro t;induction t using Tm.induct with
  |h kd n s l ih=>
   intro c k;have hL:∀(r:List Tm),(∀t∈r,t∈l)->∀(c:List Ce)(k:Nat),c.length<=(eZ c k r).length/\(eZ c k r).length+r.length<=c.length+2*Tm.aC r:=by intro r;induction r with|nil=>intro _ c k;simp[eZ,Tm.aC]|cons x r ihr=>intro hm c k;simp only[eZ,Tm.aC,bn];have h1:=ih x (hm x (rA ..)) c k;have h2:=ihr (fun t ht=>hm t (sD _ ht)) (dU c k x) (k+1);omega
   simp only[dU,Tm.nodes];repeat' split
   ·simp;omega
   ·simp;omega
   ·simp;omega
   ·have h1:=hL l (fun _ h=>h) (c.set k ⟨0,(c.length:Int),.empty⟩++⟨3,(l.length:Int),s⟩::List.replicate l.length ⟨0,0,.empty⟩) (c.length+1);simp only[bB,yB,bn,BX]at h1;omega
   ·omega
theorem xJ:∀(r:List Tm)(c:List Ce)(k:Nat),c.length<=(eZ c k r).length/\(eZ c k r).length+r.length<=c.length+2*Tm.aC r|[],c,k=>by simp[eZ,Tm.aC]|x::r,c,k=>by simp only[eZ,Tm.aC,bn];have h1:=Hf x c k;have h2:=xJ r (dU c k x) (k+1);omega
theorem Yv:∀(l:List Tm),l.length<=Tm.aC l
 |[]=>zL _
 |x::r=>by
  have h1:=Yv r;have h2:1<=x.nodes:=by cases x;simp only[Tm.nodes];omega
  simp only[bn,Tm.aC];omega
theorem Yw:∀(l:List Tm)(j:Nat)(hj:j<l.length),Tm.aC (l.take j)+l[j].nodes+(l.length - j - 1)<=Tm.aC l|x::r,0,_=>by have h1:=Yv r;simp only[nD,Tm.aC,BV,bn];omega|x::r,j+1,hj=>by have h1:=Yw r j (by simpa using hj);simp only[Al,Tm.aC,Mc,bn];omega
structure qx (g base : Nat) (l : List Ce) (cv : Value) (w : World) : Prop where
  box : w.heap[g]? = some (.cells #[cv] 108 (0, 0))
  own : jM w base l cv
  lt : g < base
  len : l.length ≤ 4194304
  CX : base ≤ w.heap.size
def jF(g:Nat)(cv:Value)(b:Nat):Prop:=b=g\/ownB cv=some b
def pF(g base:Nat)(cv:Value)(w:World)(l:List Ce)(w':World):Prop:=∃cv',qx g base l cv' w'/\Ch (jF g cv) w w'/\(∀b,ownB cv'=some b->ownB cv=some b\/w.heap.size<=b)
theorem pF.trans{g base:Nat}{cv cv':Value}{w w' w'':World}{l:List Ce}(hc:Ch (jF g cv) w w')(ht:∀b,ownB cv'=some b->ownB cv=some b\/w.heap.size<=b)(h:pF g base cv' w' l w''):pF g base cv w l w'':=by
 obtain⟨mY,h1,h2,h3⟩:=h;refine⟨mY,h1,hc.trans h2 fun x hx=>?_,fun b hb=>?_⟩
 ·rcases hx with hx|hx;·exact .inl (.inl hx)
  ·rcases ht x hx with hx|hx;·exact .inl (.inr hx)
   ·exact .inr hx
 ·rcases h3 b hb with h4|h4;·exact ht b h4
  ·exact .inr (dm hc.size h4)
def Yx(t:Tm):Prop:=∀(g base k:Nat)(l:List Ce)(cv:Value)(A:Nat->Prop)(w:World)(vs:List Value),qx g base l cv w->k<l.length->l.length+2*t.nodes<=4194304->Tm.rep A w t vs->(∀b,A b->b<w.heap.size/\¬jF g cv b)->Calls Tryz.prog 100 #[.pointer (some ⟨g,0,none⟩),.int .i64 (k:Int),.agg vs.toArray] w (fun e w'=>(∃v,e= .returned v)/\pF g base cv w (dU l k t) w')
def Yy(t:Tm):Prop:=∀(g base:Nat)(l:List Ce)(cv:Value)(A:Nat->Prop)(w:World)(vs:List Value),qx g base l cv w->l.length+2*t.nodes<=4194304->Tm.rep A w t vs->(∀b,A b->b<w.heap.size/\¬jF g cv b)->Calls Tryz.prog 99 #[.pointer (some ⟨g,0,none⟩),.agg vs.toArray] w (fun e w'=>e= .returned (.int .i64 (l.length:Int))/\pF g base cv w (xI l t) w')
theorem aqr{P:Program}{ops:Array Oper}{o:Oper}{a:Act}{w W:World}{K:Act->World->Prop}{Q:Exit->Act->World->Prop}{E:Prop}(hg:o.guard=none)(s x:Operand)(t:TypeId)(ho:o.op= .call {callee:= .builtin .append,args:=#[s,x],argTypes:=#[t,t]})(base:Nat)(e:TypeId)(size bytes:Nat)(hty:oU P t e size bytes){α:Type}{R:(Nat->Prop)->World->α->List Value->Prop}(hR:iy R){A:Nat->Prop}(v:Value)(xs:List α)(hs:a.eval s=v)(hown:az w base e size R A xs v)(y:α)(vs:List Value)(hx:a.eval x= .slice (some ⟨w.heap.size,0,none⟩) 1 1)(hvl:vs.length=size)(hvs:R (fun b=>A b/\ownB v≠some b) w y vs)(hlen:xs.length<4194304/\base<=w.heap.size)(h:∀v' w',az w' base e size R A (xs++[y]) v'->jJ (w.alloc (.cells vs.toArray e)) w' v v'->K (a.put o.dst v') w')(hW:W=w.alloc (.cells vs.toArray e)):if Region.wanted o (yielded ops a.tmps)=true then Oper.wp P o a W K Q else E:=by subst hW;rw[G (by simp[Region.wanted,hg])];exact uC s x t ho base e size bytes hty hR v xs hs hown y vs hx hvl hvs hlen h
theorem qx.ch{g base:Nat}{l:List Ce}{cv:Value}{w w':World}(h:qx g base l cv w){M:Nat->Prop}(hc:Ch M w w')(hM:∀b,jF g cv b->¬M b):qx g base l cv w':=⟨(hc.block g (ax h.box) (hM g (.inl rfl))).trans h.box,I.kept h.own (fun b hb=>hc.block b (h.own.lt b hb).2 (hM b (.inr hb))),h.lt,h.len,dm h.CX hc.size⟩
theorem qx.below{g base:Nat}{l:List Ce}{cv:Value}{w w':World}(h:qx g base l cv w)(hb:Below w.heap.size w w'):qx g base l cv w':=h.ch (M:=fun _=>False) (Ch.of_below hb) (fun _ _ h=>h)
theorem qx.set{g base cb cc k:Nat}{l:List Ce}{w:World}(h:qx g base l (.slice (some ⟨cb,0,none⟩) l.length cc) w)(cO:ownB (.slice (some ⟨cb,0,none⟩) l.length cc)=some cb)(hk:k<l.length)(c:Ce)(hc:c.Ok):qx g base (l.set k c) (.slice (some ⟨cb,0,none⟩) l.length cc) (((w.setCell ⟨cb,k*3,none⟩ (.int .i64 c.kind)).setCell ⟨cb,k*3+1,none⟩ (.int .i64 c.n)).setCell ⟨cb,k*3+2,none⟩ (.string c.s)):=by
 have hne:¬g=cb:=fun e=>by have :=(h.own.lt cb cO).1;have :=h.lt;omega
 obtain⟨_,_,_,_,_,_,hok, -⟩:=jM.cell h.own hk;have o1:=I.set (u:= .int .i64 c.kind) Ce.lM h.own cO hk (j:=0) (by omega) (y:=⟨c.kind,l[k].n,l[k].s⟩) rfl ⟨hc.1,hok.2.1,hok.2.2⟩;have o2:=I.set (u:= .int .i64 c.n) Ce.lM o1 cO (i:=k) (by simpa using hk) (j:=1) (by omega) (y:=⟨c.kind,c.n,l[k].s⟩) (by simp[Ce.vals]) ⟨hc.1,hc.2.1,hok.2.2⟩;have o3:=I.set (u:= .string c.s) Ce.lM o2 cO (i:=k) (by simpa using hk) (j:=2) (by omega) (y:=c) (by simp[Ce.vals]) hc;simp only[adT]at o3;refine⟨?_,o3,h.lt,by simpa using h.len,by simpa using h.CX⟩;rw[aW _ _ _ _ hne,aW _ _ _ _ hne,aW _ _ _ _ hne];exact h.box
theorem aqs{c:List Ce}{k:Nat}{kd n:Int}{s:ByteArray}{l:List Tm}(h0:kd≠0)(h1:kd≠1)(h2:kd≠2)(h3:kd≠3):dU c k (.mk kd n s l)=c:=by simp[dU,h0,h1,h2,h3]
theorem aqt(t:Tm)(hf:Yy t):Yx t:=by
 obtain⟨kd,n,s,tl⟩:=t;intro g base k l cv A w vs hm hk hlen hv hA;have HV:=Y hv;rw[Tm.jv]at hv;obtain⟨hkd,hn,hs,v,rfl,hl⟩:=hv;obtain⟨a,cap, -, -,rfl, -, -,htl, -⟩:=hl.at;obtain⟨ca,cc,rfl,hcc,hcm⟩:=I.val hm.own;have HM:=Y hm;have HF:=Y hf;have HA:=Y hA;have HLEN:=Y hlen;have jX:=hm.len;obtain⟨cb,rfl,cO,c0,c1,c2,hok,hfz,hcb,ao5⟩:=jM.cell hm.own hk;obtain⟨b0,bf⟩:=vZ hm.box;have hgs:=ax hm.box;have hcg:cb≠g:=by have :=hm.lt;omega
 have hcs:=bF;have hi0:(0:Int)<=(k:Int):=zN _;have hi1:(k:Int)<(l.length:Int):=by omega
 have kU:=Y cO;have HN:=Y hn;have HS:=Y hs;have e0:ByteArray.empty.size<=1048576:=by decide
 have i0:ah 0:=by unfold ah;omega
 have fin:∀(c:Ce),c.Ok->dU l k (.mk kd n s tl)=l.set k c->∀(aEV:Obj),pF g base (.slice (some ⟨cb,0,none⟩) l.length cc) w (dU l k (.mk kd n s tl)) (((((w.setCell ⟨cb,k*3,none⟩ (.int .i64 c.kind)).setCell ⟨cb,k*3+1,none⟩ (.int .i64 c.n)).setCell ⟨cb,k*3+2,none⟩ (.string c.s)).alloc aEV).drew):=by intro c hc he aEV;rw[he];have h1:=(hm.set cO hk c hc);refine⟨_,h1.below (((Z _ _).alloc (zL _) _).drew),?_,fun b hb=> .inl hb⟩;have h2:Ch (jF g (.slice (some ⟨cb,0,none⟩) l.length cc)) w w:=Ch.refl _ _;exact(((h2.setCell (p:=⟨cb,k*3,none⟩) (.inl (.inr cO)) _).setCell (p:=⟨cb,k*3+1,none⟩) (.inl (.inr cO)) _).setCell (p:=⟨cb,k*3+2,none⟩) (.inl (.inr cO)) _).alloc _|>.drew
 have FIN:=Y fin;clear hm hl hf hA hlen cO hok hn hs fin;by_cases h0:kd=0;·subst h0;have HP:=Y (show dU l k (.mk 0 n s tl)=l.set k ⟨0,n,.empty⟩by simp[dU]);go_enter Tryz.func100,Tryz.ntmps100;go_wp2_with fail;go_region;go_wp2_with fail;refine Cc (v:= .tuple #[]) (by simp[results,Tryz.results100,go_sem]) rfl ?_;exact⟨⟨_,rfl⟩,FIN.out ⟨0,n,.empty⟩ ⟨i0,HN.o,e0⟩ HP.o _⟩
 by_cases h1:kd=1;·subst h1;have HP:=Y (show dU l k (.mk 1 n s tl)=l.set k ⟨1,0,s⟩by simp[dU]);go_enter Tryz.func100,Tryz.ntmps100;go_wp2_with fail;go_region;go_wp2_with fail;refine Cc (v:= .tuple #[]) (by simp[results,Tryz.results100,go_sem]) rfl ?_;exact⟨⟨_,rfl⟩,FIN.out ⟨1,0,s⟩ ⟨by unfold ah;simp only;omega,i0,HS.o⟩ HP.o _⟩
 by_cases h2:kd=2;·subst h2;have HP:=Y (show dU l k (.mk 2 n s tl)=l.set k ⟨2,n,.empty⟩by simp[dU]);go_enter Tryz.func100,Tryz.ntmps100;go_wp2_with fail;go_region;go_wp2_with fail;refine Cc (v:= .tuple #[]) (by simp[results,Tryz.results100,go_sem]) rfl ?_;exact⟨⟨_,rfl⟩,FIN.out ⟨2,n,.empty⟩ ⟨by unfold ah;simp only;omega,HN.o,e0⟩ HP.o _⟩
 by_cases h3:kd=3
 ·subst h3;have HP:=Y (show dU l k (.mk 3 n s tl)=xI (l.set k ⟨0,(l.length:Int),.empty⟩) (.mk 3 n s tl)by simp[dU,xI]);go_enter Tryz.func100,Tryz.ntmps100;go_wp2_with fail;go_region;go_wp2_with fail;have hset:=HM.o.set kU.o hk ⟨0,(l.length:Int),.empty⟩ ⟨i0,by unfold ah;simp only;omega,e0⟩;have h3:Ch (jF g (.slice (some ⟨cb,0,none⟩) l.length cc)) w w:=Ch.refl _ _;have hch:=((((h3.setCell (p:=⟨cb,k*3,none⟩) (.inl (.inr kU.o)) (.int .i64 0)).setCell (p:=⟨cb,k*3+1,none⟩) (.inl (.inr kU.o)) (.int .i64 (l.length:Int))).setCell (p:=⟨cb,k*3+2,none⟩) (.inl (.inr kU.o)) (.string .empty)).alloc (.cells #[.int .i64 3,.int .i64 n,.string s,.slice a tl.length cap] 34)).drew;have hmk:=hset.below (((Z _ _).alloc (zL _) (.cells #[.int .i64 3,.int .i64 n,.string s,.slice a tl.length cap] 34)).drew);have hsz:=hch.size;have hkp:=hch.keeps (A:=A) (fun b _ hb=>(HA.o b hb).2);have hll:(l.set k ⟨0,(l.length:Int),.empty⟩).length=l.length:=by simp
  have hlen:=HLEN.o;refine(HF.o g base (l.set k ⟨0,(l.length:Int),.empty⟩) (.slice (some ⟨cb,0,none⟩) l.length cc) A _ [_,_,_,_] hmk (by rw[hll];exact hlen) (Tm.ae.1 _ _ _ _ _ HV.o hkp) (fun b hb=>⟨uB (HA.o b hb).1 hsz,(HA.o b hb).2⟩)).mono ?_;rintro e w2⟨rfl,hst⟩;have HST:=Y (pF.trans hch (fun b hb=> .inl hb) hst);clear hset h3 hch hmk hsz hkp hst;go_wp2_with fail;refine Cc (v:= .tuple #[]) (by simp[results,Tryz.results100,go_sem]) rfl ?_;exact⟨⟨_,rfl⟩,by rw[HP.o];exact HST.o⟩
 ·have q0:(kd==0)=false:=by simpa using h0
  have q1:(kd==1)=false:=by simpa using h1
  have q2:(kd==2)=false:=by simpa using h2
  have q3:(kd==3)=false:=by simpa using h3
  have HP:=Y (aqs (c:=l) (k:=k) (n:=n) (s:=s) (l:=tl) h0 h1 h2 h3);go_enter Tryz.func100,Tryz.ntmps100;go_wp2_with fail;refine Cc (v:= .tuple #[]) (by simp[results,Tryz.results100,go_sem]) rfl ?_;refine⟨⟨_,rfl⟩,_,?_,(Ch.refl _ _).alloc _,fun b hb=> .inl hb⟩;rw[HP.o];exact HM.o.below ((Z _ _).alloc (zL _) _)
def af8(g base:Nat)(cv:Value)(w:World)(l:List Ce)(w':World):Prop:=∃cv',qx g base l cv' w'/\Ch (jF g cv) w w'/\(∀b,ownB cv'=some b->ownB cv=some b\/w.heap.size<=b)
theorem Sn{g base:Nat}{cv v2:Value}{l:List Ce}{w w0 w2 W:World}{c:Ce}{cells:Array Value}(hm:qx g base l cv w)(hl:l.length+1<=4194304)(h0:Ch (jF g cv) w0 W)(hw0:w.heap.size<=w0.heap.size)(h1:jM w2 base (l++[c]) v2)(hb:w2.heap[g]?=some (.cells #[cv] 108 (0,0)))(hg:jJ (W.alloc (.cells cells 112)) w2 cv v2):af8 g base cv w0 (l++[c]) (w2.setCell ⟨g,0,none⟩ v2):=by
 have hne:ownB v2≠some g:=fun e=>by have :=(h1.lt g e).1;have :=hm.lt;omega
 have hz:=hg.size;have hz0:=h0.size;have hbw:=hm.CX;refine⟨v2,⟨(aX hb 0 _).trans rfl,I.kept h1 (fun b hb=>aW _ _ _ _ (fun e=>hne (by rw[hb];simp only at e;rw[e]))),hm.lt,by simp;omega,by simp only[oL,bO]at hz ⊢;omega⟩,?_,fun b hb=>?_⟩;·refine Ch.setCell (p:=⟨g,0,none⟩) ?_ (.inl (.inl rfl)) _;exact hg.ch (h0.alloc _) (fun b hb=> .inl (.inr hb))
 ·rcases hg.block with h|h;·exact .inl (by rw[<-h];exact hb)
  ·have :=h b hb;simp only[bO]at this;exact .inr (by omega)
theorem af9(kd n:Int)(s:ByteArray)(tl:List Tm)(ih:∀t∈tl,Yx t):Yy (.mk kd n s tl):=by
 intro g base l cv A w vs hm hlen hv hA;rw[Tm.jv]at hv;obtain⟨hkd,hn,hs,v,rfl,hl⟩:=hv;obtain⟨a,cap,b,off,rfl,hlc,hcm,htl,ha,he⟩:=hl.at;obtain⟨ca,cc,rfl,hcc,aqu⟩:=I.val hm.own;have HM:=Y hm;have HA:=Y hA;have HE:=Y he;have wh:=Y ha;have IH:=Y ih;have jX:=hm.len;have hgb:=hm.lt;have hbw:=hm.CX;simp only[Tm.nodes]at hlen;have hnl:=Yv tl;obtain⟨b0,bf⟩:=vZ hm.box;have hgs:=ax hm.box;have hcs:=bF;have HS:=Y hs;have hll:l.length+1+tl.length<=4194304:=by omega
 obtain⟨aEV,hO⟩:∃aEV,aEV=Obj.cells #[.int .i64 kd,.int .i64 n,.string s,.slice a tl.length cap] 34 (0,0):=⟨_,rfl⟩;have HOQ:=Y hO;have HOW:=Y (I.gT Ce.lM (I.below hm.own (((Z _ _).alloc (zL _) aEV).drew)) (fun _=>True));have xK:=Y (fun b(hb:ownB (.slice ca l.length cc)=some b)=>hm.own.lt b hb);have fO:=Y (show((w.alloc aEV).drew.alloc (.cells #[.int .i64 3,.int .i64 (tl.length:Int),.string s] 112)).heap[g]?=_ from aI (bJ (A:=fun _=>True) (aI hm.box aEV) (J.drew _ _) trivial) _);rw[hO]at HOW fO;clear hm hA he ha ih hl hO;go_enter Tryz.func99,Tryz.ntmps99;go_wp2_with fail;go_upto_region 2 with fail;go_cut[5](fun u5 wr=>u5= .int .i64 (l.length:Int)/\af8 g base (.slice ca l.length cc) (w.alloc (.cells #[.int .i64 kd,.int .i64 n,.string s,.slice a tl.length cap] 34)) (l++[⟨3,(tl.length:Int),s⟩]) wr);case first=>go_region_law(refine aqr rfl (.tmp 17) (.tmp 24) 56 rfl base 112 3 32 Eo Ce.ae (A:=fun _=>True) (.slice ca l.length cc) l rfl HOW.o ⟨3,(tl.length:Int),s⟩ [.int .i64 3,.int .i64 (tl.length:Int),.string s] (by simp only[dG,bO];rfl) rfl ⟨⟨by unfold ah;simp only;omega,by unfold ah;simp only;omega,HS.o⟩,rfl⟩ ⟨by omega,by simp;omega⟩ ?_ rfl;intro v2 w2 hown aj;have bA:=Y (I.fJ hown);obtain⟨aS,aT,hv2,kX,rO⟩:=I.val bA.o;rw[bB,dZ]at hv2;subst hv2;have HB2:=Y (show w2.heap[g]?=_ from(aj.grown.block g (by simp;omega) (fun e=>by have :=(xK.o _ e.symm).1;omega)).trans fO.o);obtain⟨y0,yf⟩:=vZ HB2.o;have NP:=ax HB2.o;have HG2:=Y aj;have hz2:=aj.size;clear hown aj);all_goals go_wp2_with fail;go_meet;refine⟨rfl,?_⟩;exact Sn HM.o (by omega) (Ch.refl _ _).drew (by simp) bA.o HB2.o HG2.o
 case rest=>
  obtain⟨rfl,hst⟩:=hcut;have hst:pF g base (.slice ca l.length cc) (w.alloc (.cells #[.int .i64 kd,.int .i64 n,.string s,.slice a tl.length cap] 34)) (l++[⟨3,(tl.length:Int),s⟩]) wc:=hst;obtain⟨W0,hW0⟩:∃W0,W0=w.alloc (.cells #[.int .i64 kd,.int .i64 n,.string s,.slice a tl.length cap] 34):=⟨_,rfl⟩;have HX:=Y (show W0.heap[w.heap.size]?=some (.cells #[.int .i64 kd,.int .i64 n,.string s,.slice a tl.length cap] 34 (0,0))by rw[hW0];exact bq w (.cells #[.int .i64 kd,.int .i64 n,.string s,.slice a tl.length cap] 34));have hz0:W0.heap.size=w.heap.size+1:=by rw[hW0];simp
  have HW0:=Y (show Below w.heap.size w W0 by rw[hW0];exact(Z _ _).alloc (zL _) _);rw[<-hW0]at hst;have vK:=Y (show ∀b,jF g (.slice ca l.length cc) b->b<w.heap.size from fun b hb=>by
   rcases hb with rfl|hb;·exact hgs
   ·exact(xK.o b hb).2);have HST:=Y hst;have HXB:=Y (fun(W:World)(h:Ch (jF g (.slice ca l.length cc)) W0 W)=>(h.block w.heap.size (by omega) (fun e=>by have :=vK.o _ e;omega)).trans HX.o);obtain⟨Hg,hm1,hc1,ho1⟩:=hst;obtain⟨x0,x1,x2,x3,xf⟩:=aF (HXB.o _ hc1);have hzc:=hc1.size;clear hW0 HOW fO HM hm1 hc1 ho1 b0 bf;go_wp2_with fail;clear x0 x1 x2 x3 xf hzc;go_loopw[31](fun i W=>∃j:Nat,j<=tl.length/\i= .int .i64 (j:Int)/\pF g base (.slice ca l.length cc) W0 (l++⟨3,(tl.length:Int),s⟩::List.replicate j ⟨0,0,.empty⟩) W)(fun i _=>tl.length - (intOf i).toNat);case atStart=>exact⟨0,dA _,rfl,HST.o⟩
  case round=>
   obtain⟨j,hj,rfl,Hg,hm1,hc1,ho1⟩:=hrel;have eX:=Y hc1;have fH:=Y ho1;have hzc:=hc1.size;obtain⟨x0,x1,x2,x3,xf⟩:=aF (HXB.o _ hc1);obtain⟨c1a,Sq,rfl,hl1,aqv⟩:=I.val hm1.own;have Hl:(l++(⟨3,(tl.length:Int),s⟩:Ce)::List.replicate j (⟨0,0,.empty⟩:Ce)).length=l.length+1+j:=by simp;omega
   rw[Hl]at hl1 hm1 ho1 fH;have gK:=Y hm1;obtain⟨b0,bf⟩:=vZ hm1.box;have aga:=ax hm1.box;have agb:=hm1.CX;have agc:=Y (fun b(hb:ownB (.slice c1a (l.length+1+j) Sq)=some b)=>hm1.own.lt b hb);by_cases hlt:j<tl.length
   ·have hlt':(j:Int)<(tl.length:Int):=by omega
    have hj0:(0:Int)<=(j:Int):=zN _;have dO:=Y (I.gT Ce.lM hm1.own (fun _=>True));have fO:=Y (aI hm1.box (.cells #[.int .i64 0,.int .i64 0,.string .empty] 112));have hlen1:(l++(⟨3,(tl.length:Int),s⟩:Ce)::List.replicate j (⟨0,0,.empty⟩:Ce)).length<4194304:=by omega
    clear hm1 hc1 ho1;go_wp2_with(at_builtin;go_must(refine ja rfl (.tmp 37) (.tmp 39) 56 rfl base 112 3 32 Eo Ce.ae (A:=fun _=>True) (.slice c1a (l.length+1+j) Sq) (l++(⟨3,(tl.length:Int),s⟩:Ce)::List.replicate j (⟨0,0,.empty⟩:Ce)) rfl dO.o (⟨0,0,.empty⟩:Ce) [.int .i64 0,.int .i64 0,.string .empty] rfl rfl ⟨⟨by unfold ah;simp only;omega,by unfold ah;simp only;omega,by decide⟩,rfl⟩ ⟨hlen1,agb⟩ ?_);go_must(intro v2 w2 hown aj;have bA:=Y (I.fJ hown);obtain⟨aS,aT,hv2,kX,rO⟩:=I.val bA.o;rw[bB,dZ,Hl]at hv2;subst hv2;have HB2:=Y (show w2.heap[g]?=_ from(aj.grown.block g (by simp;omega) (fun e=>by have :=(agc.o _ e.symm).1;omega)).trans fO.o);obtain⟨y0,yf⟩:=vZ HB2.o;have NP:=ax HB2.o;have HG2:=Y aj;have hz2:=aj.size;clear hown aj b0 bf x0 x1 x2 x3 xf));go_roundw;case rel=>refine⟨j+1,by omega,by go_num,pF.trans eX.o fH.o ?_⟩;have :=Sn gK.o (by omega) (Ch.refl _ _) (zL _) bA.o HB2.o HG2.o;rw[Ao,oO,<-List.replicate_succ']at this;exact this
    case measure=>first|(simp[intOf];done)|(simp[intOf];omega)
   ·have bZ:j=tl.length:=by omega
    subst bZ;have hlt':¬((tl.length:Int)<(tl.length:Int)):=by omega
    have xL:=Y (show pF g base (.slice ca l.length cc) W0 (l++⟨3,(tl.length:Int),s⟩::List.replicate tl.length ⟨0,0,.empty⟩) wr from⟨_,gK.o,eX.o,fH.o⟩);obtain⟨c1,Sr⟩:∃c1,c1=l++(⟨3,(tl.length:Int),s⟩:Ce)::List.replicate tl.length (⟨0,0,.empty⟩:Ce):=⟨_,rfl⟩;rw[<-Sr]at xL;have aqw:=Y Sr;have aAU:c1.length=l.length+1+tl.length:=by rw[Sr];exact Hl
    clear hm1 hc1 ho1 hlt Sr b0 bf gK eX fH agc Hl;go_wp2_with fail;clear x0 x1 x2 x3 xf hzc aga agb;go_loopw[47](fun i W=>∃j:Nat,j<=tl.length/\i= .int .i64 (j:Int)/\pF g base (.slice ca l.length cc) W0 (eZ c1 (l.length+1) (tl.take j)) W)(fun i _=>tl.length - (intOf i).toNat);case atStart=>exact⟨0,dA _,rfl,by rw[nD,eZ];exact xL.o⟩
    case round=>
     obtain⟨j,hj,rfl,Hg,hm1,hc1,ho1⟩:=hrel;have eX:=Y hc1;have fH:=Y ho1;have gK:=Y hm1;have hzc:=hc1.size;by_cases hlt:j<tl.length
     ·obtain⟨rfl,bQ⟩:=wh.o (by omega);have EK:=Y (show J A w wr from(J.ob HW0.o).trans (hc1.keeps (A:=A) (fun b _ hb=>(HA.o b hb).2)));obtain⟨sa,sc,d0,d1,d2,d3,hr⟩:=lJ HE.o bQ EK.o hlt;have hlt':(j:Int)<(tl.length:Int):=by omega
      have hj0:(0:Int)<=(j:Int):=zN _;have hl1:=xJ (tl.take j) c1 (l.length+1);have hnj:=Yw tl j hlt;have Su:(eZ c1 (l.length+1) (tl.take j)).length+2*(tl[j]'hlt).nodes<=4194304:=by
       have :(tl.take j).length=j:=by rw[dX];omega
       omega
      obtain⟨t,ht⟩:∃t,t=tl[j]'hlt:=⟨_,rfl⟩;have hmem:t∈tl:=by rw[ht];exact bN _
      rw[<-ht]at d0 d1 d2 d3 hr Su;have HT:=Y ht;have nT:=Y hlt;have HR:=Y hr;have Yb:=Y (IH.out t hmem);have HL2:=Y Su;have hk2:l.length+1+j<(eZ c1 (l.length+1) (tl.take j)).length:=by omega
      have Sw:=Y (show(l.length:Int)+1+(j:Int)=((l.length+1+j:Nat):Int)by omega);clear hr ht hmem Su hm1 hc1 ho1 hnj hl1;go_wp2_with fail;rw[Sw.o];refine(Yb.o g base (l.length+1+j) _ Hg A _ [_,_,_,_] (gK.o.below ((Z _ _).alloc (zL _) (.cells #[.int .i64 t.kind,.int .i64 t.n,.string t.s,.slice sa t.args.length sc] 34))) hk2 HL2.o (Tm.ae.1 _ _ _ _ _ HR.o (J.alloc _ _ _)) (fun b hb=>⟨by have :=(HA.o b hb).1;simp;omega,fun e=>?_⟩)).mono ?_
      ·rcases e with e|e;·exact(HA.o b hb).2 (.inl e)
       ·rcases fH.o b e with e|e;·exact(HA.o b hb).2 (.inr e)
        ·have :=(HA.o b hb).1;omega
      rintro e w3⟨⟨v3,rfl⟩,vU⟩;have Sy:=Y (pF.trans eX.o fH.o (pF.trans ((Ch.refl _ _).alloc (.cells #[.int .i64 t.kind,.int .i64 t.n,.string t.s,.slice sa t.args.length sc] 34)) (fun b hb=> .inl hb) vU));clear vU d0 d1 d2 d3;go_wp2_with fail;go_roundw;case rel=>refine⟨j+1,by omega,by go_num,?_⟩;rw[iq nT.o,af7,<-HT.o,show(tl.take j).length=j by rw[dX];have :=nT.o;omega];exact Sy.o
      case measure=>first|(simp[intOf];done)|(simp[intOf];omega)
     ·have bZ:j=tl.length:=by omega
      subst bZ;have hlt':¬((tl.length:Int)<(tl.length:Int)):=by omega
      clear hm1 hc1 ho1 hlt;go_wp2_with fail;go_ret;refine⟨rfl,pF.trans (Ch.of_below HW0.o) (fun b hb=> .inl hb) ?_⟩;rw[xI,<-aqw.o];have :=gK.o;rw[nQ]at this;exact⟨Hg,this,eX.o,fH.o⟩
theorem agd:∀t,Yx t:=by intro t;induction t using Tm.induct with|h k n s l ih=>exact aqt _ (af9 k n s l ih)
theorem aqy:∀t,Yy t:=by intro t;obtain⟨k,n,s,l⟩:=t;exact af9 k n s l (fun t _=>agd t)
