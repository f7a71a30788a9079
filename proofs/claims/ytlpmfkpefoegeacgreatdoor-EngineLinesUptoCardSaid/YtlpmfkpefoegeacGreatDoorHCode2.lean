import Derived.Test.YtlpmfkpefoegeacGreatDoorHBack
import Derived.Test.YtlpmfkpefoegeacGreatDoorPMUni
import Derived.Deep.RegionLaw
import Derived.Deep.DeepCutAuto
import Derived.StillTailTactics
import Derived.Test.YtlpmfkpefoegeacGreatDoorQTwo
namespace Go.Proofs.YtlpmfkpefoegeacGreatDoor
set_option maxRecDepth 99999
set_option maxHeartbeats 0
set_option linter.all false
section
variable {h : Hp} {roots : List Int}
def RP(h:Hp)(roots:List Int)(a:Int):Prop:=0<=a/\Reach h.cells roots a.toNat
theorem RP.nat{a:Int}(hr:RP h roots a)(hg:gB h.cells):∃k:Nat,a=(k:Int)/\k<h.cells.length/\Reach h.cells roots k:=by obtain⟨h0,h1⟩:=hr;obtain⟨k,rfl⟩:=eu h0;rw[dB]at h1;exact⟨k,rfl,h1.lt hg,h1⟩
theorem RP.of{k:Nat}(hr:Reach h.cells roots k):RP h roots (k:Int):=⟨zN _,by rw[dB];exact hr⟩
theorem uD(m:List Bool)(k:Nat):ahead m (k:Int)=(cnt m k:Nat):=by unfold ahead;rw[dB]
theorem aj3(hg:gB h.cells){a:Int}(hr:RP h roots a):cellAt (iq h roots).cells (ahead (marks h.cells roots) a)=mK (marks h.cells roots) (cellAt h.cells a):=by obtain⟨k,rfl,hk,hr⟩:=hr.nat hg;rw[uD,QJ k hk hr]
theorem aak(hg:gB h.cells){a:Int}(hr:RP h roots a):Inb (iq h roots).cells (ahead (marks h.cells roots) a)/\Inb h.cells a:=by obtain⟨k,rfl,hk,hr⟩:=hr.nat hg;have :=Ih (h:=h) hk hr;rw[uD];unfold Inb;omega
theorem RP.next(hg:gB h.cells){a:Int}(hr:RP h roots a)(hk:(cellAt h.cells a).kind=0):RP h roots (cellAt h.cells a).n:=by obtain⟨k,rfl,hkl,hr⟩:=hr.nat hg;have h1:=hg k hkl;rw[iQ hkl]at hk ⊢;unfold Ce.fo at h1;obtain⟨m,hm⟩:=eu (show 0<=h.cells[k].n by omega);rw[hm];exact RP.of (.step hr (.inl (by rw[iQ hkl];exact⟨hk,hm⟩)))
theorem aj4(hg:gB h.cells){a:Int}(hr:RP h roots a)(hk:(cellAt h.cells a).kind=3):argsAt (ahead (marks h.cells roots) a) (cellAt h.cells a).n=(argsAt a (cellAt h.cells a).n).map (ahead (marks h.cells roots))/\∀x∈argsAt a (cellAt h.cells a).n,RP h roots x:=by
 obtain⟨k,rfl,hkl,hr⟩:=hr.nat hg;have h1:=hg k hkl;have hk':=hk;rw[iQ hkl]at hk';unfold Ce.fo at h1;have hn:0<=(cellAt h.cells (k:Int)).n:=by rw[iQ hkl];omega
 obtain⟨n,hn⟩:=eu hn;rw[hn];have key:∀i,i<n->cnt (marks h.cells roots) (k+1+i)=cnt (marks h.cells roots) k+1+i/\Reach h.cells roots (k+1+i):=fun i hi=>by refine⟨(Ii hg hkl hr hk i (by omega)).1,?_⟩;have :=(Ii hg hkl hr hk (i+1) (by omega)).2 (by omega);rw[show k+1+i=k+(i+1)by omega];exact this
 constructor;·unfold argsAt;rw[Qp];refine XB fun i hi=>?_;rw[kK,dB]at hi;obtain⟨k1,k2⟩:=key i hi;simp only[agn];rw[show(k:Int)+1+(i:Nat)=((k+1+i:Nat):Int)by omega,uD,uD,k1];omega
 ·intro x hx;unfold argsAt at hx;obtain⟨i,hi,rfl⟩:=gQ.1 hx;rw[kK,dB]at hi;rw[show(k:Int)+1+(i:Nat)=((k+1+i:Nat):Int)by omega];exact RP.of (key i hi).2
end
def uE(mv:Int->Int)(c:Ce):Ce:=if c.kind=0 then{c with n:=mv c.n}else c
structure lM (l l' : List Ce) (S : Int → Prop) (mv : Int → Int) : Prop where
  iU : ∀ a, S a → Inb l a ∧ Inb l' (mv a)
  cell : ∀ a, S a → cellAt l' (mv a) = uE mv (cellAt l a)
  next : ∀ a, S a → (cellAt l a).kind = 0 → S (cellAt l a).n
  args : ∀ a, S a → (cellAt l a).kind = 3 → ∀ i : Nat, (i : Int) < (cellAt l a).n → S (a + 1 + (i : Nat)) ∧ mv (a + 1 + (i : Nat)) = mv a + 1 + (i : Nat)
  lt : ∀ a b, S a → S b → a < b → mv a < mv b
section
variable {l l' : List Ce} {S : Int → Prop} {mv : Int → Int} {φ φ' : Int → Int} {E : Env} {K K' : Int → Prop} {N : Int}
theorem lM.inj(h:lM l l' S mv){a b:Int}(ha:S a)(hb:S b)(e:mv a=mv b):a=b:=by
 rcases agy a b with h1|h1|h1;·have :=h.lt a b ha hb h1;omega
 ·exact h1
 ·have :=h.lt b a hb ha h1;omega
theorem xN(mv:Int->Int)(c:Ce):(uE mv c).kind=c.kind:=by unfold uE;split<;>rfl
theorem Fs(mv:Int->Int)(c:Ce):(uE mv c).s=c.s:=by unfold uE;split<;>rfl
theorem MZ(mv:Int->Int){c:Ce}(h:c.kind≠0):(uE mv c).n=c.n:=by unfold uE;rw[ae h]
theorem M3(mv:Int->Int){c:Ce}(h:c.kind=0):(uE mv c).n=mv c.n:=by unfold uE;rw[ah h]
theorem lM.stop(h:lM l l' S mv){a:Int}(ha:S a):Stop l' (mv a)↔Stop l a:=by
 unfold Stop;rw[h.cell a ha,xN];by_cases hk:(cellAt l a).kind=0
 ·rw[M3 mv hk];constructor
  ·rintro(e|e);·exact .inl e
   ·exact .inr (h.inj (h.next a ha hk) ha e)
  ·rintro(e|e);·exact .inl e
   ·exact .inr (by rw[e])
 ·exact⟨fun _=> .inl hk,fun _=> .inl hk⟩
theorem lM.looks(h:lM l l' S mv){a x:Int}(hl:Looks l a x)(ha:S a):Looks l' (mv a) (mv x)/\S x:=by induction hl with|stop h1 h2=>exact⟨.stop (h.iU _ ha).2 ((h.stop ha).2 h2),ha⟩|@next a x h1 h2 _ ih=>have hk:(cellAt l a).kind=0:=Cq fun hk=>h2 (.inl hk);obtain⟨k1,k2⟩:=ih (h.next a ha hk);refine⟨.next (h.iU _ ha).2 (fun hs=>h2 ((h.stop ha).1 hs)) ?_,k2⟩;rw[h.cell a ha,M3 mv hk];exact k1
theorem lM.free(h:lM l l' S mv){a:Int}(ha:S a):gD l' (mv a)↔gD l a:=by
 unfold gD;rw[h.cell a ha,xN];by_cases hk:(cellAt l a).kind=0;·rw[M3 mv hk];exact⟨fun⟨_,_,e⟩=>⟨(h.iU a ha).1,hk,h.inj (h.next a ha hk) ha e⟩,fun⟨_,_,e⟩=>⟨(h.iU a ha).2,hk,by rw[e]⟩⟩
 ·exact⟨fun⟨_,e,_⟩=>absurd e hk,fun⟨_,e,_⟩=>absurd e hk⟩
theorem lM.hr(h:lM l l' S mv)(hφ:∀x,S x->gD l x->K x->φ' (mv x)=φ x/\K' (mv x)){a:Int}{t:Tm}(hr:Hr l φ E K a t):S a->Hr l' φ' E K' (mv a) t:=by
 induction hr with
  |@var a x t h1 h2 h3 h4 h5=>intro ha;obtain⟨k1,k2⟩:=h.looks h1 ha;obtain⟨k3,k4⟩:=hφ x k2 (h1.free h2) h3;exact .var k1 (by rw[h.cell x k2,xN];exact h2) k4 h4 (by rw[k3];exact h5)
  |@leaf a x t h1 h2 h3 h4 h5 h6 h7=>
   intro ha;obtain⟨k1,k2⟩:=h.looks h1 ha;have hk:(cellAt l x).kind≠0:=by rw[h2];exact h3
   exact .leaf k1 (by rw[h.cell x k2,xN];exact h2) h3 h4 (by rw[h.cell x k2,MZ mv hk];exact h5) (by rw[h.cell x k2,Fs];exact h6) h7
  |@comp a x t h1 h2 h3 h4 h5 h6 h7 ih=>
   intro ha;obtain⟨k1,k2⟩:=h.looks h1 ha;have hk:(cellAt l x).kind≠0:=by rw[h2];decide
   refine .comp k1 (by rw[h.cell x k2,xN];exact h2) h3 h4 (by rw[h.cell x k2,MZ mv hk];exact h5) (by rw[h.cell x k2,Fs];exact h6) fun i hi=>?_;obtain⟨q1,q2⟩:=h.args x k2 h2 i (by rw[h5];omega);rw[<-q2];exact ih i hi q1
open Classical in noncomputable def Fu(S:Int->Prop)(mv:Int->Int)(y:Int):Int:=if h:∃x,S x/\mv x=y then Classical.choose h else 0
theorem lM.back(h:lM l l' S mv){a:Int}(ha:S a):Fu S mv (mv a)=a:=by have he:∃x,S x/\mv x=mv a:=⟨a,ha,rfl⟩;unfold Fu;rw[Ay he];obtain⟨h1,h2⟩:=Classical.choose_spec he;exact h.inj h1 ha h2
theorem lM.all(h:lM l l' S mv)(Bn:∀y,Inb l' y->∃x,S x/\mv x=y)(hM:Mon N l φ E):Mon N l' (fun y=>φ (Fu S mv y)) E/\∀a t,S a->Hr l φ E (fun _=>True) a t->Hr l' (fun y=>φ (Fu S mv y)) E (fun _=>True) (mv a) t:=by
 refine⟨⟨fun x y hx hy hlt=>?_,fun x hx=>?_,fun x hx=>?_⟩,fun a t ha hr=>h.hr (fun x hx _ _=>⟨by rw[h.back hx],trivial⟩) hr ha⟩
 ·obtain⟨a,ha,rfl⟩:=Bn x hx.1;obtain⟨b,hb,rfl⟩:=Bn y hy.1;rw[h.back ha,h.back hb];refine hM.lt a b ((h.free ha).1 hx) ((h.free hb).1 hy) ?_;rcases agy a b with h1|h1|h1;·exact h1
  ·subst h1;omega
  ·have :=h.lt b a hb ha h1;omega
 ·obtain⟨a,ha,rfl⟩:=Bn x hx.1;rw[h.back ha];exact hM.bd a ((h.free ha).1 hx)
 ·obtain⟨a,ha,rfl⟩:=Bn x hx.1;rw[h.back ha];exact hM.free a ((h.free ha).1 hx)
end
def dR(h:Hp)(top tr:Nat):Hp:=⟨(gK h.cells (h.trail.drop tr)).take top,h.trail.take tr⟩
def si(m:List Bool)(v:Int):Bool:=(m[v.toNat]?).getD false
theorem R4(m:List Bool)(t:List Int):∀(k:Nat),k<=t.length->jr m t k=((t.take k).filter (si m)).map (ahead m)
 |0,_=>by simp[jr]
 |k+1,hk=>by
  have hlt:k<t.length:=by omega
  rw[fF hlt,List.filter_append,mF,<-R4 m t k (by omega),jr];have e:(aT m t)[k]?=some (si m t[k]):=by unfold aT;rw[vB,aS hlt];rfl
  rw[e];cases hq:si m t[k]with|true=>rw[ah rfl,aS hlt];simp[hq]|false=>rw[ae (by simp)];simp[hq]
section
variable {h : Hp} {roots : List Int}
theorem aal(hg:h.Good):lM h.cells (iq h roots).cells (RP h roots) (ahead (marks h.cells roots)):=by
 refine⟨fun a ha=>⟨(aak hg.1 ha).2,(aak hg.1 ha).1⟩,fun a ha=>aj3 hg.1 ha,fun a ha hk=>ha.next hg.1 hk,fun a ha hk i hi=>?_,fun a b ha hb hlt=>?_⟩
 ·obtain⟨h1,h2⟩:=aj4 hg.1 ha hk;have hm:a+1+(i:Nat)∈argsAt a (cellAt h.cells a).n:=by unfold argsAt;exact gQ.2 ⟨i,kK.2 (by omega),rfl⟩
  refine⟨h2 _ hm,?_⟩;have h3:=congrArg (fun l=>l[i]?) h1;unfold argsAt at h3;simp only[vB,XE (show i<(cellAt h.cells a).n.toNat by omega),nV,cZ]at h3;exact h3.symm
 ·obtain⟨k,rfl,hk,ha⟩:=ha.nat hg.1;obtain⟨m,rfl,hm,hb⟩:=hb.nat hg.1;rw[uD,uD];have :=cnt_lt (m:=marks h.cells roots) (i:=k) (j:=m) (by omega) ((rQ hk).2 ha);omega
theorem aj5(hg:h.Good):∀y,Inb (iq h roots).cells y->∃x,RP h roots x/\ahead (marks h.cells roots) x=y:=by intro y hy;obtain⟨k,rfl⟩:=eu hy.1;obtain⟨i,h1,h2,h3⟩:=Yq (h:=h) (roots:=roots) (j:=k) (by have :=hy.2;omega);exact⟨(i:Int),RP.of h2,by rw[uD,h3]⟩
theorem R5(hg:h.Good){v:Int}(hv:v∈h.trail):si (marks h.cells roots) v=true↔RP h roots v:=by
 obtain⟨j,hj,rfl⟩:=tX.1 hv;obtain⟨k,e,hk, -⟩:=hg.2.1 j hj;rw[e];unfold si RP;rw[dB];constructor;·intro h1;refine⟨zN _,(rQ hk).1 ?_⟩;cases hq:(marks h.cells roots)[k]? with|none=>rw[hq]at h1;simp at h1|some b=>rw[hq]at h1;simp only[qw]at h1;rw[h1]
 ·intro h1;rw[(rQ hk).2 h1.2];rfl
theorem aam(tr:Nat)(htr:tr<=h.trail.length):(iq h roots).trail.take (cnt (aT (marks h.cells roots) h.trail) tr)=((h.trail.take tr).filter (si (marks h.cells roots))).map (ahead (marks h.cells roots))/\(iq h roots).trail.drop (cnt (aT (marks h.cells roots) h.trail) tr)=((h.trail.drop tr).filter (si (marks h.cells roots))).map (ahead (marks h.cells roots)):=by
 have h1:(iq h roots).trail=(h.trail.filter (si (marks h.cells roots))).map (ahead (marks h.cells roots)):=by show jr _ _ _=_;rw[R4 _ _ _ (zL _),jW]
 have h2:cnt (aT (marks h.cells roots) h.trail) tr=(((h.trail.take tr).filter (si (marks h.cells roots))).map (ahead (marks h.cells roots))).length:=by rw[<-rR,R4 _ _ _ htr]
 have h3:(h.trail.filter (si (marks h.cells roots))).map (ahead (marks h.cells roots))=((h.trail.take tr).filter (si (marks h.cells roots))).map (ahead (marks h.cells roots))++((h.trail.drop tr).filter (si (marks h.cells roots))).map (ahead (marks h.cells roots)):=by rw[<-mF,<-List.filter_append,G8]
 rw[h1,h2,h3];exact⟨Qo rfl,List.drop_left' rfl⟩
theorem zo(top tr:Nat)(htop:top<=h.cells.length):(dR h top tr).cells.length=top:=by show((gK _ _).take top).length=top;rw[dS,rP];omega
theorem M4{top tr:Nat}{a:Int}(htop:top<=h.cells.length)(h0:0<=a)(h1:a<top):cellAt (dR h top tr).cells a=if a∈h.trail.drop tr then{cellAt h.cells a with n:=a}else cellAt h.cells a:=by
 obtain⟨k,rfl⟩:=eu h0;have hk:k<(dR h top tr).cells.length:=by rw[zo top tr htop];omega
 have hk2:k<h.cells.length:=by omega
 rw[iQ hk,iQ hk2];have hk':k<((gK h.cells (h.trail.drop tr)).take top).length:=hk;show((gK h.cells (h.trail.drop tr)).take top)[k]'hk'=_;rw[List.getElem_take,Ic]
theorem aan(hg:h.Good){top tr:Nat}(htop:top<=h.cells.length)(htr:tr<=h.trail.length)(ho:(dR h top tr).Good):lM (dR h top tr).cells (dR (iq h roots) (cnt (marks h.cells roots) top) (cnt (aT (marks h.cells roots) h.trail) tr)).cells (fun a=>RP h roots a/\a<top) (ahead (marks h.cells roots))/\(∀y,Inb (dR (iq h roots) (cnt (marks h.cells roots) top) (cnt (aT (marks h.cells roots) h.trail) tr)).cells y->∃x,(RP h roots x/\x<top)/\ahead (marks h.cells roots) x=y):=by
 have hlen:=zo (h:=h) top tr htop;have aao:cnt (marks h.cells roots) top<=(iq h roots).cells.length:=by show _<=(ja _ _ _).length;rw[oh];exact EL htop
 have hlen':=zo (h:=iq h roots) (cnt (marks h.cells roots) top) (cnt (aT (marks h.cells roots) h.trail) tr) aao;have hM:=aal (roots:=roots) hg;have hin:∀a,RP h roots a->a<top->0<=ahead (marks h.cells roots) a/\ahead (marks h.cells roots) a<(cnt (marks h.cells roots) top:Nat):=fun a ha hlt=>by obtain⟨k,rfl,hk,hr⟩:=ha.nat hg.1;rw[uD];have :=cnt_lt (m:=marks h.cells roots) (i:=k) (j:=top) (by omega) ((rQ hk).2 hr);omega
 have hun:∀a,RP h roots a->(ahead (marks h.cells roots) a∈(iq h roots).trail.drop (cnt (aT (marks h.cells roots) h.trail) tr)↔a∈h.trail.drop tr):=fun a ha=>by
  rw[(aam tr htr).2];constructor;·intro hm;obtain⟨x,hx,e⟩:=gQ.1 hm;obtain⟨hx1,hx2⟩:=agE.1 hx;rw[<-hM.inj ((R5 hg (G9 hx1)).1 hx2) ha e];exact hx1
  ·intro hm;exact gQ.2 ⟨a,agE.2 ⟨hm,(R5 hg (G9 hm)).2 ha⟩,rfl⟩
 have htk:∀a,a∈h.trail->(cellAt h.cells a).kind=0:=fun a ha=>by obtain⟨j,hj,rfl⟩:=tX.1 ha;obtain⟨k,e,hk,hk0⟩:=hg.2.1 j hj;rw[e,iQ hk];exact hk0
 have hok:∀a:Int,0<=a->a<(top:Int)->(cellAt (dR h top tr).cells a).fo top a.toNat:=fun a h0 h1=>by
  obtain⟨k,rfl⟩:=eu h0;have hk:k<(dR h top tr).cells.length:=by omega
  have :=ho.1 k hk;rw[iQ hk,dB];rwa[hlen]at this
 refine⟨⟨fun a⟨ha,hlt⟩=>⟨⟨ha.1,by omega⟩,by have :=hin a ha hlt;unfold Inb;omega⟩,fun a⟨ha,hlt⟩=>?_,fun a⟨ha,hlt⟩hk=>?_,fun a⟨ha,hlt⟩hk i hi=>?_,fun a b ha hb hlt=>hM.lt a b ha.1 hb.1 hlt⟩,fun y hy=>?_⟩
 ·obtain⟨q1,q2⟩:=hin a ha hlt;rw[M4 aao q1 q2,M4 htop ha.1 hlt,hM.cell a ha];by_cases hm:a∈h.trail.drop tr;·rw[ah hm,ah ((hun a ha).2 hm)];have hk:=htk a (G9 hm);unfold uE;rw[ah hk,ah hk]
  ·rw[ae hm,ae (fun h=>hm ((hun a ha).1 h))]
 ·have h1:=hok a ha.1 hlt;rw[M4 htop ha.1 hlt]at h1 hk ⊢;by_cases hm:a∈h.trail.drop tr;·rw[ah hm];exact⟨ha,hlt⟩
  ·rw[ae hm]at h1 hk ⊢;unfold Ce.fo at h1;exact⟨hM.next a ha hk,by omega⟩
 ·have h1:=hok a ha.1 hlt;rw[M4 htop ha.1 hlt]at h1 hk hi;have hm:¬a∈h.trail.drop tr:=fun hm=>by rw[ah hm]at hk;have :=htk a (G9 hm);simp only at hk;omega
  rw[ae hm]at h1 hk hi;obtain⟨k1,k2⟩:=hM.args a ha hk i hi;unfold Ce.fo at h1;have :=ha.1;exact⟨⟨k1,by omega⟩,k2⟩
 ·obtain⟨j,rfl⟩:=eu hy.1;have hj:j<cnt (marks h.cells roots) top:=by have :=hy.2;omega
  obtain⟨i,h1,h2,h3⟩:=Ig _ _ hj;exact⟨(i:Int),⟨RP.of ((rQ (by omega)).1 h2),by omega⟩,by rw[uD,h3]⟩
theorem lM.good{l l':List Ce}{S:Int->Prop}{mv:Int->Int}(hM:lM l l' S mv)(Bn:∀y,Inb l' y->∃x,S x/\mv x=y)(hg:gB l):gB l':=by
 intro i hi;obtain⟨x,hx,e⟩:=Bn (i:Int) ⟨zN _,by omega⟩;have h1:=hM.cell x hx;rw[e,iQ hi]at h1;obtain⟨k,rfl,hk,hc⟩:=mJ (hM.iU x hx).1;have h2:=hg k hk;rw[h1];have hnext:=hM.next _ hx;have hargs:=hM.args _ hx;rw[hc]at hnext hargs ⊢;unfold Ce.fo at h2 ⊢;rcases h2 with⟨a1,a2,a3,a4⟩|⟨a1,a2,a3⟩|⟨a1,a2⟩|⟨a1,a2,a3,a4,a5⟩;·left;have hb:=(hM.iU _ (hnext a1)).2;unfold Inb at hb;rw[xN,Fs,M3 mv a1];exact⟨a1,hb.1,hb.2,a4⟩
 ·right;left;rw[xN,Fs,MZ mv (by omega)];exact⟨a1,a2,a3⟩
 ·right;right;left;rw[xN,Fs];exact⟨a1,a2⟩
 ·right;right;right;rw[xN,Fs,MZ mv (by omega)];obtain⟨k1,k2⟩:=hargs a1 ((l[k]).n.toNat - 1) (by omega);have hb:=(hM.iU _ k1).2;unfold Inb at hb;exact⟨a1,a2,a3,by omega,a5⟩
theorem aj6(hg:h.Good){top tr:Nat}(htop:top<=h.cells.length)(htr:tr<=h.trail.length)(ho:(dR h top tr).Good):(dR (iq h roots) (cnt (marks h.cells roots) top) (cnt (aT (marks h.cells roots) h.trail) tr)).Good:=by
 obtain⟨hM,Bn⟩:=aan (roots:=roots) hg htop htr ho;have hgg:=Yr (roots:=roots) hg;have hlen:=zo (h:=h) top tr htop;refine⟨hM.good Bn ho.1,fun j hj=>?_,?_,?_⟩;·have e:(dR (iq h roots) (cnt (marks h.cells roots) top) (cnt (aT (marks h.cells roots) h.trail) tr)).trail=_:=(aam tr htr).1;have hm:(dR (iq h roots) (cnt (marks h.cells roots) top) (cnt (aT (marks h.cells roots) h.trail) tr)).trail[j]∈((h.trail.take tr).filter (si (marks h.cells roots))).map (ahead (marks h.cells roots)):=e▸bZ hj;obtain⟨x,hx,ex⟩:=gQ.1 hm;obtain⟨hx1,hx2⟩:=agE.1 hx;have hxt:=(R5 (roots:=roots) hg (Qb hx1)).1 hx2;obtain⟨i,hi,ei⟩:=tX.1 (show x∈(dR h top tr).trail from hx1);obtain⟨k,ek,hk,hk0⟩:=ho.2.1 i hi;have hxk:x=(k:Int):=ei.symm.trans ek;have hS:RP h roots x/\x<top:=⟨hxt,by omega⟩;have hb:=(hM.iU x hS).2;obtain⟨m,hm,fP,hmc⟩:=mJ hb;refine⟨m,by rw[<-hm];exact ex.symm,fP,?_⟩;rw[<-hmc,hM.cell x hS,xN,hxk,iQ hk];exact hk0
 ·show((gK _ _).take _).length<=_;rw[dS,rP];have :=hgg.2.2.1;omega
 ·show(List.take _ _).length<=_;rw[dS];have :=hgg.2.2.2;omega
end
open Go.RowKit
theorem su{w:World}{g:Nat}{E:TypeId}{v0:Value}(h:w.heap[g]?=some (.cells #[v0] E (0,0))):w.cell? ⟨g,0,none⟩=some v0/\∀o,w.frozen? ⟨g,o,none⟩=false:=⟨(dw h 0).trans rfl,fun o=>by simp[World.frozen?,h]⟩
mutual
def dG : List Ce → Nat → Tm → List Ce
  | c, k, .mk kd n s l =>
    if kd = 0 then c.set k ⟨0, n, .empty⟩ else if kd = 1 then c.set k ⟨1, 0, s⟩ else if kd = 2 then c.set k ⟨2, n, .empty⟩ else
    if kd = 3 then eG (c.set k ⟨0, (c.length : Int), .empty⟩ ++ ⟨3, (l.length : Int), s⟩ :: List.replicate l.length ⟨0, 0, .empty⟩) (c.length + 1) l else c
def eG : List Ce → Nat → List Tm → List Ce
  | c, _, [] => c
  | c, k, t :: r => eG (dG c k t) (k + 1) r
end
def uF(c:List Ce):Tm->List Ce| .mk _ _ s l=>eG (c++⟨3,(l.length:Int),s⟩::List.replicate l.length ⟨0,0,.empty⟩) (c.length+1) l
theorem aap:∀(r:List Tm)(c:List Ce)(k:Nat)(t:Tm),eG c k (r++[t])=dG (eG c k r) (k+r.length) t|[],c,k,t=>by simp[eG]|x::r,c,k,t=>by simp only[mE,eG,aap r,bn];congr 1;omega
theorem Di:∀(t:Tm)(c:List Ce)(k:Nat),c.length<=(dG c k t).length/\(dG c k t).length+1<=c.length+2*t.nodes:=by
 intro t;induction t using Tm.induct with
  |h kd n s l ih=>
   intro c k;have hL:∀(r:List Tm),(∀t∈r,t∈l)->∀(c:List Ce)(k:Nat),c.length<=(eG c k r).length/\(eG c k r).length+r.length<=c.length+2*Tm.aH r:=by intro r;induction r with|nil=>intro _ c k;simp[eG,Tm.aH]|cons x r ihr=>intro hm c k;simp only[eG,Tm.aH,bn];have h1:=ih x (hm x (mY ..)) c k;have h2:=ihr (fun t ht=>hm t (nU _ ht)) (dG c k x) (k+1);omega
   simp only[dG,Tm.nodes];repeat' split
   ·simp;omega
   ·simp;omega
   ·simp;omega
   ·have h1:=hL l (fun _ h=>h) (c.set k ⟨0,(c.length:Int),.empty⟩++⟨3,(l.length:Int),s⟩::List.replicate l.length ⟨0,0,.empty⟩) (c.length+1);simp only[bA,vC,bn,yz]at h1;omega
   ·omega
theorem uG:∀(r:List Tm)(c:List Ce)(k:Nat),c.length<=(eG c k r).length/\(eG c k r).length+r.length<=c.length+2*Tm.aH r|[],c,k=>by simp[eG,Tm.aH]|x::r,c,k=>by simp only[eG,Tm.aH,bn];have h1:=Di x c k;have h2:=uG r (dG c k x) (k+1);omega
theorem R6:∀(l:List Tm),l.length<=Tm.aH l
 |[]=>zL _
 |x::r=>by
  have h1:=R6 r;have h2:1<=x.nodes:=by cases x;simp only[Tm.nodes];omega
  simp only[bn,Tm.aH];omega
theorem R7:∀(l:List Tm)(j:Nat)(hj:j<l.length),Tm.aH (l.take j)+l[j].nodes+(l.length - j - 1)<=Tm.aH l|x::r,0,_=>by have h1:=R6 r;simp only[ng,Tm.aH,yx,bn];omega|x::r,j+1,hj=>by have h1:=R7 r j (by simpa using hj);simp only[yA,Tm.aH,G7,bn];omega
structure mR (g base : Nat) (l : List Ce) (cv : Value) (w : World) : Prop where
  box : w.heap[g]? = some (.cells #[cv] 108 (0, 0))
  own : iL w base l cv
  lt : g < base
  len : l.length ≤ 4194304
  zq : base ≤ w.heap.size
def iD(g:Nat)(cv:Value)(b:Nat):Prop:=b=g\/ownB cv=some b
def l8(g base:Nat)(cv:Value)(w:World)(l:List Ce)(w':World):Prop:=∃cv',mR g base l cv' w'/\Ch (iD g cv) w w'/\(∀b,ownB cv'=some b->ownB cv=some b\/w.heap.size<=b)
theorem l8.trans{g base:Nat}{cv cv':Value}{w w' w'':World}{l:List Ce}(hc:Ch (iD g cv) w w')(ht:∀b,ownB cv'=some b->ownB cv=some b\/w.heap.size<=b)(h:l8 g base cv' w' l w''):l8 g base cv w l w'':=by
 obtain⟨ky,h1,h2,h3⟩:=h;refine⟨ky,h1,hc.trans h2 fun x hx=>?_,fun b hb=>?_⟩
 ·rcases hx with hx|hx;·exact .inl (.inl hx)
  ·rcases ht x hx with hx|hx;·exact .inl (.inr hx)
   ·exact .inr hx
 ·rcases h3 b hb with h4|h4;·exact ht b h4
  ·exact .inr (dM hc.size h4)
def R8(t:Tm):Prop:=∀(g base k:Nat)(l:List Ce)(cv:Value)(A:Nat->Prop)(w:World)(vs:List Value),mR g base l cv w->k<l.length->l.length+2*t.nodes<=4194304->Tm.rep A w t vs->(∀b,A b->b<w.heap.size/\¬iD g cv b)->Calls Tryz.prog 100 #[.pointer (some ⟨g,0,none⟩),.int .i64 (k:Int),.agg vs.toArray] w (fun e w'=>(∃v,e= .returned v)/\l8 g base cv w (dG l k t) w')
def R9(t:Tm):Prop:=∀(g base:Nat)(l:List Ce)(cv:Value)(A:Nat->Prop)(w:World)(vs:List Value),mR g base l cv w->l.length+2*t.nodes<=4194304->Tm.rep A w t vs->(∀b,A b->b<w.heap.size/\¬iD g cv b)->Calls Tryz.prog 99 #[.pointer (some ⟨g,0,none⟩),.agg vs.toArray] w (fun e w'=>e= .returned (.int .i64 (l.length:Int))/\l8 g base cv w (uF l t) w')
theorem aj7{P:Program}{ops:Array Oper}{o:Oper}{a:Act}{w W:World}{K:Act->World->Prop}{Q:Exit->Act->World->Prop}{E:Prop}(hg:o.guard=none)(s x:Operand)(t:TypeId)(ho:o.op= .call {callee:= .builtin .append,args:=#[s,x],argTypes:=#[t,t]})(base:Nat)(e:TypeId)(size bytes:Nat)(hty:mH P t e size bytes){α:Type}{R:(Nat->Prop)->World->α->List Value->Prop}(hR:gz R){A:Nat->Prop}(v:Value)(xs:List α)(hs:a.eval s=v)(hown:aI w base e size R A xs v)(y:α)(vs:List Value)(hx:a.eval x= .slice (some ⟨w.heap.size,0,none⟩) 1 1)(hvl:vs.length=size)(hvs:R (fun b=>A b/\ownB v≠some b) w y vs)(hlen:xs.length<4194304/\base<=w.heap.size)(h:∀v' w',aI w' base e size R A (xs++[y]) v'->iX (w.alloc (.cells vs.toArray e)) w' v v'->K (a.put o.dst v') w')(hW:W=w.alloc (.cells vs.toArray e)):if Region.wanted o (yielded ops a.tmps)=true then Oper.wp P o a W K Q else E:=by subst hW;rw[ah (by simp[Region.wanted,hg])];exact rH s x t ho base e size bytes hty hR v xs hs hown y vs hx hvl hvs hlen h
theorem mR.ch{g base:Nat}{l:List Ce}{cv:Value}{w w':World}(h:mR g base l cv w){M:Nat->Prop}(hc:Ch M w w')(hM:∀b,iD g cv b->¬M b):mR g base l cv w':=⟨(hc.block g (aD h.box) (hM g (.inl rfl))).trans h.box,af.kept h.own (fun b hb=>hc.block b (h.own.lt b hb).2 (hM b (.inr hb))),h.lt,h.len,dM h.zq hc.size⟩
theorem mR.below{g base:Nat}{l:List Ce}{cv:Value}{w w':World}(h:mR g base l cv w)(hb:Below w.heap.size w w'):mR g base l cv w':=h.ch (M:=fun _=>False) (Ch.of_below hb) (fun _ _ h=>h)
theorem mR.set{g base cb cc k:Nat}{l:List Ce}{w:World}(h:mR g base l (.slice (some ⟨cb,0,none⟩) l.length cc) w)(bX:ownB (.slice (some ⟨cb,0,none⟩) l.length cc)=some cb)(hk:k<l.length)(c:Ce)(hc:c.Ok):mR g base (l.set k c) (.slice (some ⟨cb,0,none⟩) l.length cc) (((w.setCell ⟨cb,k*3,none⟩ (.int .i64 c.kind)).setCell ⟨cb,k*3+1,none⟩ (.int .i64 c.n)).setCell ⟨cb,k*3+2,none⟩ (.string c.s)):=by
 have hne:¬g=cb:=fun e=>by have :=(h.own.lt cb bX).1;have :=h.lt;omega
 obtain⟨_,_,_,_,_,_,hok, -⟩:=iL.cell h.own hk;have o1:=af.set (u:= .int .i64 c.kind) Ce.jD h.own bX hk (j:=0) (by omega) (y:=⟨c.kind,l[k].n,l[k].s⟩) rfl ⟨hc.1,hok.2.1,hok.2.2⟩;have o2:=af.set (u:= .int .i64 c.n) Ce.jD o1 bX (i:=k) (by simpa using hk) (j:=1) (by omega) (y:=⟨c.kind,c.n,l[k].s⟩) (by simp[Ce.vals]) ⟨hc.1,hc.2.1,hok.2.2⟩;have o3:=af.set (u:= .string c.s) Ce.jD o2 bX (i:=k) (by simpa using hk) (j:=2) (by omega) (y:=c) (by simp[Ce.vals]) hc;simp only[XT]at o3;refine⟨?_,o3,h.lt,by simpa using h.len,by simpa using h.zq⟩;rw[bC _ _ _ _ hne,bC _ _ _ _ hne,bC _ _ _ _ hne];exact h.box
theorem aj8{c:List Ce}{k:Nat}{kd n:Int}{s:ByteArray}{l:List Tm}(h0:kd≠0)(h1:kd≠1)(h2:kd≠2)(h3:kd≠3):dG c k (.mk kd n s l)=c:=by simp[dG,h0,h1,h2,h3]
theorem aj9(t:Tm)(hf:R9 t):R8 t:=by
 obtain⟨kd,n,s,tl⟩:=t;intro g base k l cv A w vs hm hk hlen hv hA;have HV:=zh hv;rw[Tm.gT]at hv;obtain⟨hkd,hn,hs,v,rfl,hl⟩:=hv;obtain⟨a,cap, -, -,rfl, -, -,htl, -⟩:=hl.at;obtain⟨ca,cc,rfl,hcc,hcm⟩:=af.val hm.own;have HM:=zh hm;have HF:=zh hf;have HA:=zh hA;have HLEN:=zh hlen;have fP:=hm.len;obtain⟨cb,rfl,bX,c0,c1,c2,hok,hfz,hcb,aiA⟩:=iL.cell hm.own hk;obtain⟨b0,bf⟩:=su hm.box;have hgs:=aD hm.box;have hcg:cb≠g:=by have :=hm.lt;omega
 have hcs:=dz;have hi0:(0:Int)<=(k:Int):=zN _;have hi1:(k:Int)<(l.length:Int):=by omega
 have gV:=zh bX;have HN:=zh hn;have HS:=zh hs;have e0:ByteArray.empty.size<=1048576:=by decide
 have i0:au 0:=by unfold au;omega
 have fin:∀(c:Ce),c.Ok->dG l k (.mk kd n s tl)=l.set k c->∀(O:Obj),l8 g base (.slice (some ⟨cb,0,none⟩) l.length cc) w (dG l k (.mk kd n s tl)) (((((w.setCell ⟨cb,k*3,none⟩ (.int .i64 c.kind)).setCell ⟨cb,k*3+1,none⟩ (.int .i64 c.n)).setCell ⟨cb,k*3+2,none⟩ (.string c.s)).alloc O).drew):=by intro c hc he O;rw[he];have h1:=(hm.set bX hk c hc);refine⟨_,h1.below (((zB _ _).alloc (zL _) _).drew),?_,fun b hb=> .inl hb⟩;have h2:Ch (iD g (.slice (some ⟨cb,0,none⟩) l.length cc)) w w:=Ch.refl _ _;exact(((h2.setCell (p:=⟨cb,k*3,none⟩) (.inl (.inr bX)) _).setCell (p:=⟨cb,k*3+1,none⟩) (.inl (.inr bX)) _).setCell (p:=⟨cb,k*3+2,none⟩) (.inl (.inr bX)) _).alloc _|>.drew
 have FIN:=zh fin;clear hm hl hf hA hlen bX hok hn hs fin;by_cases h0:kd=0;·subst h0;have HP:=zh (show dG l k (.mk 0 n s tl)=l.set k ⟨0,n,.empty⟩by simp[dG]);go_enter Tryz.func100,Tryz.ntmps100;go_wp2_with fail;go_region;go_wp2_with fail;refine Cx (v:= .tuple #[]) (by simp[results,Tryz.results100,go_sem]) rfl ?_;exact⟨⟨_,rfl⟩,FIN.out ⟨0,n,.empty⟩ ⟨i0,HN.o,e0⟩ HP.o _⟩
 by_cases h1:kd=1;·subst h1;have HP:=zh (show dG l k (.mk 1 n s tl)=l.set k ⟨1,0,s⟩by simp[dG]);go_enter Tryz.func100,Tryz.ntmps100;go_wp2_with fail;go_region;go_wp2_with fail;refine Cx (v:= .tuple #[]) (by simp[results,Tryz.results100,go_sem]) rfl ?_;exact⟨⟨_,rfl⟩,FIN.out ⟨1,0,s⟩ ⟨by unfold au;simp only;omega,i0,HS.o⟩ HP.o _⟩
 by_cases h2:kd=2;·subst h2;have HP:=zh (show dG l k (.mk 2 n s tl)=l.set k ⟨2,n,.empty⟩by simp[dG]);go_enter Tryz.func100,Tryz.ntmps100;go_wp2_with fail;go_region;go_wp2_with fail;refine Cx (v:= .tuple #[]) (by simp[results,Tryz.results100,go_sem]) rfl ?_;exact⟨⟨_,rfl⟩,FIN.out ⟨2,n,.empty⟩ ⟨by unfold au;simp only;omega,HN.o,e0⟩ HP.o _⟩
 by_cases h3:kd=3
 ·subst h3;have HP:=zh (show dG l k (.mk 3 n s tl)=uF (l.set k ⟨0,(l.length:Int),.empty⟩) (.mk 3 n s tl)by simp[dG,uF]);go_enter Tryz.func100,Tryz.ntmps100;go_wp2_with fail;go_region;go_wp2_with fail;have hset:=HM.o.set gV.o hk ⟨0,(l.length:Int),.empty⟩ ⟨i0,by unfold au;simp only;omega,e0⟩;have h3:Ch (iD g (.slice (some ⟨cb,0,none⟩) l.length cc)) w w:=Ch.refl _ _;have hch:=((((h3.setCell (p:=⟨cb,k*3,none⟩) (.inl (.inr gV.o)) (.int .i64 0)).setCell (p:=⟨cb,k*3+1,none⟩) (.inl (.inr gV.o)) (.int .i64 (l.length:Int))).setCell (p:=⟨cb,k*3+2,none⟩) (.inl (.inr gV.o)) (.string .empty)).alloc (.cells #[.int .i64 3,.int .i64 n,.string s,.slice a tl.length cap] 34)).drew;have hmk:=hset.below (((zB _ _).alloc (zL _) (.cells #[.int .i64 3,.int .i64 n,.string s,.slice a tl.length cap] 34)).drew);have hsz:=hch.size;have hkp:=hch.keeps (A:=A) (fun b _ hb=>(HA.o b hb).2);have hll:(l.set k ⟨0,(l.length:Int),.empty⟩).length=l.length:=by simp
  have hlen:=HLEN.o;refine(HF.o g base (l.set k ⟨0,(l.length:Int),.empty⟩) (.slice (some ⟨cb,0,none⟩) l.length cc) A _ [_,_,_,_] hmk (by rw[hll];exact hlen) (Tm.aA.1 _ _ _ _ _ HV.o hkp) (fun b hb=>⟨Et (HA.o b hb).1 hsz,(HA.o b hb).2⟩)).mono ?_;rintro e w2⟨rfl,hst⟩;have HST:=zh (l8.trans hch (fun b hb=> .inl hb) hst);clear hset h3 hch hmk hsz hkp hst;go_wp2_with fail;refine Cx (v:= .tuple #[]) (by simp[results,Tryz.results100,go_sem]) rfl ?_;exact⟨⟨_,rfl⟩,by rw[HP.o];exact HST.o⟩
 ·have q0:(kd==0)=false:=by simpa using h0
  have q1:(kd==1)=false:=by simpa using h1
  have q2:(kd==2)=false:=by simpa using h2
  have q3:(kd==3)=false:=by simpa using h3
  have HP:=zh (aj8 (c:=l) (k:=k) (n:=n) (s:=s) (l:=tl) h0 h1 h2 h3);go_enter Tryz.func100,Tryz.ntmps100;go_wp2_with fail;refine Cx (v:= .tuple #[]) (by simp[results,Tryz.results100,go_sem]) rfl ?_;refine⟨⟨_,rfl⟩,_,?_,(Ch.refl _ _).alloc _,fun b hb=> .inl hb⟩;rw[HP.o];exact HM.o.below ((zB _ _).alloc (zL _) _)
def aaq(g base:Nat)(cv:Value)(w:World)(l:List Ce)(w':World):Prop:=∃cv',mR g base l cv' w'/\Ch (iD g cv) w w'/\(∀b,ownB cv'=some b->ownB cv=some b\/w.heap.size<=b)
theorem M5{g base:Nat}{cv v2:Value}{l:List Ce}{w w0 w2 W:World}{c:Ce}{cells:Array Value}(hm:mR g base l cv w)(hl:l.length+1<=4194304)(h0:Ch (iD g cv) w0 W)(hw0:w.heap.size<=w0.heap.size)(h1:iL w2 base (l++[c]) v2)(hb:w2.heap[g]?=some (.cells #[cv] 108 (0,0)))(hg:iX (W.alloc (.cells cells 112)) w2 cv v2):aaq g base cv w0 (l++[c]) (w2.setCell ⟨g,0,none⟩ v2):=by
 have hne:ownB v2≠some g:=fun e=>by have :=(h1.lt g e).1;have :=hm.lt;omega
 have hz:=hg.size;have hz0:=h0.size;have hbw:=hm.zq;refine⟨v2,⟨(bI hb 0 _).trans rfl,af.kept h1 (fun b hb=>bC _ _ _ _ (fun e=>hne (by rw[hb];simp only at e;rw[e]))),hm.lt,by simp;omega,by simp only[mZ,bF]at hz ⊢;omega⟩,?_,fun b hb=>?_⟩;·refine Ch.setCell (p:=⟨g,0,none⟩) ?_ (.inl (.inl rfl)) _;exact hg.ch (h0.alloc _) (fun b hb=> .inl (.inr hb))
 ·rcases hg.block with h|h;·exact .inl (by rw[<-h];exact hb)
  ·have :=h b hb;simp only[bF]at this;exact .inr (by omega)
theorem aar(kd n:Int)(s:ByteArray)(tl:List Tm)(ih:∀t∈tl,R8 t):R9 (.mk kd n s tl):=by
 intro g base l cv A w vs hm hlen hv hA;rw[Tm.gT]at hv;obtain⟨hkd,hn,hs,v,rfl,hl⟩:=hv;obtain⟨a,cap,b,off,rfl,hlc,hcm,htl,ha,he⟩:=hl.at;obtain⟨ca,cc,rfl,hcc,aka⟩:=af.val hm.own;have HM:=zh hm;have HA:=zh hA;have HE:=zh he;have Dj:=zh ha;have IH:=zh ih;have fP:=hm.len;have hgb:=hm.lt;have hbw:=hm.zq;simp only[Tm.nodes]at hlen;have hnl:=R6 tl;obtain⟨b0,bf⟩:=su hm.box;have hgs:=aD hm.box;have hcs:=dz;have HS:=zh hs;have hll:l.length+1+tl.length<=4194304:=by omega
 obtain⟨O,hO⟩:∃O,O=Obj.cells #[.int .i64 kd,.int .i64 n,.string s,.slice a tl.length cap] 34 (0,0):=⟨_,rfl⟩;have HOQ:=zh hO;have HOW:=zh (af.eZ Ce.jD (af.below hm.own (((zB _ _).alloc (zL _) O).drew)) (fun _=>True));have uH:=zh (fun b(hb:ownB (.slice ca l.length cc)=some b)=>hm.own.lt b hb);have fq:=zh (show((w.alloc O).drew.alloc (.cells #[.int .i64 3,.int .i64 (tl.length:Int),.string s] 112)).heap[g]?=_ from aX (dE (A:=fun _=>True) (aX hm.box O) (ag.drew _ _) trivial) _);rw[hO]at HOW fq;clear hm hA he ha ih hl hO;go_enter Tryz.func99,Tryz.ntmps99;go_wp2_with fail;go_upto_region 2 with fail;go_cut[5](fun u5 wr=>u5= .int .i64 (l.length:Int)/\aaq g base (.slice ca l.length cc) (w.alloc (.cells #[.int .i64 kd,.int .i64 n,.string s,.slice a tl.length cap] 34)) (l++[⟨3,(tl.length:Int),s⟩]) wr);case first=>go_region_law(refine aj7 rfl (.tmp 17) (.tmp 24) 56 rfl base 112 3 32 AX Ce.aA (A:=fun _=>True) (.slice ca l.length cc) l rfl HOW.o ⟨3,(tl.length:Int),s⟩ [.int .i64 3,.int .i64 (tl.length:Int),.string s] (by simp only[ig,bF];rfl) rfl ⟨⟨by unfold au;simp only;omega,by unfold au;simp only;omega,HS.o⟩,rfl⟩ ⟨by omega,by simp;omega⟩ ?_ rfl;intro v2 w2 hown az;have bE:=zh (af.eB hown);obtain⟨bN,bO,hv2,qK,qL⟩:=af.val bE.o;rw[bA,dW]at hv2;subst hv2;have HB2:=zh (show w2.heap[g]?=_ from(az.grown.block g (by simp;omega) (fun e=>by have :=(uH.o _ e.symm).1;omega)).trans fq.o);obtain⟨y0,yf⟩:=su HB2.o;have Jd:=aD HB2.o;have HG2:=zh az;have hz2:=az.size;clear hown az);all_goals go_wp2_with fail;go_meet;refine⟨rfl,?_⟩;exact M5 HM.o (by omega) (Ch.refl _ _).drew (by simp) bE.o HB2.o HG2.o
 case rest=>
  obtain⟨rfl,hst⟩:=hcut;have hst:l8 g base (.slice ca l.length cc) (w.alloc (.cells #[.int .i64 kd,.int .i64 n,.string s,.slice a tl.length cap] 34)) (l++[⟨3,(tl.length:Int),s⟩]) wc:=hst;obtain⟨W0,hW0⟩:∃W0,W0=w.alloc (.cells #[.int .i64 kd,.int .i64 n,.string s,.slice a tl.length cap] 34):=⟨_,rfl⟩;have HX:=zh (show W0.heap[w.heap.size]?=some (.cells #[.int .i64 kd,.int .i64 n,.string s,.slice a tl.length cap] 34 (0,0))by rw[hW0];exact bV w (.cells #[.int .i64 kd,.int .i64 n,.string s,.slice a tl.length cap] 34));have hz0:W0.heap.size=w.heap.size+1:=by rw[hW0];simp
  have HW0:=zh (show Below w.heap.size w W0 by rw[hW0];exact(zB _ _).alloc (zL _) _);rw[<-hW0]at hst;have rO:=zh (show ∀b,iD g (.slice ca l.length cc) b->b<w.heap.size from fun b hb=>by
   rcases hb with rfl|hb;·exact hgs
   ·exact(uH.o b hb).2);have HST:=zh hst;have HXB:=zh (fun(W:World)(h:Ch (iD g (.slice ca l.length cc)) W0 W)=>(h.block w.heap.size (by omega) (fun e=>by have :=rO.o _ e;omega)).trans HX.o);obtain⟨Dk,hm1,hc1,ho1⟩:=hst;obtain⟨x0,x1,x2,x3,xf⟩:=aW (HXB.o _ hc1);have hzc:=hc1.size;clear hW0 HOW fq HM hm1 hc1 ho1 b0 bf;go_wp2_with fail;clear x0 x1 x2 x3 xf hzc;go_loopw[31](fun i W=>∃j:Nat,j<=tl.length/\i= .int .i64 (j:Int)/\l8 g base (.slice ca l.length cc) W0 (l++⟨3,(tl.length:Int),s⟩::List.replicate j ⟨0,0,.empty⟩) W)(fun i _=>tl.length - (intOf i).toNat);case atStart=>exact⟨0,dD _,rfl,HST.o⟩
  case round=>
   obtain⟨j,hj,rfl,Dk,hm1,hc1,ho1⟩:=hrel;have iK:=zh hc1;have ik:=zh ho1;have hzc:=hc1.size;obtain⟨x0,x1,x2,x3,xf⟩:=aW (HXB.o _ hc1);obtain⟨c1a,M6,rfl,hl1,akb⟩:=af.val hm1.own;have Dl:(l++(⟨3,(tl.length:Int),s⟩:Ce)::List.replicate j (⟨0,0,.empty⟩:Ce)).length=l.length+1+j:=by simp;omega
   rw[Dl]at hl1 hm1 ho1 ik;have fQ:=zh hm1;obtain⟨b0,bf⟩:=su hm1.box;have aas:=aD hm1.box;have aat:=hm1.zq;have aau:=zh (fun b(hb:ownB (.slice c1a (l.length+1+j) M6)=some b)=>hm1.own.lt b hb);by_cases hlt:j<tl.length
   ·have hlt':(j:Int)<(tl.length:Int):=by omega
    have hj0:(0:Int)<=(j:Int):=zN _;have dC:=zh (af.eZ Ce.jD hm1.own (fun _=>True));have fq:=zh (aX hm1.box (.cells #[.int .i64 0,.int .i64 0,.string .empty] 112));have hlen1:(l++(⟨3,(tl.length:Int),s⟩:Ce)::List.replicate j (⟨0,0,.empty⟩:Ce)).length<4194304:=by omega
    clear hm1 hc1 ho1;go_wp2_with(at_builtin;go_must(refine iH rfl (.tmp 37) (.tmp 39) 56 rfl base 112 3 32 AX Ce.aA (A:=fun _=>True) (.slice c1a (l.length+1+j) M6) (l++(⟨3,(tl.length:Int),s⟩:Ce)::List.replicate j (⟨0,0,.empty⟩:Ce)) rfl dC.o (⟨0,0,.empty⟩:Ce) [.int .i64 0,.int .i64 0,.string .empty] rfl rfl ⟨⟨by unfold au;simp only;omega,by unfold au;simp only;omega,by decide⟩,rfl⟩ ⟨hlen1,aat⟩ ?_);go_must(intro v2 w2 hown az;have bE:=zh (af.eB hown);obtain⟨bN,bO,hv2,qK,qL⟩:=af.val bE.o;rw[bA,dW,Dl]at hv2;subst hv2;have HB2:=zh (show w2.heap[g]?=_ from(az.grown.block g (by simp;omega) (fun e=>by have :=(aau.o _ e.symm).1;omega)).trans fq.o);obtain⟨y0,yf⟩:=su HB2.o;have Jd:=aD HB2.o;have HG2:=zh az;have hz2:=az.size;clear hown az b0 bf x0 x1 x2 x3 xf));go_roundw;case rel=>refine⟨j+1,by omega,by go_num,l8.trans iK.o ik.o ?_⟩;have :=M5 fQ.o (by omega) (Ch.refl _ _) (zL _) bE.o HB2.o HG2.o;rw[Au,mE,<-List.replicate_succ']at this;exact this
    case measure=>first|(simp[intOf];done)|(simp[intOf];omega)
   ·have dm:j=tl.length:=by omega
    subst dm;have hlt':¬((tl.length:Int)<(tl.length:Int)):=by omega
    have qO:=zh (show l8 g base (.slice ca l.length cc) W0 (l++⟨3,(tl.length:Int),s⟩::List.replicate tl.length ⟨0,0,.empty⟩) wr from⟨_,fQ.o,iK.o,ik.o⟩);obtain⟨c1,M7⟩:∃c1,c1=l++(⟨3,(tl.length:Int),s⟩:Ce)::List.replicate tl.length (⟨0,0,.empty⟩:Ce):=⟨_,rfl⟩;rw[<-M7]at qO;have akc:=zh M7;have ar8:c1.length=l.length+1+tl.length:=by rw[M7];exact Dl
    clear hm1 hc1 ho1 hlt M7 b0 bf fQ iK ik aau Dl;go_wp2_with fail;clear x0 x1 x2 x3 xf hzc aas aat;go_loopw[47](fun i W=>∃j:Nat,j<=tl.length/\i= .int .i64 (j:Int)/\l8 g base (.slice ca l.length cc) W0 (eG c1 (l.length+1) (tl.take j)) W)(fun i _=>tl.length - (intOf i).toNat);case atStart=>exact⟨0,dD _,rfl,by rw[ng,eG];exact qO.o⟩
    case round=>
     obtain⟨j,hj,rfl,Dk,hm1,hc1,ho1⟩:=hrel;have iK:=zh hc1;have ik:=zh ho1;have fQ:=zh hm1;have hzc:=hc1.size;by_cases hlt:j<tl.length
     ·obtain⟨rfl,cO⟩:=Dj.o (by omega);have M8:=zh (show ag A w wr from(ag.ob HW0.o).trans (hc1.keeps (A:=A) (fun b _ hb=>(HA.o b hb).2)));obtain⟨sa,sc,d0,d1,d2,d3,hr⟩:=pG HE.o cO M8.o hlt;have hlt':(j:Int)<(tl.length:Int):=by omega
      have hj0:(0:Int)<=(j:Int):=zN _;have hl1:=uG (tl.take j) c1 (l.length+1);have hnj:=R7 tl j hlt;have Sa:(eG c1 (l.length+1) (tl.take j)).length+2*(tl[j]'hlt).nodes<=4194304:=by
       have :(tl.take j).length=j:=by rw[dS];omega
       omega
      obtain⟨t,ht⟩:∃t,t=tl[j]'hlt:=⟨_,rfl⟩;have hmem:t∈tl:=by rw[ht];exact bZ _
      rw[<-ht]at d0 d1 d2 d3 hr Sa;have HT:=zh ht;have iJ:=zh hlt;have HR:=zh hr;have RF:=zh (IH.out t hmem);have HL2:=zh Sa;have hk2:l.length+1+j<(eG c1 (l.length+1) (tl.take j)).length:=by omega
      have M9:=zh (show(l.length:Int)+1+(j:Int)=((l.length+1+j:Nat):Int)by omega);clear hr ht hmem Sa hm1 hc1 ho1 hnj hl1;go_wp2_with fail;rw[M9.o];refine(RF.o g base (l.length+1+j) _ Dk A _ [_,_,_,_] (fQ.o.below ((zB _ _).alloc (zL _) (.cells #[.int .i64 t.kind,.int .i64 t.n,.string t.s,.slice sa t.args.length sc] 34))) hk2 HL2.o (Tm.aA.1 _ _ _ _ _ HR.o (ag.alloc _ _ _)) (fun b hb=>⟨by have :=(HA.o b hb).1;simp;omega,fun e=>?_⟩)).mono ?_
      ·rcases e with e|e;·exact(HA.o b hb).2 (.inl e)
       ·rcases ik.o b e with e|e;·exact(HA.o b hb).2 (.inr e)
        ·have :=(HA.o b hb).1;omega
      rintro e w3⟨⟨v3,rfl⟩,vV⟩;have HS3:=zh (l8.trans iK.o ik.o (l8.trans ((Ch.refl _ _).alloc (.cells #[.int .i64 t.kind,.int .i64 t.n,.string t.s,.slice sa t.args.length sc] 34)) (fun b hb=> .inl hb) vV));clear vV d0 d1 d2 d3;go_wp2_with fail;go_roundw;case rel=>refine⟨j+1,by omega,by go_num,?_⟩;rw[fF iJ.o,aap,<-HT.o,show(tl.take j).length=j by rw[dS];have :=iJ.o;omega];exact HS3.o
      case measure=>first|(simp[intOf];done)|(simp[intOf];omega)
     ·have dm:j=tl.length:=by omega
      subst dm;have hlt':¬((tl.length:Int)<(tl.length:Int)):=by omega
      clear hm1 hc1 ho1 hlt;go_wp2_with fail;go_ret;refine⟨rfl,l8.trans (Ch.of_below HW0.o) (fun b hb=> .inl hb) ?_⟩;rw[uF,<-akc.o];have :=fQ.o;rw[jW]at this;exact⟨Dk,this,iK.o,ik.o⟩
theorem aav:∀t,R8 t:=by intro t;induction t using Tm.induct with|h k n s l ih=>exact aj9 _ (aar k n s l ih)
theorem akf:∀t,R9 t:=by intro t;obtain⟨k,n,s,l⟩:=t;exact aar k n s l (fun t _=>aav t)
def aZ(c:List Ce)(t:Tm):List Ce:=if t.kind=3 then uF c t else dG (c++[⟨0,0,.empty⟩]) c.length t
theorem Sb{c:List Ce}{k:Nat}{t:Tm}(h:t.kind≠3):(dG c k t).length=c.length:=by
 obtain⟨kd,n,s,l⟩:=t;simp only[Tm.kind]at h;simp only[dG,ae h];repeat' split
 all_goals simp
theorem Na(t:Tm)(g base:Nat)(l:List Ce)(cv:Value)(A:Nat->Prop)(w:World)(vs:List Value)(hm:mR g base l cv w)(hlen:l.length+1+2*t.nodes<=4194304)(hv:Tm.rep A w t vs)(hA:∀b,A b->b<w.heap.size/\¬iD g cv b):Calls Tryz.prog 58 #[.pointer (some ⟨g,0,none⟩),.agg vs.toArray] w (fun e w'=>e= .returned (.int .i64 (l.length:Int))/\l8 g base cv w (aZ l t) w'):=by
 have HV:=zh hv;have HM:=zh hm;have HA:=zh hA;obtain⟨sa,sc,rfl, -⟩:=Tm.nk hv;obtain⟨ca,cc,rfl,hcc,aka⟩:=af.val hm.own;obtain⟨b0,bf⟩:=su hm.box;have hgs:=aD hm.box;have hbw:=hm.zq;have hgb:=hm.lt;have hcs:=dz;have uH:=zh (fun b(hb:ownB (.slice ca l.length cc)=some b)=>hm.own.lt b hb);have HLEN:=zh hlen;have hll:l.length+1<=4194304:=by omega
 clear hv hA hlen;by_cases h3:t.kind=3;·have HP:=zh (show aZ l t=uF l t by rw[aZ,ah h3]);have HF:=zh (akf t);clear hm;rw[h3]at HV ⊢;go_enter Tryz.func58,Tryz.ntmps58;go_wp2_with fail;refine(HF.o g base l (.slice ca l.length cc) A _ [_,_,_,_] (HM.o.below ((zB _ _).alloc (zL _) _)) (by have :=HLEN.o;omega) (Tm.aA.1 _ _ _ _ _ HV.o (ag.alloc _ _ _)) (fun b hb=>⟨by have :=(HA.o b hb).1;simp;omega,(HA.o b hb).2⟩)).mono ?_;rintro e w1⟨rfl,hst⟩;have HST:=zh (l8.trans ((Ch.refl _ _).alloc _) (fun b hb=> .inl hb) hst);clear hst b0 bf;go_wp2_with fail;go_ret;exact⟨rfl,by rw[HP.o];exact HST.o⟩
 ·have HP:=zh (show aZ l t=dG (l++[⟨0,0,.empty⟩]) l.length t by rw[aZ,ae h3]);have h3':(t.kind==3)=false:=by simpa using h3
  have HFL:=zh (Sb (c:=l++[⟨0,0,.empty⟩]) (k:=l.length) h3);have fq:=zh (aX (aX hm.box (.cells #[.int .i64 t.kind,.int .i64 t.n,.string t.s,.slice sa t.args.length sc] 34)) (.cells #[.int .i64 0,.int .i64 0,.string .empty] 112));have Sc:=zh (bV w (.cells #[.int .i64 t.kind,.int .i64 t.n,.string t.s,.slice sa t.args.length sc] 34));have dC:=zh (af.eZ Ce.jD (af.below hm.own ((zB _ _).alloc (zL _) (.cells #[.int .i64 t.kind,.int .i64 t.n,.string t.s,.slice sa t.args.length sc] 34))) (fun _=>True));clear h3 hm;go_enter Tryz.func58,Tryz.ntmps58;go_wp2_with(at_builtin;go_must(refine iH rfl (.tmp 15) (.tmp 17) 56 rfl base 112 3 32 AX Ce.aA (A:=fun _=>True) (.slice ca l.length cc) l rfl dC.o (⟨0,0,.empty⟩:Ce) [.int .i64 0,.int .i64 0,.string .empty] (by simp only[bF];rfl) rfl ⟨⟨by unfold au;simp only;omega,by unfold au;simp only;omega,by decide⟩,rfl⟩ ⟨by omega,by simp;omega⟩ ?_);go_must(intro v2 w2 hown az;have bE:=zh (af.eB hown);obtain⟨bN,bO,hv2,qK,qL⟩:=af.val bE.o;rw[bA,dW]at hv2;subst hv2;have HB2:=zh (show w2.heap[g]?=_ from(az.grown.block g (by simp;omega) (fun e=>by have :=(uH.o _ e.symm).1;omega)).trans fq.o);obtain⟨y0,yf⟩:=su HB2.o;have Jd:=aD HB2.o;have HG2:=zh az;have hz2:=az.size;clear hown az b0 bf));have hst:=M5 HM.o hll (Ch.refl (iD g (.slice ca l.length cc)) (w.alloc (.cells #[.int .i64 t.kind,.int .i64 t.n,.string t.s,.slice sa t.args.length sc] 34))) (by simp) bE.o HB2.o HG2.o;clear y0 yf Jd hz2 bE HB2 HG2 fq dC;generalize w2.setCell ⟨g,0,none⟩ (.slice bN (l.length+1) bO)=W1 at hst ⊢;obtain⟨Dk,hm1,hc1,ho1⟩:=hst;obtain⟨c1a,M6,rfl,hl1,akb⟩:=af.val hm1.own;have Dl:(l++[(⟨0,0,.empty⟩:Ce)]).length=l.length+1:=by simp
  rw[Dl]at hl1 hm1 ho1;obtain⟨y0,yf⟩:=su hm1.box;have aas:=aD hm1.box;obtain⟨x0,x1,x2,x3,xf⟩:=aW ((hc1.block w.heap.size (by simp) (fun e=>by
   rcases e with e|e;·omega
   ·have :=(uH.o _ e).2;omega)).trans Sc.o);have hxs:w.heap.size<W1.heap.size:=by have :=hc1.size;simp at this;omega
  have fQ:=zh hm1;have iK:=zh hc1;have ik:=zh ho1;have yM:=zh (show ag A w W1 from(ag.alloc A w _).trans (hc1.keeps (A:=A) (fun b _ hb=>(HA.o b hb).2)));clear hm1 hc1 ho1;go_still_tail 8,(by kernel_rfl);change wpList _ _ _ _ _ W1.drew;have HPT:=zh (aav t g base l.length (l++[(⟨0,0,.empty⟩:Ce)]) (.slice c1a (l.length+1) M6) A W1.drew [_,_,_,_] (fQ.o.below (zB _ _).drew) (by simp) (by have :=HLEN.o;simp;omega) (Tm.aA.1 _ _ _ _ _ (Tm.aA.1 _ _ _ _ _ HV.o yM.o) (ag.drew _ _)) (fun b hb=>⟨by have :=(HA.o b hb).1;simp;omega,fun e=>by
   rcases e with e|e;·exact(HA.o b hb).2 (.inl e)
   ·rcases ik.o b e with e|e;·exact(HA.o b hb).2 (.inr e)
    ·have :=(HA.o b hb).1;simp at e;omega⟩));have dK:=zh (show Ch (iD g (.slice ca l.length cc)) _ W1.drew from iK.o.drew);generalize W1.drew=w4 at HPT dK ⊢;clear y0 yf x0 x1 x2 x3 xf;go_wp2_with fail;refine(HPT.o).mono ?_;rintro e w3⟨⟨v3,rfl⟩,vV⟩;obtain⟨ky,hm2,hc2,ho2⟩:=l8.trans dK.o ik.o vV;obtain⟨c2a,c2c,rfl,hl2,asb⟩:=af.val hm2.own;have hf:=HFL.o;rw[Dl]at hf;rw[hf]at hl2 hm2 ho2;have HS2:=zh (l8.trans ((Ch.refl _ _).alloc _) (fun b hb=> .inl hb) ⟨_,hm2,hc2,ho2⟩);obtain⟨y0,yf⟩:=su hm2.box;have Jd:=aD hm2.box;clear vV hm2 hc2 ho2 hf;go_wp2_with fail;go_ret;exact⟨by simp,by rw[HP.o];exact HS2.o⟩
def aK(n:Nat):List Ce:=(List.range n).map fun(i:Nat)=>(⟨0,(i:Int),.empty⟩:Ce)
theorem jI(n:Nat):(aK n).length=n:=by simp[aK]
theorem akh(n:Nat):aK (n+1)=aK n++[⟨0,(n:Int),.empty⟩]:=by simp[aK,XK]
theorem aax(n:Nat)(hn:n<=65536)(w:World):Calls Tryz.prog 57 #[.int .i64 (n:Int)] w (fun e w'=>∃cv,e= .returned (.pointer (some ⟨w.heap.size,0,none⟩))/\Below w.heap.size w w'/\mR w.heap.size (w.heap.size+1) (aK n) cv w'):=by
 have hcs:=dz;go_enter Tryz.func57,Tryz.ntmps57;go_wp2_with fail;have HX:=zh (bV w (.cells #[.slice none 0 0] 108));have HB:=zh ((gJ _ w).alloc (zL _) (.cells #[.slice none 0 0] 108));obtain⟨g,hg⟩:∃g,g=w.heap.size:=⟨_,rfl⟩;have HG:=zh hg;have hz0:g<(w.alloc (.cells #[.slice none 0 0] 108)).heap.size:=by rw[hg];simp
 rw[<-hg]at HX;rw[<-hg];clear hg;go_loopw[8](fun i W=>∃(j:Nat)(cv:Value),j<=n/\i= .int .i64 (j:Int)/\Below w.heap.size w W/\mR g (g+1) (aK j) cv W)(fun i _=>n - (intOf i).toNat);case atStart=>exact⟨0,_,dD _,rfl,HB.o,HX.o,af.nil,by omega,by simp[aK],by omega⟩
 case round=>
  obtain⟨j,cv,hj,rfl,hb,hm⟩:=hrel;have Fv:=zh hb;have HM:=zh hm;obtain⟨ca,cc,rfl,hl1,hmc⟩:=af.val hm.own;rw[jI]at hl1 hm HM;obtain⟨y0,yf⟩:=su hm.box;have hgs:=aD hm.box;have hbw:=hm.zq;have uH:=zh (fun b(hb:ownB (.slice ca j cc)=some b)=>hm.own.lt b hb);have dC:=zh (af.eZ Ce.jD hm.own (fun _=>True));have fq:=zh (aX hm.box (.cells #[.int .i64 0,.int .i64 (j:Int),.string .empty] 112));clear hb hm;by_cases hlt:j<n
  ·have hlt':(j:Int)<(n:Int):=by omega
   have hl2:(aK j).length<4194304:=by rw[jI];omega
   go_wp2_with(at_builtin;go_must(refine iH rfl (.tmp 15) (.tmp 18) 56 rfl (g+1) 112 3 32 AX Ce.aA (A:=fun _=>True) (.slice ca j cc) (aK j) rfl dC.o (⟨0,(j:Int),.empty⟩:Ce) [.int .i64 0,.int .i64 (j:Int),.string .empty] rfl rfl ⟨⟨by unfold au;simp only;omega,by unfold au;simp only;omega,(show ByteArray.empty.size<=1048576 by decide)⟩,rfl⟩ ⟨hl2,hbw⟩ ?_);go_must(intro v2 w2 hown az;have bE:=zh (af.eB hown);obtain⟨bN,bO,hv2,qK,qL⟩:=af.val bE.o;rw[bA,dW,jI]at hv2;subst hv2;have HB2:=zh (show w2.heap[g]?=_ from(az.grown.block g (by simp;omega) (fun e=>by have :=(uH.o _ e.symm).1;omega)).trans fq.o);obtain⟨z0,zf⟩:=su HB2.o;have Jd:=aD HB2.o;have HG2:=zh az;have hz2:=az.size;clear hown az y0 yf));go_roundw;case rel=>
    obtain⟨cv',h1,h2,h3⟩:=M5 HM.o (by rw[jI];omega) (Ch.refl _ _) (zL _) bE.o HB2.o HG2.o;refine⟨j+1,cv',by omega,by go_num,?_,by rw[akh];exact h1⟩;refine((Ch.of_below (M:=fun _=>False) Fv.o).trans h2 (fun b hb=> .inr ?_)).below (fun _ _ h=>h);have hgw:=HG.o;rcases hb with rfl|hb;·omega
    ·have :=(uH.o b hb).1;omega
   case measure=>first|(simp[intOf];done)|(simp[intOf];omega)
  ·have dm:j=n:=by omega
   subst dm;have hlt':¬((j:Int)<(j:Int)):=by omega
   clear hlt;go_wp2_with fail;go_ret;have hm:=HM.o;rw[HG.o]at hm;exact⟨by rw[<-HG.o];rfl,Fv.o,_,hm⟩
def aO:List Ce->List Tm->List Ce×List Int|c,[]=>(c,[])|c,t::r=>((aO (aZ c t) r).1,(c.length:Int)::(aO (aZ c t) r).2)
theorem Sd:∀(l:List Tm)(c:List Ce)(t:Tm),aO c (l++[t])=(aZ (aO c l).1 t,(aO c l).2++[((aO c l).1.length:Int)])|[],c,t=>by simp[aO]|x::r,c,t=>by simp only[mE,aO,Sd r]
theorem vY:∀(l:List Tm)(c:List Ce),(aO c l).2.length=l.length|[],c=>rfl|x::r,c=>by simp only[aO,bn,vY r]
theorem Je(t:Tm)(c:List Ce):c.length<=(aZ c t).length/\(aZ c t).length<=c.length+2*t.nodes:=by
 have hn:1<=t.nodes:=by cases t;simp only[Tm.nodes];omega
 unfold aZ;split;·obtain⟨k,n,s,l⟩:=t;have h1:=uG l (c++⟨3,(l.length:Int),s⟩::List.replicate l.length ⟨0,0,.empty⟩) (c.length+1);simp only[bA,bn,yz]at h1;simp only[uF,Tm.nodes];omega
 ·rename_i h;rw[Sb h];simp;omega
theorem Bo:∀(l:List Tm)(c:List Ce),c.length<=(aO c l).1.length/\(aO c l).1.length<=c.length+2*Tm.aH l|[],c=>by simp[aO,Tm.aH]|x::r,c=>by simp only[aO,Tm.aH];have h1:=Je x c;have h2:=Bo r (aZ c x);omega
theorem aay(c:List Ce)(l:List Tm)(j:Nat)(hj:j<l.length):(aO c (l.take j)).1.length+2*l[j].nodes<=c.length+2*Tm.aH l:=by have h1:=Bo (l.take j) c;have h2:=R7 l j hj;omega
theorem Jf:∀(l:List Tm),(∀g∈l,g.nodes<=24)->Tm.aH l<=24*l.length|[],_=>by simp[Tm.aH]|x::r,h=>by simp only[Tm.aH,bn];have h1:=h x (mY ..);have h2:=Jf r (fun g hg=>h g (nU _ hg));omega
structure Bk where
  cells : List Ce
  vars : Int
  head : Int
  goals : List Int
def bL(l:List Tm)(v:Int):Bk:=⟨(aO (aK v.toNat) l).1,v, -1,(aO (aK v.toNat) l).2⟩
def aG(c:Cl):Bk:=⟨(aO (aZ (aK c.vars.toNat) c.head) c.body).1,c.vars,(c.vars.toNat:Int),(aO (aZ (aK c.vars.toNat) c.head) c.body).2⟩
def Nb:Bk:=⟨[],0,0,[]⟩
noncomputable def Dm(l:List Tm)(v:Int):Bk×Int:=open Classical in if iw l v then(bL l v,0)else(Nb,1)
noncomputable def Dn(c:Cl):Bk×Int:=open Classical in if c.Good then(aG c,0)else(Nb,1)
def aaz(A:Nat->Prop)(x:Bk×Int)(r:Value)(w':World):Prop:=∃cv gv,r= .tuple #[.agg #[cv,.int .i64 x.1.vars,.int .i64 x.1.head,gv],.int .i64 x.2]/\pI A w' x.1.cells cv/\fI A w' x.1.goals gv
structure Nc (w : World) (g gb rb : Nat) (x : List Ce) (gs : List Int) (v hd : Int) (cv gv : Value) (W : World) : Prop where
  ku : Below w.heap.size w W
  mkr : mR g (g + 1) x cv W
  box : W.heap[gb]? = some (.cells #[.slice none 0 0, .int .i64 v, .int .i64 hd, gv] 67 (0, 0))
  own : dA W (g + 1) gs gv
  res : W.heap[rb]? = some (.cells #[.slice none 0 0, .int .i64 0, .int .i64 0, .slice none 0 0] 67 (0, 0))
  gw : w.heap.size ≤ g
  gbw : w.heap.size ≤ gb
  ne1 : gb ≠ g
  ne2 : rb ≠ g
  ne3 : rb ≠ gb
theorem aki(l:List Tm)(v:Int)(hi:au v)(hnd:Tm.aH l<=1099511627776)(w:World)(u:Value)(hu:iP (fun b=>b<w.heap.size) w l u):Calls Tryz.prog 32 #[u,.int .i64 v] w (Pure w (aaz (New w) (Dm l v))):=by
 have hcs:=dz;have zl:=zh (fun(W:World)(h:Below w.heap.size w W)=>LY l v hnd hi (fun b=>b<w.heap.size) W u (aj.keeps Tm.aA hu (ag.ob h)));obtain⟨a,cap,b,off,rfl,hlc,hcm,hlb,ha,he⟩:=hu.at;have HE:=zh he;have Dj:=zh ha;have Sg:=zh (show ∀t∈l,∀(W:World),ag (fun b=>b<w.heap.size) w W->∀{us},Tm.rep (fun b=>b<w.heap.size) W t us->Tm.rep (fun b=>b<w.heap.size) W t us from fun _ _ _ _ _ h=>h);clear hu ha he;go_enter Tryz.func32,Tryz.ntmps32;go_wp2_with fail;have Jg:=zh (bV w (.cells #[.slice none 0 0,.int .i64 0,.int .i64 0,.slice none 0 0] 67));have HB0:=zh ((gJ _ w).alloc (zL _) (.cells #[.slice none 0 0,.int .i64 0,.int .i64 0,.slice none 0 0] 67));refine(zl.o _ HB0.o).mono ?_;rintro e w1⟨r,rfl,hb1,q,rfl,hq⟩;have HB1:=zh (HB0.o.trans (hb1.mono HB0.o.size));have vZ:=zh (aL Jg.o hb1);clear hb1 HB0 Jg;obtain⟨rb,hrb⟩:∃rb,rb=w.heap.size:=⟨_,rfl⟩;have HRB:=zh hrb;have hrw:rb<w1.heap.size:=by rw[hrb];exact aD vZ.o
 have akk:w.heap.size<=rb:=by omega
 rw[<-hrb]at vZ;obtain⟨r0,r1,r2,r3,rf⟩:=aW vZ.o;rw[<-hrb];clear hrb;cases q with
  |false=>
   have oI:¬iw l v:=fun h=>by have :=hq.2 h;cases this
   have Dp:=zh (show Dm l v=(Nb,1)by rw[Dm,ae oI]);clear oI hq;go_wp2_with fail;refine cK (v:= .tuple #[.agg #[.slice none 0 0,.int .i64 0,.int .i64 0,.slice none 0 0],.int .i64 1]) (by simp[results,Tryz.results32,go_sem,hcs,r0,r1,r2,r3];try rfl) rfl ?_;rw[Dp.o];exact Pure.mk (bH (bH (bH (bH HB1.o (by simp only;omega) _) (by simp only;omega) _) (by simp only;omega) _) (by simp only;omega) _) ⟨_,_,rfl,aj.nil ..,aj.nil ..⟩
  |true=>
   have uI:iw l v:=hq.1 rfl;have Dp:=zh (show Dm l v=(bL l v,0)by rw[Dm,ah uI]);obtain⟨v0,v8,l5,lg⟩:=uI;have Si:=Jf l (fun g hg=>(lg g hg).2.2);clear lg hnd;obtain⟨n,rfl⟩:=eu v0;clear hq;go_wp2_with fail;refine(aax n (by omega) w1).mono ?_;rintro e w2⟨uJ,rfl,hb2,hm2⟩;have HB2:=zh (HB1.o.trans (hb2.mono HB1.o.size));have pW:=zh (aL vZ.o hb2);have gY:=zh hm2;have hz2:=aD hm2.box;have hz1:=HB1.o.size;clear hb2 hm2 r0 r1 r2 r3 rf;obtain⟨g,hg⟩:∃g,g=w1.heap.size:=⟨_,rfl⟩;rw[<-hg]at gY hz2 ⊢;have hgr:rb<g:=by omega
   have hgw:w.heap.size<=g:=by omega
   clear hg;go_wp2_with fail;have Nf:=zh (show Nc w g w2.heap.size rb (aO (aK n) (l.take 0)).1 (aO (aK n) (l.take 0)).2 (n:Int) (-1) uJ (.slice none 0 0) (w2.alloc (.cells #[.slice none 0 0,.int .i64 (n:Int),.int .i64 (-1),.slice none 0 0] 67))from⟨HB2.o.alloc HB2.o.size _,gY.o.below ((zB _ _).alloc (zL _) _),bV _ _,af.nil,aX pW.o _,hgw,HB2.o.size,by omega,by omega,by have :=aD pW.o;omega⟩);have akl:(aK n).length<=8:=by rw[jI];omega
   have pU:=zh (show(aO (aK n) l).1.length<=1048576 by have :=Bo l (aK n);omega);obtain⟨gb,hgb⟩:∃gb,gb=w2.heap.size:=⟨_,rfl⟩;rw[<-hgb]at Nf ⊢;clear hgb HB1 HB2 vZ pW gY;go_loopw[21](fun i W=>∃(j:Nat)(cv gv:Value),j<=l.length/\i= .int .i64 (j:Int)/\Nc w g gb rb (aO (aK n) (l.take j)).1 (aO (aK n) (l.take j)).2 (n:Int) (-1) cv gv W)(fun i _=>l.length - (intOf i).toNat);case atStart=>exact⟨0,_,_,dD _,rfl,Nf.out⟩
   case round=>
    obtain⟨j,cv,gv,hj,rfl,hcd⟩:=hrel;have CD:=zh hcd;obtain⟨hbel,hmk,nL,hown,hres,hgw,Sj,hne1,hne2,zt⟩:=hcd;have hzb:=hbel.size;have hgb:=aD nL;obtain⟨na,nc,rfl,hnl,hnm⟩:=af.val hown;have Jh:(aO (aK n) (l.take j)).2.length=(l.take j).length:=vY _ _;have hll:(l.take j).length<=l.length:=by rw[dS];omega
    by_cases hlt:j<l.length
    ·obtain⟨rfl,cO⟩:=Dj.o (by omega);obtain⟨sa,sc,d0,d1,d2,d3,hr⟩:=pG HE.o cO (ag.ob hbel) hlt;have hlt':(j:Int)<(l.length:Int):=by omega
     have hj0:(0:Int)<=(j:Int):=zN _;obtain⟨t,ht⟩:∃t,t=l[j]'hlt:=⟨_,rfl⟩;rw[<-ht]at d0 d1 d2 d3 hr;have HT:=zh ht;have iJ:=zh hlt;have sw:=aay (aK n) l j hlt;rw[<-ht]at sw;have HR:=zh (show Tm.rep (fun b=>b<w.heap.size) _ t _ from Tm.aA.1 _ _ _ _ _ (Sg.out t (by rw[ht];exact bZ _) _ (ag.ob hbel) hr) (ag.alloc _ _ (.cells #[.int .i64 t.kind,.int .i64 t.n,.string t.s,.slice sa t.args.length sc] 34)));obtain⟨nn,hnn⟩:∃nn,nn=(aO (aK n) (l.take j)).2.length:=⟨_,rfl⟩;rw[<-hnn]at nL hown CD hnl;have wh:=zh (hbel.alloc hbel.size (.cells #[.int .i64 t.kind,.int .i64 t.n,.string t.s,.slice sa t.args.length sc] 34));have jh:=zh (hmk.below ((zB _ _).alloc (zL _) (.cells #[.int .i64 t.kind,.int .i64 t.n,.string t.s,.slice sa t.args.length sc] 34)));have fq:=zh (aX nL (.cells #[.int .i64 t.kind,.int .i64 t.n,.string t.s,.slice sa t.args.length sc] 34));have sD:=zh (bV wr (.cells #[.int .i64 t.kind,.int .i64 t.n,.string t.s,.slice sa t.args.length sc] 34));have HOW:=zh (af.below hown ((zB _ _).alloc (zL _) (.cells #[.int .i64 t.kind,.int .i64 t.n,.string t.s,.slice sa t.args.length sc] 34)));have wm:=zh (aX hres (.cells #[.int .i64 t.kind,.int .i64 t.n,.string t.s,.slice sa t.args.length sc] 34));obtain⟨ee,uK⟩:∃ee,ee=wr.heap.size:=⟨_,rfl⟩;have hsz0:ee<(wr.alloc (.cells #[.int .i64 t.kind,.int .i64 t.n,.string t.s,.slice sa t.args.length sc] 34)).heap.size:=by rw[uK];simp
     have heg:gb<ee:=by omega
     have hgg:=aD hmk.box;have akn:g<ee:=by omega
     have hew:w.heap.size<=ee:=by omega
     rw[<-uK]at sD;have uH:=zh (fun b(hb:ownB (.slice na nn nc)=some b)=>hown.lt b hb);have Dq:=zh (fun b(hb:ownB cv=some b)=>hmk.own.lt b hb);have Dr:=zh uK;have hbl:(aO (aK n) (l.take j)).1.length+1+2*t.nodes<=4194304:=by omega
     clear hr ht hbel hmk nL hown hres sw Jh hnn;go_wp2_with fail;clear d0 d1 d2 d3;rw[<-Dr.o];clear uK;generalize wr.alloc (.cells #[.int .i64 t.kind,.int .i64 t.n,.string t.s,.slice sa t.args.length sc] 34)=wa at wh jh fq sD HOW wm hsz0 HR ⊢;have hW1:wa.drew.heap[gb]?=some (.cells #[.slice none 0 0,.int .i64 (n:Int),.int .i64 (-1),.slice na nn nc] 67 (0,0))/\wa.drew.heap[ee]?=some (.cells #[.int .i64 t.kind,.int .i64 t.n,.string t.s,.slice sa t.args.length sc] 34 (0,0)):=⟨fq.o,sD.o⟩;refine iY (F:=fun k w'=>k=1\/k=3->(w'.heap[gb]?=some (.cells #[.slice none 0 0,.int .i64 (n:Int),.int .i64 (-1),.slice na nn nc] 67 (0,0))/\w'.heap[ee]?=some (.cells #[.int .i64 t.kind,.int .i64 t.n,.string t.s,.slice sa t.args.length sc] 34 (0,0)))) (by kernel_rfl) ?_;refine aC (i:=0) (v:=?_) rfl (Or.inl ⟨by rfl,?_⟩) (fun _=>hW1) ?_;rotate_left;·(intro w' hw;clear hw;go_simp<;>with_reducible rfl)
     simp only[zP];refine aC (i:=1) (v:=?_) rfl (Or.inl ⟨by rfl,?_⟩) (fun _=>hW1) ?_;rotate_left;·(intro w' hw;obtain⟨q0,q1,q2,q3,qf⟩:=aW (hw (by omega)).1;go_simp<;>with_reducible rfl)
     simp only[zP];refine aC (i:=2) (v:=?_) rfl (Or.inl ⟨by rfl,?_⟩) (fun _=>hW1) ?_;rotate_left;·(intro w' hw;clear hw;go_simp<;>with_reducible rfl)
     simp only[zP];refine aC (i:=3) (v:=?_) rfl (Or.inl ⟨by rfl,?_⟩) (fun _=>hW1) ?_;rotate_left;·(intro w' hw;obtain⟨q0,q1,q2,q3,qf⟩:=aW (hw (by omega)).2;go_simp<;>with_reducible rfl)
     simp only[zP];refine aM (i:=4) (by kernel_rfl) (aF rfl (by rfl) ?_);go_simp;refine(Na t g (g+1) (aO (aK n) (l.take j)).1 cv (fun b=>b<w.heap.size) wa.drew [_,_,_,_] (jh.o.below (zB _ _).drew) hbl (Tm.aA.1 _ _ _ _ _ HR.o (ag.drew _ _)) (fun b hb=>⟨by have hb':b<w.heap.size:=hb;have :=wh.out.size;simp;omega,fun e=>by
      have hb':b<w.heap.size:=hb;rcases e with e|e;·omega
      ·have :=(Dq.o b e).1;omega⟩)).mono ?_;rintro e w2⟨rfl,ky,hm2,hc2,ho2⟩;have xO:¬iD g cv gb:=fun e=>by
      rcases e with e|e;·exact hne1 e
      ·exact af.dU jh.o.own fq.o (by decide) e
     have Ji:¬iD g cv ee:=fun e=>by
      rcases e with e|e;·omega
      ·have h1:=(Dq.o _ e).2;have h2:=Dr.o;omega
     have wo:¬iD g cv rb:=fun e=>by
      rcases e with e|e;·exact hne2 e
      ·exact af.dU jh.o.own wm.o (by decide) e
     have HB2:=zh (wh.out.drew.trans (((Ch.refl _ _).trans hc2 (fun _ h=> .inl h)).mono (M':=iD g cv) (fun _ _ h=>h)|> fun h=>(show Below w.heap.size wa.drew w2 from⟨h.os,h.tape,h.output,h.size,fun k hk=>h.block k (by have :=wh.out.size;simp;omega) (fun e=>by
      rcases e with e|e;·omega
      ·have :=(Dq.o k e).1;omega)⟩)));have sF:=zh ((hc2.block gb (by simpa using aD fq.o) xO).trans (show wa.drew.heap[gb]?=_ from fq.o));have pW:=zh ((hc2.block rb (by simpa using aD wm.o) wo).trans (show wa.drew.heap[rb]?=_ from wm.o));have pX:=zh (af.kept HOW.o (w':=w2) (fun b hb=>hc2.block b (by simpa using(HOW.o.lt b hb).2) (fun e=>by
      rcases e with e|e;·have :=(HOW.o.lt b hb).1;omega
      ·exact pO (by decide) jh.o.own HOW.o b e hb)));have gY:=zh hm2;refine⟨fun k hk hF ed=>⟨(hc2.block gb (by simpa using aD fq.o) xO).trans (hF ed).1,(hc2.block ee (by simpa using aD sD.o) Ji).trans (hF ed).2⟩,?_⟩;clear hc2 ho2 hm2 xO Ji wo hW1 jh fq sD HOW wm uH wh HR;try simp only[zP]
     refine aM (i:=5) (by kernel_rfl) (aF rfl (by rfl) ?_);go_simp;refine⟨fun k hk hF ed=>⟨aX (hF ed).1 _,aX (hF ed).2 _⟩,?_⟩;refine aM (i:=6) (by kernel_rfl) (aF rfl (by rfl) ?_);have hz2:=gY.o.zq;have aaB:(aO (aK n) (l.take j)).1.length<=4194304:=by omega
     refine rH (.tmp 26) (.tmp 30) 57 rfl (g+1) 3 1 8 je aQ (.slice na nn nc) (aO (aK n) (l.take j)).2 rfl (af.eZ dO pX.o (fun _=>True)) ((aO (aK n) (l.take j)).1.length:Int) [(.int .i64 ((aO (aK n) (l.take j)).1.length:Int))] rfl rfl ⟨by unfold au;omega,rfl⟩ ⟨by rw[vY];omega,hz2⟩ ?_;intro v2 w4 hown2 az;have gN:=zh (af.eB hown2);have wy:=gY.o.own;have hkc:∀b,ownB (.slice na nn nc)=some b->b≠gb/\b≠g/\b≠rb/\ownB ky≠some b:=fun b hb=>⟨fun e=>af.dU pX.o sF.o (by decide) (e▸hb),fun e=>af.dU pX.o gY.o.box (by decide) (e▸hb),fun e=>af.dU pX.o pW.o (by decide) (e▸hb),fun e=>pO (by decide) wy pX.o b e hb⟩;have kU:∀k,k<w2.heap.size->ownB (.slice na nn nc)≠some k->w4.heap[k]?=w2.heap[k]?:=fun k hk hn=>(az.grown.block k (by simp;omega) (fun e=>hn e.symm)).trans (Lx _ _ _ hk);have sG:=zh ((kU gb (aD sF.o) (fun e=>(hkc _ e).1 rfl)).trans sF.o);have Bp:=zh ((kU rb (aD pW.o) (fun e=>(hkc _ e).2.2.1 rfl)).trans pW.o);have Jj:=zh ((kU g (aD gY.o.box) (fun e=>(hkc _ e).2.1 rfl)).trans gY.o.box);have Jk:=zh (af.kept wy (w':=w4) (fun b hb=>kU b (wy.lt b hb).2 (fun e=>(hkc b e).2.2.2 hb)));have lF:=az.size;have dH:=zh (az.below (HB2.o.alloc HB2.o.size (.cells #[.int .i64 ((aO (aK n) (l.take j)).1.length:Int)] 3)) (by have :=HB2.o.size;simp;omega) (fun b hb=>by have :=(pX.o.lt b hb).1;omega));refine⟨fun k hk hF ed=>⟨(az.grown.block gb (by have :=aD sF.o;simp;omega) (fun e=>(hkc _ e.symm).1 rfl)).trans (hF ed).1,(az.grown.block ee (aD (hF ed).2) (fun e=>af.dU (af.below pX.o ((zB _ _).alloc (zL _) _)) (hF ed).2 (by decide) e.symm)).trans (hF ed).2⟩,?_⟩;obtain⟨bN,bO,hv2, -, -⟩:=af.val gN.o;rw[bA,dW]at hv2;subst hv2;clear hown2 az kU hkc wy;try simp only[zP]
     refine aM (i:=7) (by kernel_rfl) (aF rfl (by rfl) ?_);go_simp;refine⟨fun _ _ h=>h,?_⟩;obtain⟨y0,y1,y2,y3,yf⟩:=aW sG.o;have Dt:=aD sG.o;refine aM (i:=8) (by kernel_rfl) (aF rfl (by rfl) ?_);go_simp;refine⟨fun k hk _ h1=>?_,fU (by kernel_rfl) ?_ _⟩
     ·rcases h1 with h1|h1;·subst h1;exact absurd (show waits _ 8 1=true by kernel_rfl) (by rw[hk];decide)
      ·subst h1;exact absurd (show waits _ 8 3=true by kernel_rfl) (by rw[hk];decide)
     go_wp2_with fail;go_roundw;case rel=>
      have hgl:(aO (aK n) (l.take j)).2.length+1=((aO (aK n) (l.take j)).2++[((aO (aK n) (l.take j)).1.length:Int)]).length:=by simp
      refine⟨j+1,ky,.slice bN ((aO (aK n) (l.take j)).2.length+1) bO,by omega,by go_num,?_⟩;rw[fF iJ.o,Sd,<-HT.o];refine⟨dH.o.setCell (by simp only;omega) _,⟨?_,?_,gY.o.lt,gY.o.len,?_⟩,(bI sG.o 3 _).trans rfl,?_,?_,hgw,Sj,hne1,hne2,zt⟩;·rw[bC _ _ _ _ (by simp only;exact fun e=>hne1 e.symm)];exact Jj.o
      ·exact af.kept Jk.o (fun b hb=>bC _ _ _ _ (by simp only;exact fun e=>af.dU Jk.o sG.o (by decide) (e▸hb)))
      ·have :=aD Jj.o;simp;omega
      ·exact af.kept gN.o (fun b hb=>bC _ _ _ _ (by simp only;exact fun e=>af.dU gN.o sG.o (by decide) (e▸hb)))
      ·rw[bC _ _ _ _ (by simp only;exact zt)];exact Bp.o
     case measure=>first|(simp[intOf];done)|(simp[intOf];omega)
    ·have dm:j=l.length:=by omega
     subst dm;have hlt':¬((l.length:Int)<(l.length:Int)):=by omega
     obtain⟨ca,cc,rfl,hcl,hcm⟩:=af.val hmk.own;obtain⟨m0,mf⟩:=su hmk.box;obtain⟨y0,y1,y2,y3,yf⟩:=aW nL;obtain⟨r0,r1,r2,r3,rf⟩:=aW hres;have hgg:=aD hmk.box;have hrr:=aD hres;clear hlt hbel hmk nL hown hres Jh;rw[jW]at CD;have hxl:(aO (aK n) (l.take l.length)).1=(aO (aK n) l).1:=by rw[jW]
     have hgl:(aO (aK n) (l.take l.length)).2=(aO (aK n) l).2:=by rw[jW]
     rw[hxl]at m0 hcl;rw[hgl]at y3 hnl;clear hxl hgl;obtain⟨X,hX⟩:∃X,X=aO (aK n) l:=⟨_,rfl⟩;rw[<-hX]at m0 hcl y3 hnl CD;have HX:=zh hX;clear hX;go_wp2_with fail;have hch:Ch (fun b=>b=gb\/b=rb) wr wr:=Ch.refl _ _;have bD:=(((((hch.setCell (p:=⟨gb,0,none⟩) (.inl (.inl rfl)) (.slice ca X.1.length cc)).setCell (p:=⟨rb,0,none⟩) (.inl (.inr rfl)) (.slice ca X.1.length cc)).setCell (p:=⟨rb,1,none⟩) (.inl (.inr rfl)) (.int .i64 (n:Int))).setCell (p:=⟨rb,2,none⟩) (.inl (.inr rfl)) (.int .i64 (-1))).setCell (p:=⟨rb,3,none⟩) (.inl (.inr rfl)) (.slice na X.2.length nc));have Sk:¬gb=rb:=fun e=>zt e.symm;have c1:=CD.out.mkr.own;have c2:=CD.out.own;have c3:=CD.out.box;have c4:=CD.out.res;have Du:=Ch.below (Ch.trans (Ch.of_below (M:=fun b=>b=gb\/b=rb) CD.out.ku) bD (fun _ h=> .inl h)) (fun k hk e=>by omega);refine cK (v:= .tuple #[.agg #[.slice ca X.1.length cc,.int .i64 (n:Int),.int .i64 (-1),.slice na X.2.length nc],.int .i64 0]) (by simp[results,Tryz.results32,go_sem,hcs,r0,r1,r2,r3,y0,y1,y2,y3,zt,Sk];try rfl) rfl ?_;rw[Dp.o];have Sl:=pU.o;rw[<-HX.o]at Sl;refine Pure.mk Du ⟨_,_,rfl,?_,?_⟩
     ·show pI _ _ (aO (aK n) l).1 _;rw[<-HX.o];exact af.sl Ce.jD Ce.yR (af.kept c1 (fun b hb=>bD.block b (c1.lt b hb).2 (fun e=>by
       rcases e with e|e;·exact af.dU c1 c3 (by decide) (e▸hb)
       ·exact af.dU c1 c4 (by decide) (e▸hb)))) (by omega) (fun b hb=>by have :=(c1.lt b hb).1;unfold New;omega)
     ·show fI _ _ (aO (aK n) l).2 _;rw[<-HX.o];have hl2:=vY l (aK n);rw[<-HX.o]at hl2;exact af.sl dO xx (af.kept c2 (fun b hb=>bD.block b (c2.lt b hb).2 (fun e=>by
       rcases e with e|e;·exact af.dU c2 c3 (by decide) (e▸hb)
       ·exact af.dU c2 c4 (by decide) (e▸hb)))) (by omega) (fun b hb=>by have :=(c2.lt b hb).1;unfold New;omega)
theorem akp(c:Cl)(hnd:c.nodes<=1099511627776)(w:World)(vs:List Value)(hc:Cl.rep (fun b=>b<w.heap.size) w c vs):Calls Tryz.prog 31 #[.agg vs.toArray] w (Pure w (aaz (New w) (Dn c))):=by
 have hcs:=dz;have zl:=zh (fun(W:World)(h:Below w.heap.size w W)=>QK c hnd (fun b=>b<w.heap.size) W vs (Cl.aA.1 _ _ _ _ _ hc (ag.ob h)));obtain⟨h,l,v⟩:=c;obtain⟨ha,hcp,a,cap,rfl,hh,hu,hi⟩:=hc;simp only at hh hu hi;obtain⟨_,_,b,off,e, -, -,hlb,nM,he⟩:=hu.at;simp only[eX,fH]at e;obtain⟨rfl,rfl⟩:=e;have HE:=zh he;have Dj:=zh nM;have HHR:=zh hh;have Sg:=zh (show ∀t∈l,∀(W:World),ag (fun b=>b<w.heap.size) w W->∀{us},Tm.rep (fun b=>b<w.heap.size) W t us->Tm.rep (fun b=>b<w.heap.size) W t us from fun _ _ _ _ _ h=>h);simp only[Cl.nodes]at hnd;clear hu nM he hh;go_enter Tryz.func31,Tryz.ntmps31;go_wp2_with fail;have h2:=mG w (.cells #[.int .i64 h.kind,.int .i64 h.n,.string h.s,.slice ha h.args.length hcp,.slice a l.length cap,.int .i64 v] 65) (.cells #[.slice none 0 0,.int .i64 0,.int .i64 0,.slice none 0 0] 67);have aaD:=zh h2.1;have Jg:=zh h2.2;have HB0:=zh (((gJ _ w).alloc (zL _) (.cells #[.int .i64 h.kind,.int .i64 h.n,.string h.s,.slice ha h.args.length hcp,.slice a l.length cap,.int .i64 v] 65)).alloc (by simp) (.cells #[.slice none 0 0,.int .i64 0,.int .i64 0,.slice none 0 0] 67));refine(zl.o _ HB0.o).mono ?_;rintro e w1⟨r,rfl,hb1,q,rfl,hq⟩;have HB1:=zh (HB0.o.trans (hb1.mono HB0.o.size));have vZ:=zh (aL Jg.o hb1);have Ng:=zh (aL aaD.o hb1);clear hb1 HB0 Jg aaD h2;obtain⟨rb,hrb⟩:∃rb,rb=w.heap.size+1:=⟨_,rfl⟩;obtain⟨pb,hpb⟩:∃pb,pb=w.heap.size:=⟨_,rfl⟩;have HRB:=zh hrb;have hrw:rb<w1.heap.size:=by rw[hrb];exact aD vZ.o
 have akk:w.heap.size<=rb:=by omega
 have hpw:pb<w1.heap.size:=by omega
 have hpr:¬rb=pb:=by omega
 have asg:w.heap.size<=pb:=by omega
 rw[<-hrb]at vZ;rw[<-hpb]at Ng;obtain⟨r0,r1,r2,r3,rf⟩:=aW vZ.o;rw[<-hrb];rw[<-hpb];clear hrb hpb;cases q with
  |false=>
   have oI:¬(⟨h,l,v⟩:Cl).Good:=fun h=>by have :=hq.2 h;cases this
   have Dp:=zh (show Dn ⟨h,l,v⟩=(Nb,1)by rw[Dn,ae oI]);clear oI hq;go_wp2_with fail;refine cK (v:= .tuple #[.agg #[.slice none 0 0,.int .i64 0,.int .i64 0,.slice none 0 0],.int .i64 1]) (by simp[results,Tryz.results31,go_sem,hcs,r0,r1,r2,r3];try rfl) rfl ?_;rw[Dp.o];exact Pure.mk (bH (bH (bH (bH HB1.o (by simp only;omega) _) (by simp only;omega) _) (by simp only;omega) _) (by simp only;omega) _) ⟨_,_,rfl,aj.nil ..,aj.nil ..⟩
  |true=>
   have uI:(⟨h,l,v⟩:Cl).Good:=hq.1 rfl;have Dp:=zh (show Dn ⟨h,l,v⟩=(aG ⟨h,l,v⟩,0)by rw[Dn,ah uI]);obtain⟨⟨v0,v8,l5,lg⟩, -,hft, -⟩:=uI;simp only at v0 v8 l5 lg hft;have hhn:=hft.2;obtain⟨n,rfl⟩:=eu v0;have Si:=Jf l (fun g hg=>(lg g hg).2.2);clear lg hnd hq hft;obtain⟨x0,x1,x2,x3,x4,x5,xf⟩:=CK Ng.o;go_wp2_with fail;refine(aax n (by omega) w1).mono ?_;rintro e w2⟨uJ,rfl,hb2,hm2⟩;have HB2:=zh (HB1.o.trans (hb2.mono HB1.o.size));have pW:=zh (aL vZ.o hb2);have Sn:=zh (aL Ng.o hb2);have gY:=zh hm2;have hz2:=aD hm2.box;have hz1:=HB1.o.size;clear hb2 hm2 r0 r1 r2 r3 rf x0 x1 x2 x3 x4 x5 xf;obtain⟨g,hg⟩:∃g,g=w1.heap.size:=⟨_,rfl⟩;rw[<-hg]at gY hz2 ⊢;have hgr:rb<g:=by omega
   have Fw:pb<g:=by omega
   have hgw:w.heap.size<=g:=by omega
   clear hg HB1 vZ Ng;go_wp2_with fail;go_cut[5](fun u5 wr=>∃(gb:Nat)(cv:Value),u5= .pointer (some ⟨gb,0,none⟩)/\Nc w g gb rb (aO (aZ (aK n) h) (l.take 0)).1 (aO (aZ (aK n) h) (l.take 0)).2 (n:Int) (n:Int) cv (.slice none 0 0) wr/\wr.heap[pb]?=some (.cells #[.int .i64 h.kind,.int .i64 h.n,.string h.s,.slice ha h.args.length hcp,.slice a l.length cap,.int .i64 (n:Int)] 65 (0,0)));case first=>
    have hW1:w2.drew.heap[pb]?=some (.cells #[.int .i64 h.kind,.int .i64 h.n,.string h.s,.slice ha h.args.length hcp,.slice a l.length cap,.int .i64 (n:Int)] 65 (0,0)):=Sn.o;have zu:=zh (gY.o.below (zB _ _).drew);have HB3:=zh (HB2.o.drew);have Fx:=zh (show w2.drew.heap[rb]?=_ from pW.o);have Dv:=zh hW1;refine iY (F:=fun k w'=>k=1\/k=4->w'.heap[pb]?=some (.cells #[.int .i64 h.kind,.int .i64 h.n,.string h.s,.slice ha h.args.length hcp,.slice a l.length cap,.int .i64 (n:Int)] 65 (0,0))) (by kernel_rfl) ?_;refine aC (i:=0) (v:=?_) rfl (Or.inl ⟨by rfl,?_⟩) (fun _=>hW1) ?_;rotate_left;·(intro w' hw;clear hw;go_simp<;>with_reducible rfl)
    simp only[zP];refine aC (i:=1) (v:=?_) rfl (Or.inl ⟨by rfl,?_⟩) (fun _=>hW1) ?_;rotate_left;·(intro w' hw;obtain⟨q0,q1,q2,q3,q4,q5,qf⟩:=CK (hw (by omega));go_simp<;>with_reducible rfl)
    simp only[zP];refine aC (i:=2) (v:=?_) rfl (Or.inl ⟨by rfl,?_⟩) (fun _=>hW1) ?_;rotate_left;·(intro w' hw;clear hw;go_simp<;>with_reducible rfl)
    simp only[zP];refine aC (i:=3) (v:=?_) rfl (Or.inl ⟨by rfl,?_⟩) (fun _=>hW1) ?_;rotate_left;·(intro w' hw;clear hw;go_simp<;>with_reducible rfl)
    simp only[zP];refine aC (i:=4) (v:=?_) rfl (Or.inl ⟨by rfl,?_⟩) (fun _=>hW1) ?_;rotate_left;·(intro w' hw;obtain⟨q0,q1,q2,q3,q4,q5,qf⟩:=CK (hw (by omega));go_simp<;>with_reducible rfl)
    simp only[zP];clear HB2 pW Sn gY hW1;generalize w2.drew=w3 at zu HB3 Fx Dv ⊢;refine CY (i:=5) (j:=7) (by kernel_rfl) (aF rfl (by rfl) ?_) (aF rfl (by rfl) ?_)
    ·go_simp;refine(Na h g (g+1) (aK n) uJ (fun b=>b<w.heap.size) w3 [_,_,_,_] zu.o (by rw[jI];omega) (Tm.aA.1 _ _ _ _ _ HHR.o (ag.ob HB3.o)) (fun b hb=>⟨by have hb':b<w.heap.size:=hb;have :=HB3.o.size;omega,fun e=>by
      have hb':b<w.heap.size:=hb;rcases e with e|e;·omega
      ·have :=(zu.o.own.lt b e).1;omega⟩)).mono ?_;rintro e w5⟨rfl,ky,Jl,qP,Sq⟩;have Dw:¬iD g uJ pb:=fun e=>by
      rcases e with e|e;·omega
      ·exact af.dU zu.o.own Dv.o (by decide) e
     have wo:¬iD g uJ rb:=fun e=>by
      rcases e with e|e;·omega
      ·exact af.dU zu.o.own Fx.o (by decide) e
     have Fy:=zh ((qP.block pb (aD Dv.o) Dw).trans Dv.o);have Jm:=zh ((qP.block rb (aD Fx.o) wo).trans Fx.o);have dx:=zh (Ch.below (Ch.trans (Ch.of_below (M:=iD g uJ) HB3.o) qP (fun _ h=> .inl h)) (fun k hk e=>by
      rcases e with e|e;·omega
      ·have :=(zu.o.own.lt k e).1;omega));have Jn:=zh Jl;rw[jI];refine⟨fun k hk hF ed=>(qP.block pb (aD Dv.o) Dw).trans (hF ed),?_⟩;clear Dw wo qP Sq Jl;try simp only[zP]
     refine aC (i:=6) (v:=?_) rfl (Or.inl ⟨by rfl,?_⟩) (fun h=>absurd h (by decide)) ?_;rotate_left;·(intro w' hw;clear hw;go_simp<;>with_reducible rfl)
     simp only[zP];refine aM (i:=7) (by kernel_rfl) (aF rfl (by rfl) ?_);go_simp;refine⟨fun k hk hF ed=>aX (hF ed) _,?_⟩;have sH:=zh (bV w5 (.cells #[.slice none 0 0,.int .i64 0,.int .i64 0,.slice none 0 0] 67));have Jo:=zh ((gJ _ w5).alloc (zL _) (.cells #[.slice none 0 0,.int .i64 0,.int .i64 0,.slice none 0 0] 67));have HPZ:=zh (aX Fy.o (.cells #[.slice none 0 0,.int .i64 0,.int .i64 0,.slice none 0 0] 67));obtain⟨gb,hgb⟩:∃gb,gb=w5.heap.size:=⟨_,rfl⟩;rw[<-hgb]at sH ⊢;have hg5:=aD Jn.o.box;have Jp:=aD Jm.o;have hp5:=aD Fy.o;have hb5:=dx.o.size;have lK:=aD sH.o;have Jq:=zh hgb;have q1:g<gb:=by omega
     have q2:rb<gb:=by omega
     have q3:pb<gb:=by omega
     have q4:w.heap.size<=gb:=by omega
     clear hgb;generalize w5.alloc (.cells #[.slice none 0 0,.int .i64 0,.int .i64 0,.slice none 0 0] 67)=wz at sH Jo HPZ lK ⊢;obtain⟨y0,y1,y2,y3,yf⟩:=aW sH.o;try simp only[zP]
     refine aM (i:=8) (by kernel_rfl) (aF rfl (by rfl) ?_);go_simp;refine⟨fun k hk _ h1=>?_,fU (by kernel_rfl) ?_ _⟩
     ·rcases h1 with h1|h1;·subst h1;exact absurd (show waits _ 8 1=true by kernel_rfl) (by rw[hk];decide)
      ·subst h1;exact absurd (show waits _ 8 4=true by kernel_rfl) (by rw[hk];decide)
     go_wp2_with fail;go_meet;have hBW:Below w5.heap.size w5 ((((wz.setCell ⟨gb,0,none⟩ (.slice none 0 0)).setCell ⟨gb,1,none⟩ (.int .i64 (n:Int))).setCell ⟨gb,2,none⟩ (.int .i64 (n:Int))).setCell ⟨gb,3,none⟩ (.slice none 0 0)):=by have :=Jq.o;exact bH (bH (bH (bH Jo.o (by simp only;omega) _) (by simp only;omega) _) (by simp only;omega) _) (by simp only;omega) _
     exact⟨gb,ky,rfl,⟨dx.o.trans (hBW.mono dx.o.size),Jn.o.below hBW,(bI (bI (bI (bI sH.o 0 _) 1 _) 2 _) 3 _).trans rfl,af.nil,aL Jm.o hBW,hgw,q4,by omega,by omega,by omega⟩,aL Fy.o hBW⟩
    ·go_simp;refine⟨fun k hk hF ed=>aX (hF ed) _,?_⟩;have sH:=zh (bV w3 (.cells #[.slice none 0 0,.int .i64 0,.int .i64 0,.slice none 0 0] 67));have vW:=zh (zu.o.below ((zB _ _).alloc (zL _) (.cells #[.slice none 0 0,.int .i64 0,.int .i64 0,.slice none 0 0] 67)));have dH:=zh (HB3.o.alloc HB3.o.size (.cells #[.slice none 0 0,.int .i64 0,.int .i64 0,.slice none 0 0] 67));have Jr:=zh (aX Dv.o (.cells #[.slice none 0 0,.int .i64 0,.int .i64 0,.slice none 0 0] 67));have Bp:=zh (aX Fx.o (.cells #[.slice none 0 0,.int .i64 0,.int .i64 0,.slice none 0 0] 67));obtain⟨gb,hgb⟩:∃gb,gb=w3.heap.size:=⟨_,rfl⟩;rw[<-hgb]at sH ⊢;have hg5:=aD zu.o.box;have Jp:=aD Fx.o;have hp5:=aD Dv.o;have hb5:=HB3.o.size;have hown3:=zh (fun b(hb:ownB uJ=some b)=>(zu.o.own.lt b hb).2);have Jq:=zh hgb;have q1:g<gb:=by omega
     have q2:rb<gb:=by omega
     have q3:pb<gb:=by omega
     have q4:w.heap.size<=gb:=by omega
     clear hgb;generalize w3.alloc (.cells #[.slice none 0 0,.int .i64 0,.int .i64 0,.slice none 0 0] 67)=wz at sH vW dH Jr Bp ⊢;try simp only[zP]
     refine aM (i:=5) (by kernel_rfl) (aF rfl (by rfl) ?_);go_simp;refine(Na h g (g+1) (aK n) uJ (fun b=>b<w.heap.size) wz [_,_,_,_] vW.o (by rw[jI];omega) (Tm.aA.1 _ _ _ _ _ HHR.o (ag.ob dH.o)) (fun b hb=>⟨by have hb':b<w.heap.size:=hb;have :=dH.o.size;omega,fun e=>by
      have hb':b<w.heap.size:=hb;rcases e with e|e;·omega
      ·have :=(vW.o.own.lt b e).1;omega⟩)).mono ?_;rintro e w5⟨rfl,ky,Jl,qP,Sq⟩;have Dw:¬iD g uJ pb:=fun e=>by
      rcases e with e|e;·omega
      ·exact af.dU vW.o.own Jr.o (by decide) e
     have wo:¬iD g uJ rb:=fun e=>by
      rcases e with e|e;·omega
      ·exact af.dU vW.o.own Bp.o (by decide) e
     have Fy:=zh ((qP.block pb (aD Jr.o) Dw).trans Jr.o);have Jm:=zh ((qP.block rb (aD Bp.o) wo).trans Bp.o);have dx:=zh (Ch.below (Ch.trans (Ch.of_below (M:=iD g uJ) dH.o) qP (fun _ h=> .inl h)) (fun k hk e=>by
      rcases e with e|e;·omega
      ·have :=(vW.o.own.lt k e).1;omega));have Jn:=zh Jl;rw[jI];have xO:¬iD g uJ gb:=fun e=>by
      rcases e with e|e;·omega
      ·have h1:=hown3.out _ e;have h2:=Jq.o;omega
     have Nh:=zh ((qP.block gb (aD sH.o) xO).trans sH.o);refine⟨fun k hk hF ed=>(qP.block pb (aD Jr.o) Dw).trans (hF ed),?_⟩;clear Dw wo xO qP Sq Jl;try simp only[zP]
     refine aM (i:=6) (by kernel_rfl) (aF rfl (by rfl) ?_);go_simp;refine⟨fun _ _ h=>h,?_⟩;obtain⟨y0,y1,y2,y3,yf⟩:=aW Nh.o;have lK:=aD Nh.o;try simp only[zP]
     refine aM (i:=8) (by kernel_rfl) (aF rfl (by rfl) ?_);go_simp;refine⟨fun k hk _ h1=>?_,fU (by kernel_rfl) ?_ _⟩
     ·rcases h1 with h1|h1;·subst h1;exact absurd (show waits _ 8 1=true by kernel_rfl) (by rw[hk];decide)
      ·subst h1;exact absurd (show waits _ 8 4=true by kernel_rfl) (by rw[hk];decide)
     go_wp2_with fail;go_meet;have hch:Ch (fun b=>b=gb) w5 w5:=Ch.refl _ _;have bD:=(((hch.setCell (p:=⟨gb,0,none⟩) (.inl rfl) (.slice none 0 0)).setCell (p:=⟨gb,1,none⟩) (.inl rfl) (.int .i64 (n:Int))).setCell (p:=⟨gb,2,none⟩) (.inl rfl) (.int .i64 (n:Int))).setCell (p:=⟨gb,3,none⟩) (.inl rfl) (.slice none 0 0);exact⟨gb,ky,rfl,⟨(Ch.trans (Ch.of_below (M:=fun b=>b=gb) dx.o) bD (fun _ h=> .inl h)).below (fun k hk e=>by omega),Jn.o.ch bD (fun b hb e=>by
      rcases hb with hb|hb;·omega
      ·exact af.dU Jn.o.own Nh.o (by decide) (e▸hb)),(bI (bI (bI (bI Nh.o 0 _) 1 _) 2 _) 3 _).trans rfl,af.nil,(bD.block rb (aD Jm.o) (by omega)).trans Jm.o,hgw,q4,by omega,by omega,by omega⟩,(bD.block pb (aD Fy.o) (by omega)).trans Fy.o⟩
   case rest=>
    obtain⟨gb,cv,rfl,hcd,Sr⟩:=hcut;have Nf:=zh hcd;obtain⟨x0,x1,x2,x3,x4,x5,xf⟩:=CK Sr;have Su:=aD Sr;have akl:(aZ (aK n) h).length<=56:=by have :=(Je h (aK n)).2;rw[jI]at this;omega
    have pU:=zh (show(aO (aZ (aK n) h) l).1.length<=1048576 by have :=Bo l (aZ (aK n) h);omega);clear hcd Sr gY HB2 pW Sn;go_wp2_with fail;clear x0 x1 x2 x3 x4 x5 xf Su;go_loopw[25](fun i W=>∃(j:Nat)(cv gv:Value),j<=l.length/\i= .int .i64 (j:Int)/\Nc w g gb rb (aO (aZ (aK n) h) (l.take j)).1 (aO (aZ (aK n) h) (l.take j)).2 (n:Int) (n:Int) cv gv W)(fun i _=>l.length - (intOf i).toNat);case atStart=>exact⟨0,_,_,dD _,rfl,Nf.out⟩
    case round=>
     obtain⟨j,cv,gv,hj,rfl,hcd⟩:=hrel;have CD:=zh hcd;obtain⟨hbel,hmk,nL,hown,hres,hgw,Sj,hne1,hne2,zt⟩:=hcd;have hzb:=hbel.size;have hgb:=aD nL;obtain⟨na,nc,rfl,hnl,hnm⟩:=af.val hown;have Jh:(aO (aZ (aK n) h) (l.take j)).2.length=(l.take j).length:=vY _ _;have hll:(l.take j).length<=l.length:=by rw[dS];omega
     by_cases hlt:j<l.length
     ·obtain⟨rfl,cO⟩:=Dj.o (by omega);obtain⟨sa,sc,d0,d1,d2,d3,hr⟩:=pG HE.o cO (ag.ob hbel) hlt;have hlt':(j:Int)<(l.length:Int):=by omega
      have hj0:(0:Int)<=(j:Int):=zN _;obtain⟨t,ht⟩:∃t,t=l[j]'hlt:=⟨_,rfl⟩;rw[<-ht]at d0 d1 d2 d3 hr;have HT:=zh ht;have iJ:=zh hlt;have sw:=aay (aZ (aK n) h) l j hlt;rw[<-ht]at sw;have HR:=zh (show Tm.rep (fun b=>b<w.heap.size) _ t _ from Tm.aA.1 _ _ _ _ _ (Sg.out t (by rw[ht];exact bZ _) _ (ag.ob hbel) hr) (ag.alloc _ _ (.cells #[.int .i64 t.kind,.int .i64 t.n,.string t.s,.slice sa t.args.length sc] 34)));obtain⟨nn,hnn⟩:∃nn,nn=(aO (aZ (aK n) h) (l.take j)).2.length:=⟨_,rfl⟩;rw[<-hnn]at nL hown CD hnl;have wh:=zh (hbel.alloc hbel.size (.cells #[.int .i64 t.kind,.int .i64 t.n,.string t.s,.slice sa t.args.length sc] 34));have jh:=zh (hmk.below ((zB _ _).alloc (zL _) (.cells #[.int .i64 t.kind,.int .i64 t.n,.string t.s,.slice sa t.args.length sc] 34)));have fq:=zh (aX nL (.cells #[.int .i64 t.kind,.int .i64 t.n,.string t.s,.slice sa t.args.length sc] 34));have sD:=zh (bV wr (.cells #[.int .i64 t.kind,.int .i64 t.n,.string t.s,.slice sa t.args.length sc] 34));have HOW:=zh (af.below hown ((zB _ _).alloc (zL _) (.cells #[.int .i64 t.kind,.int .i64 t.n,.string t.s,.slice sa t.args.length sc] 34)));have wm:=zh (aX hres (.cells #[.int .i64 t.kind,.int .i64 t.n,.string t.s,.slice sa t.args.length sc] 34));obtain⟨ee,uK⟩:∃ee,ee=wr.heap.size:=⟨_,rfl⟩;have hsz0:ee<(wr.alloc (.cells #[.int .i64 t.kind,.int .i64 t.n,.string t.s,.slice sa t.args.length sc] 34)).heap.size:=by rw[uK];simp
      have heg:gb<ee:=by omega
      have hgg:=aD hmk.box;have akn:g<ee:=by omega
      have hew:w.heap.size<=ee:=by omega
      rw[<-uK]at sD;have uH:=zh (fun b(hb:ownB (.slice na nn nc)=some b)=>hown.lt b hb);have Dq:=zh (fun b(hb:ownB cv=some b)=>hmk.own.lt b hb);have Dr:=zh uK;have hbl:(aO (aZ (aK n) h) (l.take j)).1.length+1+2*t.nodes<=4194304:=by omega
      clear hr ht hbel hmk nL hown hres sw Jh hnn;go_wp2_with fail;clear d0 d1 d2 d3;rw[<-Dr.o];clear uK;generalize wr.alloc (.cells #[.int .i64 t.kind,.int .i64 t.n,.string t.s,.slice sa t.args.length sc] 34)=wa at wh jh fq sD HOW wm hsz0 HR ⊢;have hW1:wa.drew.heap[gb]?=some (.cells #[.slice none 0 0,.int .i64 (n:Int),.int .i64 (n:Int),.slice na nn nc] 67 (0,0))/\wa.drew.heap[ee]?=some (.cells #[.int .i64 t.kind,.int .i64 t.n,.string t.s,.slice sa t.args.length sc] 34 (0,0)):=⟨fq.o,sD.o⟩;refine iY (F:=fun k w'=>k=1\/k=3->(w'.heap[gb]?=some (.cells #[.slice none 0 0,.int .i64 (n:Int),.int .i64 (n:Int),.slice na nn nc] 67 (0,0))/\w'.heap[ee]?=some (.cells #[.int .i64 t.kind,.int .i64 t.n,.string t.s,.slice sa t.args.length sc] 34 (0,0)))) (by kernel_rfl) ?_;refine aC (i:=0) (v:=?_) rfl (Or.inl ⟨by rfl,?_⟩) (fun _=>hW1) ?_;rotate_left;·(intro w' hw;clear hw;go_simp<;>with_reducible rfl)
      simp only[zP];refine aC (i:=1) (v:=?_) rfl (Or.inl ⟨by rfl,?_⟩) (fun _=>hW1) ?_;rotate_left;·(intro w' hw;obtain⟨q0,q1,q2,q3,qf⟩:=aW (hw (by omega)).1;go_simp<;>with_reducible rfl)
      simp only[zP];refine aC (i:=2) (v:=?_) rfl (Or.inl ⟨by rfl,?_⟩) (fun _=>hW1) ?_;rotate_left;·(intro w' hw;clear hw;go_simp<;>with_reducible rfl)
      simp only[zP];refine aC (i:=3) (v:=?_) rfl (Or.inl ⟨by rfl,?_⟩) (fun _=>hW1) ?_;rotate_left;·(intro w' hw;obtain⟨q0,q1,q2,q3,qf⟩:=aW (hw (by omega)).2;go_simp<;>with_reducible rfl)
      simp only[zP];refine aM (i:=4) (by kernel_rfl) (aF rfl (by rfl) ?_);go_simp;refine(Na t g (g+1) (aO (aZ (aK n) h) (l.take j)).1 cv (fun b=>b<w.heap.size) wa.drew [_,_,_,_] (jh.o.below (zB _ _).drew) hbl (Tm.aA.1 _ _ _ _ _ HR.o (ag.drew _ _)) (fun b hb=>⟨by have hb':b<w.heap.size:=hb;have :=wh.out.size;simp;omega,fun e=>by
       have hb':b<w.heap.size:=hb;rcases e with e|e;·omega
       ·have :=(Dq.o b e).1;omega⟩)).mono ?_;rintro e w2⟨rfl,ky,hm2,hc2,ho2⟩;have xO:¬iD g cv gb:=fun e=>by
       rcases e with e|e;·exact hne1 e
       ·exact af.dU jh.o.own fq.o (by decide) e
      have Ji:¬iD g cv ee:=fun e=>by
       rcases e with e|e;·omega
       ·have h1:=(Dq.o _ e).2;have h2:=Dr.o;omega
      have wo:¬iD g cv rb:=fun e=>by
       rcases e with e|e;·exact hne2 e
       ·exact af.dU jh.o.own wm.o (by decide) e
      have HB2:=zh (wh.out.drew.trans (((Ch.refl _ _).trans hc2 (fun _ h=> .inl h)).mono (M':=iD g cv) (fun _ _ h=>h)|> fun h=>(show Below w.heap.size wa.drew w2 from⟨h.os,h.tape,h.output,h.size,fun k hk=>h.block k (by have :=wh.out.size;simp;omega) (fun e=>by
       rcases e with e|e;·omega
       ·have :=(Dq.o k e).1;omega)⟩)));have sF:=zh ((hc2.block gb (by simpa using aD fq.o) xO).trans (show wa.drew.heap[gb]?=_ from fq.o));have pW:=zh ((hc2.block rb (by simpa using aD wm.o) wo).trans (show wa.drew.heap[rb]?=_ from wm.o));have pX:=zh (af.kept HOW.o (w':=w2) (fun b hb=>hc2.block b (by simpa using(HOW.o.lt b hb).2) (fun e=>by
       rcases e with e|e;·have :=(HOW.o.lt b hb).1;omega
       ·exact pO (by decide) jh.o.own HOW.o b e hb)));have gY:=zh hm2;refine⟨fun k hk hF ed=>⟨(hc2.block gb (by simpa using aD fq.o) xO).trans (hF ed).1,(hc2.block ee (by simpa using aD sD.o) Ji).trans (hF ed).2⟩,?_⟩;clear hc2 ho2 hm2 xO Ji wo hW1 jh fq sD HOW wm uH wh HR;try simp only[zP]
      refine aM (i:=5) (by kernel_rfl) (aF rfl (by rfl) ?_);go_simp;refine⟨fun k hk hF ed=>⟨aX (hF ed).1 _,aX (hF ed).2 _⟩,?_⟩;refine aM (i:=6) (by kernel_rfl) (aF rfl (by rfl) ?_);have hz2:=gY.o.zq;have aaB:(aO (aZ (aK n) h) (l.take j)).1.length<=4194304:=by omega
      refine rH (.tmp 30) (.tmp 34) 57 rfl (g+1) 3 1 8 je aQ (.slice na nn nc) (aO (aZ (aK n) h) (l.take j)).2 rfl (af.eZ dO pX.o (fun _=>True)) ((aO (aZ (aK n) h) (l.take j)).1.length:Int) [(.int .i64 ((aO (aZ (aK n) h) (l.take j)).1.length:Int))] rfl rfl ⟨by unfold au;omega,rfl⟩ ⟨by rw[vY];omega,hz2⟩ ?_;intro v2 w4 hown2 az;have gN:=zh (af.eB hown2);have wy:=gY.o.own;have hkc:∀b,ownB (.slice na nn nc)=some b->b≠gb/\b≠g/\b≠rb/\ownB ky≠some b:=fun b hb=>⟨fun e=>af.dU pX.o sF.o (by decide) (e▸hb),fun e=>af.dU pX.o gY.o.box (by decide) (e▸hb),fun e=>af.dU pX.o pW.o (by decide) (e▸hb),fun e=>pO (by decide) wy pX.o b e hb⟩;have kU:∀k,k<w2.heap.size->ownB (.slice na nn nc)≠some k->w4.heap[k]?=w2.heap[k]?:=fun k hk hn=>(az.grown.block k (by simp;omega) (fun e=>hn e.symm)).trans (Lx _ _ _ hk);have sG:=zh ((kU gb (aD sF.o) (fun e=>(hkc _ e).1 rfl)).trans sF.o);have Bp:=zh ((kU rb (aD pW.o) (fun e=>(hkc _ e).2.2.1 rfl)).trans pW.o);have Jj:=zh ((kU g (aD gY.o.box) (fun e=>(hkc _ e).2.1 rfl)).trans gY.o.box);have Jk:=zh (af.kept wy (w':=w4) (fun b hb=>kU b (wy.lt b hb).2 (fun e=>(hkc b e).2.2.2 hb)));have lF:=az.size;have dH:=zh (az.below (HB2.o.alloc HB2.o.size (.cells #[.int .i64 ((aO (aZ (aK n) h) (l.take j)).1.length:Int)] 3)) (by have :=HB2.o.size;simp;omega) (fun b hb=>by have :=(pX.o.lt b hb).1;omega));refine⟨fun k hk hF ed=>⟨(az.grown.block gb (by have :=aD sF.o;simp;omega) (fun e=>(hkc _ e.symm).1 rfl)).trans (hF ed).1,(az.grown.block ee (aD (hF ed).2) (fun e=>af.dU (af.below pX.o ((zB _ _).alloc (zL _) _)) (hF ed).2 (by decide) e.symm)).trans (hF ed).2⟩,?_⟩;obtain⟨bN,bO,hv2, -, -⟩:=af.val gN.o;rw[bA,dW]at hv2;subst hv2;clear hown2 az kU hkc wy;try simp only[zP]
      refine aM (i:=7) (by kernel_rfl) (aF rfl (by rfl) ?_);go_simp;refine⟨fun _ _ h=>h,?_⟩;obtain⟨y0,y1,y2,y3,yf⟩:=aW sG.o;have Dt:=aD sG.o;refine aM (i:=8) (by kernel_rfl) (aF rfl (by rfl) ?_);go_simp;refine⟨fun k hk _ h1=>?_,fU (by kernel_rfl) ?_ _⟩
      ·rcases h1 with h1|h1;·subst h1;exact absurd (show waits _ 8 1=true by kernel_rfl) (by rw[hk];decide)
       ·subst h1;exact absurd (show waits _ 8 3=true by kernel_rfl) (by rw[hk];decide)
      go_wp2_with fail;go_roundw;case rel=>
       have hgl:(aO (aZ (aK n) h) (l.take j)).2.length+1=((aO (aZ (aK n) h) (l.take j)).2++[((aO (aZ (aK n) h) (l.take j)).1.length:Int)]).length:=by simp
       refine⟨j+1,ky,.slice bN ((aO (aZ (aK n) h) (l.take j)).2.length+1) bO,by omega,by go_num,?_⟩;rw[fF iJ.o,Sd,<-HT.o];refine⟨dH.o.setCell (by simp only;omega) _,⟨?_,?_,gY.o.lt,gY.o.len,?_⟩,(bI sG.o 3 _).trans rfl,?_,?_,hgw,Sj,hne1,hne2,zt⟩;·rw[bC _ _ _ _ (by simp only;exact fun e=>hne1 e.symm)];exact Jj.o
       ·exact af.kept Jk.o (fun b hb=>bC _ _ _ _ (by simp only;exact fun e=>af.dU Jk.o sG.o (by decide) (e▸hb)))
       ·have :=aD Jj.o;simp;omega
       ·exact af.kept gN.o (fun b hb=>bC _ _ _ _ (by simp only;exact fun e=>af.dU gN.o sG.o (by decide) (e▸hb)))
       ·rw[bC _ _ _ _ (by simp only;exact zt)];exact Bp.o
      case measure=>first|(simp[intOf];done)|(simp[intOf];omega)
     ·have dm:j=l.length:=by omega
      subst dm;have hlt':¬((l.length:Int)<(l.length:Int)):=by omega
      obtain⟨ca,cc,rfl,hcl,hcm⟩:=af.val hmk.own;obtain⟨m0,mf⟩:=su hmk.box;obtain⟨y0,y1,y2,y3,yf⟩:=aW nL;obtain⟨r0,r1,r2,r3,rf⟩:=aW hres;have hgg:=aD hmk.box;have hrr:=aD hres;clear hlt hbel hmk nL hown hres Jh;rw[jW]at CD;have hxl:(aO (aZ (aK n) h) (l.take l.length)).1=(aO (aZ (aK n) h) l).1:=by rw[jW]
      have hgl:(aO (aZ (aK n) h) (l.take l.length)).2=(aO (aZ (aK n) h) l).2:=by rw[jW]
      rw[hxl]at m0 hcl;rw[hgl]at y3 hnl;clear hxl hgl;obtain⟨X,hX⟩:∃X,X=aO (aZ (aK n) h) l:=⟨_,rfl⟩;rw[<-hX]at m0 hcl y3 hnl CD;have HX:=zh hX;clear hX;go_wp2_with fail;have hch:Ch (fun b=>b=gb\/b=rb) wr wr:=Ch.refl _ _;have bD:=(((((hch.setCell (p:=⟨gb,0,none⟩) (.inl (.inl rfl)) (.slice ca X.1.length cc)).setCell (p:=⟨rb,0,none⟩) (.inl (.inr rfl)) (.slice ca X.1.length cc)).setCell (p:=⟨rb,1,none⟩) (.inl (.inr rfl)) (.int .i64 (n:Int))).setCell (p:=⟨rb,2,none⟩) (.inl (.inr rfl)) (.int .i64 (n:Int))).setCell (p:=⟨rb,3,none⟩) (.inl (.inr rfl)) (.slice na X.2.length nc));have Sk:¬gb=rb:=fun e=>zt e.symm;have c1:=CD.out.mkr.own;have c2:=CD.out.own;have c3:=CD.out.box;have c4:=CD.out.res;have Du:=Ch.below (Ch.trans (Ch.of_below (M:=fun b=>b=gb\/b=rb) CD.out.ku) bD (fun _ h=> .inl h)) (fun k hk e=>by omega);refine cK (v:= .tuple #[.agg #[.slice ca X.1.length cc,.int .i64 (n:Int),.int .i64 (n:Int),.slice na X.2.length nc],.int .i64 0]) (by simp[results,Tryz.results31,go_sem,hcs,r0,r1,r2,r3,y0,y1,y2,y3,zt,Sk];try rfl) rfl ?_;rw[Dp.o];have Sl:=pU.o;rw[<-HX.o]at Sl;refine Pure.mk Du ⟨_,_,rfl,?_,?_⟩
      ·show pI _ _ (aO (aZ (aK n) h) l).1 _;rw[<-HX.o];exact af.sl Ce.jD Ce.yR (af.kept c1 (fun b hb=>bD.block b (c1.lt b hb).2 (fun e=>by
        rcases e with e|e;·exact af.dU c1 c3 (by decide) (e▸hb)
        ·exact af.dU c1 c4 (by decide) (e▸hb)))) (by omega) (fun b hb=>by have :=(c1.lt b hb).1;unfold New;omega)
      ·show fI _ _ (aO (aZ (aK n) h) l).2 _;rw[<-HX.o];have hl2:=vY l (aZ (aK n) h);rw[<-HX.o]at hl2;exact af.sl dO xx (af.kept c2 (fun b hb=>bD.block b (c2.lt b hb).2 (fun e=>by
        rcases e with e|e;·exact af.dU c2 c3 (by decide) (e▸hb)
        ·exact af.dU c2 c4 (by decide) (e▸hb)))) (by omega) (fun b hb=>by have :=(c2.lt b hb).1;unfold New;omega)
def Laid (L : List Ce) (g : Int → Int) : Int → Tm → Prop
  | a, .mk k n s l => ∃ x, Looks L a x ∧ ((k = 0 ∧ l = [] ∧ s = .empty ∧ x = g n ∧ (cellAt L x).kind = 0) ∨ (k = 1 ∧ l = [] ∧ n = 0 ∧ cellAt L x = ⟨1, 0, s⟩) ∨ (k = 2 ∧ l = [] ∧ s = .empty ∧ cellAt L x = ⟨2, n, .empty⟩) ∨
      (k = 3 ∧ n = 0 ∧ cellAt L x = ⟨3, (l.length : Int), s⟩ ∧ qQ L g (x + 1) l))
where qQ (L : List Ce) (g : Int → Int) : Int → List Tm → Prop
  | _, [] => True
  | a, t :: r => Laid L g a t ∧ qQ L g (a + 1) r
def Agree(L c:List Ce)(k lo hi:Nat)(m:Nat):Prop:=∀i,((k<=i/\i<k+m)\/lo<=i)->i<hi->L[i]?=c[i]?
theorem aaE:∀(t:Tm)(c:List Ce)(k i:Nat),i<c.length->i≠k->(dG c k t)[i]?=c[i]?:=by
 intro t;induction t using Tm.induct with
  |h kd n s l ih=>
   intro c k i hi hne;have hL:∀(r:List Tm),(∀t∈r,t∈l)->∀(c:List Ce)(k i:Nat),i<c.length->(i<k\/k+r.length<=i)->(eG c k r)[i]?=c[i]?:=by intro r;induction r with|nil=>intro _ c k i _ _;rfl|cons x r ihr=>intro hm c k i hi hne;simp only[eG,bn]at hne ⊢;rw[ihr (fun t ht=>hm t (nU _ ht)) _ (k+1) i (by have :=(Di x c k).1;omega) (by omega)];exact ih x (hm x (mY ..)) c k i hi (by omega)
   simp only[dG];repeat' split
   ·exact Qd (EA hne)
   ·exact Qd (EA hne)
   ·exact Qd (EA hne)
   ·rw[hL l (fun _ h=>h) _ _ i (by simp;omega) (by omega),tV (by simpa using hi)];exact Qd (EA hne)
   ·rfl
theorem Bq:∀(r:List Tm)(c:List Ce)(k i:Nat),i<c.length->(i<k\/k+r.length<=i)->(eG c k r)[i]?=c[i]?|[],_,_,_,_,_=>rfl|x::r,c,k,i,hi,hne=>by simp only[eG,bn]at hne ⊢;rw[Bq r _ (k+1) i (by have :=(Di x c k).1;omega) (by omega)];exact aaE x c k i hi (by omega)
def Br(L:List Ce)(v:Nat):Prop:=∀i,i<v->L[i]?=some ⟨0,(i:Int),.empty⟩
theorem wB{L:List Ce}{i:Nat}{c:Ce}(h:L[i]?=some c):cellAt L (i:Int)=c/\Inb L (i:Int):=by have hl:i<L.length:=(iO.1 h).1;unfold cellAt Inb;rw[dB,h];exact⟨rfl,by omega,by omega⟩
theorem aaF(v:Nat):∀(t:Tm)(c:List Ce)(k:Nat)(L:List Ce),t.Good (v:Int)->k<c.length->v<=k->Br L v->Agree L (dG c k t) k c.length (dG c k t).length 1->Laid L id (k:Int) t:=by
 intro t;induction t using Tm.induct with
  |h kd n s l ih=>
   intro c k L hg hk hv hva hag;have hL:∀(r:List Tm),(∀t∈r,t∈l)->(∀t∈r,t.Good (v:Int))->∀(c:List Ce)(k:Nat),k+r.length<=c.length->v<=k->Agree L (eG c k r) k c.length (eG c k r).length r.length->Laid.qQ L id (k:Int) r:=by
    intro r;induction r with
     |nil=>intro _ _ c k _ _ _;simp only[Laid.qQ]
     |cons x r ihr=>
      intro hm hgr c k hkl hv hag;simp only[bn]at hkl hag;simp only[eG]at hag;have h1:=Di x c k;have h2:=uG r (dG c k x) (k+1);simp only[Laid.qQ];refine⟨ih x (hm x (mY ..)) c k L (hgr x (mY ..)) (by omega) hv hva (fun i hi hil=>?_),?_⟩;·rw[hag i (by omega) (by omega)];exact Bq r _ _ i hil (by omega)
      ·have :=ihr (fun t ht=>hm t (nU _ ht)) (fun t ht=>hgr t (nU _ ht)) (dG c k x) (k+1) (by omega) (by omega) (fun i hi hil=>hag i (by omega) (by omega));rw[show((k+1:Nat):Int)=(k:Int)+1 by omega]at this;exact this
   have hk0:=hag k (by omega) (by have :=(Di (.mk kd n s l) c k).1;omega);cases hg with
    |var _ h0 h1=>obtain⟨m,rfl⟩:=eu h0;simp only[dG,if_true]at hk0;rw[Qa hk]at hk0;obtain⟨e1,e2⟩:=wB hk0;obtain⟨e3,e4⟩:=wB (hva m (by omega));rw[Laid];refine⟨(m:Int),.next e2 (fun hs=>?_) (by rw[e1];exact .stop e4 (.inr (by rw[e3]))),.inl ⟨rfl,rfl,rfl,rfl,by rw[e3]⟩⟩;unfold Stop at hs;rw[e1]at hs;simp at hs;omega
    |atom _ h=>simp[dG]at hk0;rw[Qa hk]at hk0;obtain⟨e1,e2⟩:=wB hk0;rw[Laid];exact⟨(k:Int),.stop e2 (.inl (by rw[e1];simp)),.inr (.inl ⟨rfl,rfl,rfl,e1⟩)⟩
    |int _ h0 h1=>simp[dG]at hk0;rw[Qa hk]at hk0;obtain⟨e1,e2⟩:=wB hk0;rw[Laid];exact⟨(k:Int),.stop e2 (.inl (by rw[e1];simp)),.inr (.inr (.inl ⟨rfl,rfl,rfl,e1⟩))⟩
    |comp _ _ h h1 h2 h3 h4=>
     have hp:dG c k (.mk 3 0 s l)=eG (c.set k ⟨0,(c.length:Int),.empty⟩++⟨3,(l.length:Int),s⟩::List.replicate l.length ⟨0,0,.empty⟩) (c.length+1) l:=by simp[dG]
     rw[hp]at hag hk0;have hlen:=uG l (c.set k ⟨0,(c.length:Int),.empty⟩++⟨3,(l.length:Int),s⟩::List.replicate l.length ⟨0,0,.empty⟩) (c.length+1);simp only[bA,vC,bn,yz]at hlen;rw[Bq l _ _ k (by simp;omega) (by omega),tV (by simpa using hk),Qa hk]at hk0;have hf0:=hag c.length (by omega) (by omega);rw[Bq l _ _ c.length (by simp) (by omega),vw (by simp)]at hf0;simp only[vC,Nat.sub_self,xm]at hf0;obtain⟨e1,e2⟩:=wB hk0;obtain⟨e3,e4⟩:=wB hf0;rw[Laid];refine⟨(c.length:Int),.next e2 (fun hs=>?_) (by rw[e1];exact .stop e4 (.inl (by rw[e3];simp))),.inr (.inr (.inr ⟨rfl,rfl,e3,?_⟩))⟩;·unfold Stop at hs;rw[e1]at hs;simp at hs;omega
     ·have :=hL l (fun _ h=>h) h4 (c.set k ⟨0,(c.length:Int),.empty⟩++⟨3,(l.length:Int),s⟩::List.replicate l.length ⟨0,0,.empty⟩) (c.length+1) (by simp;omega) (by omega) (fun i hi hil=>hag i (by simp only[bA,vC,bn,yz]at hi;omega) hil);rw[show((c.length+1:Nat):Int)=(c.length:Int)+1 by omega]at this;exact this
theorem aaG(v:Nat)(L:List Ce)(hva:Br L v):∀(r:List Tm)(c:List Ce)(k:Nat),(∀t∈r,t.Good (v:Int))->k+r.length<=c.length->v<=k->Agree L (eG c k r) k c.length (eG c k r).length r.length->Laid.qQ L id (k:Int) r
 |[],_,_,_,_,_,_=>by simp only[Laid.qQ]
 |x::r,c,k,hgr,hkl,hv,hag=>by
  simp only[bn]at hkl hag;simp only[eG]at hag;have h1:=Di x c k;have h2:=uG r (dG c k x) (k+1);simp only[Laid.qQ];refine⟨aaF v x c k L (hgr x (mY ..)) (by omega) hv hva (fun i hi hil=>?_),?_⟩;·rw[hag i (by omega) (by omega)];exact Bq r _ _ i hil (by omega)
  ·have :=aaG v L hva r (dG c k x) (k+1) (fun t ht=>hgr t (nU _ ht)) (by omega) (by omega) (fun i hi hil=>hag i (by omega) (by omega));rw[show((k+1:Nat):Int)=(k:Int)+1 by omega]at this;exact this
theorem aaH(t:Tm)(c:List Ce)(i:Nat)(hi:i<c.length):(aZ c t)[i]?=c[i]?:=by
 unfold aZ;split;·obtain⟨k,n,s,l⟩:=t;rw[uF,Bq l _ _ i (by simp;omega) (by omega),tV hi]
 ·rw[aaE t _ _ i (by simp;omega) (by omega),tV hi]
theorem aaI(v:Nat)(t:Tm)(c L:List Ce)(hg:t.Good (v:Int))(hv:v<=c.length)(hva:Br L v)(hag:∀i,c.length<=i->i<(aZ c t).length->L[i]?=(aZ c t)[i]?):Laid L id (c.length:Int) t:=by
 by_cases h3:t.kind=3
 ·obtain⟨kd,n,s,l⟩:=t;simp only[Tm.kind]at h3;subst h3;have hp:aZ c (.mk 3 n s l)=eG (c++⟨3,(l.length:Int),s⟩::List.replicate l.length ⟨0,0,.empty⟩) (c.length+1) l:=by simp[aZ,Tm.kind,uF]
  rw[hp]at hag;have hlen:=uG l (c++⟨3,(l.length:Int),s⟩::List.replicate l.length ⟨0,0,.empty⟩) (c.length+1);simp only[bA,bn,yz]at hlen;have hf0:=hag c.length (zL _) (by omega);rw[Bq l _ _ c.length (by simp) (by omega),vw (zL _)]at hf0;simp only[Nat.sub_self,xm]at hf0;obtain⟨e3,e4⟩:=wB hf0;cases hg with|comp _ _ h h1 h2 h3 h4=>rw[Laid];refine⟨(c.length:Int),.stop e4 (.inl (by rw[e3];simp)),.inr (.inr (.inr ⟨rfl,rfl,e3,?_⟩))⟩;have :=aaG v L hva l (c++⟨3,(l.length:Int),s⟩::List.replicate l.length ⟨0,0,.empty⟩) (c.length+1) h4 (by simp;omega) (by omega) (fun i hi hil=>hag i (by simp only[bA,bn,yz]at hi;omega) hil);rw[show((c.length+1:Nat):Int)=(c.length:Int)+1 by omega]at this;exact this
 ·rw[aZ,ae h3]at hag;refine aaF v t (c++[⟨0,0,.empty⟩]) c.length L hg (by simp) hv hva (fun i hi hil=>hag i (by simp only[bA,dW]at hi;omega) hil)
theorem Fz:∀(l:List Tm)(c:List Ce)(i:Nat),i<c.length->(aO c l).1[i]?=c[i]?|[],_,_,_=>rfl|x::r,c,i,hi=>by simp only[aO];rw[Fz r (aZ c x) i (by have :=(Je x c).1;omega)];exact aaH x c i hi
theorem Sw(v:Nat)(L:List Ce)(hva:Br L v):∀(l:List Tm)(c:List Ce),(∀t∈l,t.Good (v:Int))->v<=c.length->(∀i,c.length<=i->i<(aO c l).1.length->L[i]?=(aO c l).1[i]?)->∀(j:Nat)(hj:j<l.length),∃a,(aO c l).2[j]?=some a/\Laid L id a l[j]|[],_,_,_,_,j,hj=>by simp at hj|x::r,c,hg,hv,hag,j,hj=>by simp only[aO]at hag ⊢;have h1:=Je x c;have h2:=Bo r (aZ c x);cases j with|zero=>refine⟨(c.length:Int),rfl,aaI v x c L (hg x (mY ..)) hv hva (fun i hi hil=>?_)⟩;rw[hag i hi (by omega)];exact Fz r _ i hil|succ j=>obtain⟨a,e,ha⟩:=Sw v L hva r (aZ c x) (fun t ht=>hg t (nU _ ht)) (by omega) (fun i hi hil=>hag i (by omega) hil) j (by simpa using hj);exact⟨a,by simpa using e,by simpa using ha⟩
section
variable {H F : List Ce}
theorem Bt{a:Int}(h:Inb F a):cellAt (H++F.map (dh H.length)) (a+(H.length:Int))=dh H.length (cellAt F a)/\Inb (H++F.map (dh H.length)) (a+(H.length:Int)):=by
 obtain⟨h0,h1⟩:=h;obtain⟨k,rfl⟩:=eu h0;have hk:k<F.length:=by omega
 have h2:(H++F.map (dh H.length))[H.length+k]?=some (dh H.length F[k]):=by rw[vw (by omega),vB,Nat.add_sub_cancel_left,aS hk];rfl
 have h3:=wB h2;rw[show((H.length+k:Nat):Int)=(k:Int)+(H.length:Int)by omega]at h3;rw[iQ hk];exact h3
theorem FB(b:Nat)(c:Ce):(dh b c).kind=c.kind:=by unfold dh;split<;>rfl
theorem zw(b:Nat){c:Ce}(h:c.kind≠0):dh b c=c:=by unfold dh;rw[ae h]
theorem FC(b:Nat){c:Ce}(h:c.kind=0):(dh b c).n=c.n+b:=by unfold dh;rw[ah h]
theorem aks{a x:Int}(h:Looks F a x):Looks (H++F.map (dh H.length)) (a+(H.length:Int)) (x+(H.length:Int)):=by
 induction h with
  |@stop a0 h1 h2=>
   obtain⟨e1,e2⟩:=Bt (H:=H) h1;refine .stop e2 ?_;rcases h2 with h2|h2;·exact .inl (by rw[e1,FB];exact h2)
   ·by_cases hk:(cellAt F a0).kind=0;·exact .inr (by rw[e1,FC _ hk,h2])
    ·exact .inl (by rw[e1,FB];exact hk)
  |@next a0 x0 h1 h2 _ ih=>
   obtain⟨e1,e2⟩:=Bt (H:=H) h1;have hk:(cellAt F a0).kind=0:=Cq fun hk=>h2 (.inl hk);refine .next e2 (fun hs=>h2 ?_) (by rw[e1,FC _ hk];exact ih);rcases hs with hs|hs;·rw[e1,FB]at hs;exact .inl hs
   ·rw[e1,FC _ hk]at hs;exact .inr (by omega)
theorem aaJ:∀(t:Tm)(a:Int),Laid F id a t->Laid (H++F.map (dh H.length)) (fun n=>n+(H.length:Int)) (a+(H.length:Int)) t:=by
 intro t;induction t using Tm.induct with
  |h k n s l ih=>
   intro a h;have hL:∀(r:List Tm),(∀t∈r,t∈l)->∀a,Laid.qQ F id a r->Laid.qQ (H++F.map (dh H.length)) (fun n=>n+(H.length:Int)) (a+(H.length:Int)) r:=by intro r;induction r with|nil=>intro _ a _;simp only[Laid.qQ]|cons x r ihr=>intro hm a h;simp only[Laid.qQ]at h ⊢;refine⟨ih x (hm x (mY ..)) a h.1,?_⟩;have :=ihr (fun t ht=>hm t (nU _ ht)) _ h.2;rw[show a+1+(H.length:Int)=a+(H.length:Int)+1 by omega]at this;exact this
   rw[Laid]at h ⊢;obtain⟨x,hx,hc⟩:=h;obtain⟨e1,e2⟩:=Bt (H:=H) hx.end_.1;refine⟨x+(H.length:Int),aks hx,?_⟩;rcases hc with⟨h1,h2,h3,h4,h5⟩|⟨h1,h2,h3,h4⟩|⟨h1,h2,h3,h4⟩|⟨h1,h2,h3,h4⟩;·exact .inl ⟨h1,h2,h3,by rw[h4];rfl,by rw[e1,FB];exact h5⟩
   ·exact .inr (.inl ⟨h1,h2,h3,by rw[e1,zw _ (by rw[h4];simp),h4]⟩)
   ·exact .inr (.inr (.inl ⟨h1,h2,h3,by rw[e1,zw _ (by rw[h4];simp),h4]⟩))
   ·refine .inr (.inr (.inr ⟨h1,h2,by rw[e1,zw _ (by rw[h3];simp),h3],?_⟩));have :=hL l (fun _ h=>h) _ h4;rw[show x+1+(H.length:Int)=x+(H.length:Int)+1 by omega]at this;exact this
end
def l9(N:Nat)(c:List Ce):Prop:=∀(i:Nat)(x:Ce),c[i]?=some x->x.fo N i
theorem l9.set{N:Nat}{c:List Ce}{k:Nat}{x:Ce}(h:l9 N c)(hx:x.fo N k):l9 N (c.set k x):=by
 intro i y hy;rw[List.getElem?_set]at hy;split at hy
 ·rename_i e;subst e;split at hy;·simp only[cZ]at hy;subst hy;exact hx
  ·cases hy
 ·exact h i y hy
theorem l9.append{N:Nat}{c d:List Ce}(h:l9 N c)(hd:∀(i:Nat)(x:Ce),d[i]?=some x->x.fo N (c.length+i)):l9 N (c++d):=by
 intro i y hy;rw[List.getElem?_append]at hy;split at hy;·exact h i y hy
 ·rename_i hl;have :=hd _ _ hy;rwa[show c.length+(i - c.length)=i by omega]at this
theorem FD:ByteArray.empty.toList=[]:=Ew.1 (toList_nil.2 rfl)
theorem aaK{N i:Nat}(h:0<N):(⟨0,0,.empty⟩:Ce).fo N i:= .inl ⟨rfl,by simp,by simpa using h,FD⟩
theorem Sy{s:ByteArray}(h:AJ s):s.toList≠[]:=by
 intro e;have h1:=toList_nil.1 (by rw[e];rfl);subst h1;rcases h with h|⟨h, -⟩;·exact absurd h (by decide)
 ·exact absurd h (by decide)
theorem aaL{N:Nat}{c:List Ce}{s:ByteArray}{n:Nat}(h:l9 N c)(hs:s.toList≠[])(h1:1<=n)(h4:n<=4)(hN:c.length+1+n<=N):l9 N (c++⟨3,(n:Int),s⟩::List.replicate n ⟨0,0,.empty⟩):=by
 refine h.append fun i x hx=>?_;cases i with
  |zero=>simp only[xm,cZ]at hx;subst hx;exact .inr (.inr (.inr ⟨rfl,by simp only;omega,by simp only;omega,by simp only;omega,hs⟩))
  |succ i=>
   simp only[List.getElem?_cons_succ,P9]at hx;split at hx;·simp only[cZ]at hx;subst hx;exact aaK (by omega)
   ·cases hx
theorem aaM{v N:Nat}(zx:v<=N):∀(t:Tm)(c:List Ce)(k:Nat),t.Good (v:Int)->l9 N c->(dG c k t).length<=N->l9 N (dG c k t):=by
 intro t;induction t using Tm.induct with
  |h kd n s l ih=>
   intro c k hg hc hN;have hL:∀(r:List Tm),(∀t∈r,t∈l)->(∀t∈r,t.Good (v:Int))->∀(c:List Ce)(k:Nat),l9 N c->(eG c k r).length<=N->l9 N (eG c k r):=by intro r;induction r with|nil=>intro _ _ c k h _;exact h|cons x r ihr=>intro hm hgr c k h hN;simp only[eG]at hN ⊢;have h2:=(uG r (dG c k x) (k+1)).1;exact ihr (fun t ht=>hm t (nU _ ht)) (fun t ht=>hgr t (nU _ ht)) _ _ (ih x (hm x (mY ..)) c k (hgr x (mY ..)) h (by omega)) hN
   cases hg with
    |var _ h0 h1=>simp only[dG,if_true];exact hc.set (.inl ⟨rfl,h0,by simp only;omega,FD⟩)
    |atom _ h=>simp[dG];exact hc.set (.inr (.inl ⟨rfl,rfl,Sy h⟩))
    |int _ h0 h1=>simp[dG];exact hc.set (.inr (.inr (.inl ⟨rfl,FD⟩)))
    |comp _ _ h h1 h2 h3 h4=>
     have hp:dG c k (.mk 3 0 s l)=eG (c.set k ⟨0,(c.length:Int),.empty⟩++⟨3,(l.length:Int),s⟩::List.replicate l.length ⟨0,0,.empty⟩) (c.length+1) l:=by simp[dG]
     rw[hp]at hN ⊢;have hlen:=(uG l (c.set k ⟨0,(c.length:Int),.empty⟩++⟨3,(l.length:Int),s⟩::List.replicate l.length ⟨0,0,.empty⟩) (c.length+1)).1;simp only[bA,vC,bn,yz]at hlen;refine hL l (fun _ h=>h) h4 _ _ (aaL (hc.set (.inl ⟨rfl,by simp only;omega,by simp only;omega,FD⟩)) (Sy h) h2 h3 (by simp;omega)) hN
theorem aaN{v N:Nat}(zx:v<=N):∀(r:List Tm)(c:List Ce)(k:Nat),(∀t∈r,t.Good (v:Int))->l9 N c->(eG c k r).length<=N->l9 N (eG c k r)|[],_,_,_,h,_=>h|x::r,c,k,hgr,h,hN=>by simp only[eG]at hN ⊢;have h2:=(uG r (dG c k x) (k+1)).1;exact aaN zx r _ _ (fun t ht=>hgr t (nU _ ht)) (aaM zx x c k (hgr x (mY ..)) h (by omega)) hN
theorem aaO{v N:Nat}(zx:v<=N)(t:Tm)(c:List Ce)(hg:t.Good (v:Int))(hc:l9 N c)(hN:(aZ c t).length<=N)(h0:0<N):l9 N (aZ c t):=by
 by_cases h3:t.kind=3
 ·obtain⟨kd,n,s,l⟩:=t;simp only[Tm.kind]at h3;subst h3;have hp:aZ c (.mk 3 n s l)=eG (c++⟨3,(l.length:Int),s⟩::List.replicate l.length ⟨0,0,.empty⟩) (c.length+1) l:=by simp[aZ,Tm.kind,uF]
  rw[hp]at hN ⊢;have hlen:=(uG l (c++⟨3,(l.length:Int),s⟩::List.replicate l.length ⟨0,0,.empty⟩) (c.length+1)).1;simp only[bA,bn,yz]at hlen;cases hg with|comp _ _ h h1 h2 h3 h4=>exact aaN zx l _ _ h4 (aaL hc (Sy h) h2 h3 (by omega)) hN
 ·rw[aZ,ae h3]at hN ⊢;refine aaM zx t _ _ hg (hc.append fun i x hx=>?_) hN;cases i with|zero=>simp only[xm,cZ]at hx;subst hx;exact aaK h0|succ i=>simp at hx
theorem Sz{v N:Nat}(zx:v<=N)(h0:0<N):∀(l:List Tm)(c:List Ce),(∀t∈l,t.Good (v:Int))->l9 N c->(aO c l).1.length<=N->l9 N (aO c l).1|[],_,_,h,_=>h|x::r,c,hg,h,hN=>by simp only[aO]at hN ⊢;have h2:=(Bo r (aZ c x)).1;exact Sz zx h0 r _ (fun t ht=>hg t (nU _ ht)) (aaO zx x c (hg x (mY ..)) h (by omega) h0) hN
theorem aaP{n N:Nat}(h:n<=N):l9 N (aK n):=by intro i x hx;have hi:=(iO.1 hx).1;rw[jI]at hi;simp only[aK,vB,XE hi,nV,cZ]at hx;subst hx;exact .inl ⟨rfl,by simp,by simp only;omega,FD⟩
theorem aaQ(n:Nat):Br (aK n) n:=fun i hi=>by simp[aK,XE hi]
