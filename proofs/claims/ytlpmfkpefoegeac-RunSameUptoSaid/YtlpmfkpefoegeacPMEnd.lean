import Derived.Test.YtlpmfkpefoegeacPMVis
import Derived.Test.YtlpmfkpefoegeacPProve2
namespace Go.Proofs.Ytlpmfkpefoegeac
set_option maxRecDepth 100000
set_option maxHeartbeats 16000000
set_option linter.all false
theorem ZfY{P:List Cl}{q:Nat}{s s':Sv}(h:SvOk P s)(e:ZaV q s=(true,s')):SvOk P s'/\s'.out.length=s.out.length+1/\s'.out.length<=11/\s'.vars=s.vars:=by
 unfold ZaV at e;split at e;·simp at e
 ·simp only at e;split at e;·simp at e
  ·rename_i hlt;simp only[Prod.mk.injEq,true_and]at e;subst e;obtain⟨h1,h2,h3,h4,h5,h6,h7,h8⟩:=h;simp only[List.length_append,List.length_singleton]at hlt ⊢;exact⟨⟨h1,h2,h3,h4,h5,h6,h7,h8⟩,trivial,by omega,trivial⟩
theorem Zev{P:List Cl}:∀(cs:List Cm)(m:Mv),(Zcf P cs m).1≠ .no
 |[],m=>by rw[Zcf];simp
 |c::cs,m=>by
  rw[Zcf];have ih:=Zev (P:=P) cs;split;·exact ih _
  ·rename_i r hne;generalize Zbl P c.goal (ZaK m c.goal) (P.length - c.from_) c.from_ {m with choices:=cs,h:=(ZhQ (ZdL m.h (c.trail:Int)).1 (c.top:Int)).1}=r at*;obtain⟨a,b⟩:=r;intro e;simp only at e;subst e;exact hne b rfl
theorem Zld{P:List Cl}(m:Mv):(Zcr P m).1≠ .no:=by
 unfold Zcr;split;·simp
 ·simp only;split
  ·split;·simp
   ·simp
   ·exact Zev _ _
  ·split;·simp
   ·split;·exact Zev _ _
    ·rename_i hne;intro e;exact hne _ (Prod.ext e rfl)
theorem Zit{P:List Cl}{q:Nat}(m:Mv):(ZbD P q m).1≠ .no:=by
 unfold ZbD;split;·simp
 ·simp only;split;·simp
  ·exact Zev _ _
theorem Ziu{P:List Cl}{q:Nat}(hP:GoodP P)(fuel every:Int):∀(n:Nat)(m:Mv)(s:Sv)(gl:List Gl),Sim P q m s gl->(q:Int)<=s.vars->s.out.length<=11->(ZjT P q fuel every n m).out=(Ze3 P q n gl s).out
 |0,m,s,gl,S,_,_=>by rw[ZjT,Ze3];exact S.sim.out
 |n+1,m,s,[],S,hqv,hout=>by
  have hnow:m.now<0:=by obtain⟨φ, -, -,h⟩:=S.sim.cur;have :m.now= -1:=h;omega
  rw[ZjT,Ze3,if_pos hnow];have hA:=Zgk hP S hqv hout;have hok2:=fun s'(e:ZaV q s=(true,s'))=>ZfY S.ok e;have hyes:=Zit (P:=P) (q:=q) m;generalize ZbD P q m=rm at*;obtain⟨ra,m'⟩:=rm;cases ha:ZaV q s with|mk b s'=>rw[ha]at hA hok2;cases b with
   |false=>simp only at hA ⊢;cases ra with|next=>exact hA.elim|no=>exact hA.elim|off=>exact hA
   |true=>simp only at hA ⊢;obtain⟨a1,a2,a3,a4⟩:=hok2 s' rfl;have hbn:=fun s'' gl(e:Zbj P s'.choices s'=(.next gl,s''))=>Zcj s'.choices s' s'' gl a1 e;generalize Zbj P s'.choices s'=rs at*;obtain⟨rb,s''⟩:=rs;cases ra with
    |next=>cases rb with|next gl=>obtain⟨b1,b2,b3,b4,b5⟩:=hbn s'' gl rfl;exact Ziu hP fuel every n m' s'' gl ⟨b1,b2,hA⟩ (by omega) (by rw[b4];exact a3)|no=>exact hA.elim|off=>exact hA.elim
    |no=>cases rb with|next gl=>exact hA.elim|no=>exact absurd rfl hyes|off=>exact hA.elim
    |off=>cases rb with|next gl=>exact hA.elim|no=>exact hA.elim|off=>exact hA
 |n+1,m,s,g::rest,S,hqv,hout=>by
  have hnow:¬m.now<0:=by obtain⟨φ, -, -,k,h, -⟩:=S.sim.cur;omega
  rw[ZjT,Ze3,if_neg hnow];have S2:Sim P q (if every>0/\(fuel - m.fuel)%every=0 then ZbQ q m else m) s (g::rest):=by
   split;·exact ZfU S
   ·exact S
  generalize(if every>0/\(fuel - m.fuel)%every=0 then ZbQ q m else m)=m2 at*;have hA:=Zjl hP S2 hqv;have hsn:=fun s' gl(e:ZbC P g rest s=(.next gl,s'))=>ZeC S.ok S.gls e;have hyes:=Zld (P:=P) m2;generalize Zcr P m2=rm at*;generalize ZbC P g rest s=rs at*;obtain⟨ra,m'⟩:=rm;obtain⟨rb,s'⟩:=rs;cases ra with
   |next=>cases rb with|next gl=>obtain⟨b1,b2,b3,b4,b5⟩:=hsn s' gl rfl;exact Ziu hP fuel every n m' s' gl ⟨b1,b2,hA⟩ (by omega) (by rw[b4];exact hout)|no=>exact hA.elim|off=>exact hA.elim
   |no=>cases rb with|next gl=>exact hA.elim|no=>exact absurd rfl hyes|off=>exact hA.elim
   |off=>cases rb with|next gl=>exact hA.elim|no=>exact hA.elim|off=>exact hA
theorem ZfZ{Q:List Tm}{n:Nat}(hg:ZbZ Q (n:Int))(F:List Ce)(hF:F=(Zam (ZaM n) Q).1):F.length<=296/\n<=F.length/\GoodC F/\ZeZ F n/\NF n F/\∀(j:Nat)(hj:j<Q.length),∃a:Nat,(Zam (ZaM n) Q).2[j]?=some (a:Int)/\Laid F id (a:Int) Q[j]/\F[a]?=some ⟨Q[j].kind,(Q[j].args.length:Int),Q[j].s⟩:=by
 obtain⟨v0,v8,l5,lg⟩:=hg;have hnd:=Zdn Q (fun g hg=>(lg g hg).2.2);have h2:=Zbu Q (ZaM n);rw[ZaL,<-hF]at h2;have hlg:∀t∈Q,t.Good (n:Int):=fun t ht=>(lg t ht).2.1;have hva:ZeZ F n:=fun i hi=>by rw[hF,Zcm Q _ i (by rw[ZaL];exact hi)];exact ZhC n i hi
 obtain⟨n3,n4⟩:=Zfi n Q (ZaM n) (fun t ht=>⟨(lg t ht).1,hlg t ht⟩) (Zio n) (by rw[ZaL];exact zL _);have hla:=ZeJ n F hva Q (ZaM n) hlg (by rw[ZaL];exact zL _) (fun i hi hil=>by rw[hF]);rw[<-hF]at n3 n4;refine⟨by omega,h2.1,?_,hva,n3,fun j hj=>?_⟩
 ·by_cases h0:F.length=0;·intro i hi;omega
  ·have hok:=ZeK (v:=n) (N:=F.length) h2.1 (by omega) Q (ZaM n) hlg (ZkW h2.1) (by rw[<-hF];exact zL _);rw[<-hF]at hok;intro i hi;exact hok i _ (List.getElem?_eq_getElem hi)
 ·obtain⟨a,e1,e2⟩:=n4 j hj;obtain⟨a',f1,f2⟩:=hla j hj;rw[e1]at f1;obtain rfl:=Option.some.inj f1;exact⟨a,e1,f2,e2⟩
theorem Ziv{v:Int}{t:Tm}(h:t.Good v)(hv:v<=8):ZaH t 0=t:=by
 unfold ZaH;induction h with
  |var n h0 h1=>simp[Tm.ren,Tm.renL,Zf6 h0 (show n<1099511627776 by omega),Zf6 (show(0:Int)<=0 by omega) (show(0:Int)<1099511627776 by omega)]
  |atom s h=>simp[Tm.ren,Tm.renL]
  |int n h0 h1=>simp[Tm.ren,Tm.renL]
  |comp s l h h1 h2 h3 _ ih=>
   simp only[Tm.ren,Tm.renL_map,show ¬((3:Int)=0)by decide,if_false,Tm.mk.injEq,true_and];conv=>rhs;rw[<-List.map_id l]
   exact List.map_congr_left fun x hx=>ih x hx
theorem ZhM{P:List Cl}{Q:List Tm}{n f:Nat}(hP:GoodP P)(hQ:ZbZ Q (n:Int))(hf:f<=150):Sim P n (Zdp Q (n:Int) f) ⟨[],[],(n:Int),f,[]⟩ (Q.map fun t=>⟨t,0⟩):=by
 obtain⟨hok,hgl⟩:=ZiX (f:=f) hP hQ hf;refine⟨hok,hgl,?_⟩;obtain⟨F,hF⟩:∃F,F=(Zam (ZaM n) Q).1:=⟨_,rfl⟩;obtain⟨b1,b2,b3,b4,b5,b6⟩:=ZfZ hQ F hF;have hcells:(Zaz Q (n:Int)).cells=F:=by rw[hF];simp[Zaz]
 have hgoals:(Zaz Q (n:Int)).goals=(Zam (ZaM n) Q).2:=by simp[Zaz]
 have h0g:Hp.Good ⟨[],[]⟩:=⟨fun i hi=>by simp at hi,fun j hj=>by simp at hj,by simp,by simp⟩;have hld:=ZgT (h:=⟨[],[]⟩) (F:=F) h0g b3 (by simp only[List.length_nil];omega);have hg1:=ZfO (h:=⟨[],[]⟩) (F:=F) h0g b3 (by simp only[List.length_nil];omega);simp only[List.length_nil,Int.natCast_zero]at hld hg1;have hM0:Mon 0 [] (fun x=>x) []:=⟨fun x y hx=>by have :=hx.1;unfold Inb at this;simp at this;omega,fun x hx=>by have :=hx.1;unfold Inb at this;simp at this;omega,fun x _=>rfl⟩;have hM1:=ZgR hM0 (EnvOk.nil 0) (Int.le_refl _) b5;rw[Int.zero_add]at hM1;simp only[List.length_nil]at hM1;have hφ:∀k:Int,0<=k->k<(n:Int)->ZfP [] 0 (fun x=>x) (k+0)=0+k:=fun k h0 h1=>by unfold ZfP;simp only[List.length_nil];rw[if_neg (by omega)];omega
 have tell:∀(t:Tm)(a:Int),t.Good (n:Int)->Laid F id a t->Hr ([]++F.map (shC 0)) (ZfP [] 0 (fun x=>x)) [] (fun _=>True) (0+a) t:=fun t a ht ha=>by have h1:=Zgd (H:=[]) t a ha;have :=ZkX (v:=(n:Int)) (φ:=ZfP [] 0 (fun x=>x)) (EnvOk.nil 0) (Int.le_refl _) (by omega) hQ.2.1 hφ t _ ht h1;rw[Ziv ht hQ.2.1,Int.add_comm]at this;exact this
 have hgat:∀(j:Nat)(hj:j<Q.length),∃a,(Zam (ZaM n) Q).2[j]?=some a/\GoalAt (n:Int) ([]++F.map (shC 0)) (ZfP [] 0 (fun x=>x)) [] (0+a) Q[j]:=fun j hj=>by obtain⟨a,e1,e2,e3⟩:=b6 j hj;have hgj:=hQ.2.2.2 _ (List.getElem_mem hj);obtain⟨c1,c2⟩:=Za4 e3;obtain⟨d1,d2⟩:=Zbi (H:=[]) c2;rw[c1,Zch _ (by simpa using IsGoal.ne hgj.1),Int.add_comm]at d1;rw[Int.add_comm]at d2;exact⟨(a:Int),e1,d2,d1,hgj.1,hgj.2.1,tell _ _ hgj.2.1 e2⟩
 have hlg:=Za2 Q (ZaM n);obtain⟨p1,p2,p3⟩:=ZeL (N:=(n:Int)) (base:=0) (bar:=0) (gs0:=[]) (nx:= -1) (rest:=[]) (by show(-1:Int)= -1;rfl) (Zam (ZaM n) Q).2 Q hlg hgat;rw[List.append_nil]at p1;have hb:Zdp Q (n:Int) f={h:=⟨[]++F.map (shC 0),[]⟩,goals:=(Za6 0 0 (Zam (ZaM n) Q).2 [] (-1)).1,choices:=[],now:=(Za6 0 0 (Zam (ZaM n) Q).2 [] (-1)).2,query:=0,fuel:=f,out:=[]}:=by unfold Zdp;simp only[hcells,hgoals,hld]
 rw[hb];refine⟨hg1,rfl,rfl,by simp,⟨_,hM1,fun v hv=>?_,p1⟩,trivial,?_,by simp,?_⟩;·have h1:=b4 v hv;obtain⟨c1,c2⟩:=Za4 h1;obtain⟨d1,d2⟩:=Zbi (H:=[]) c2;simp only[List.length_nil,Int.natCast_zero,Int.add_zero]at d1 d2;rw[c1,shC,if_pos rfl]at d1;simp only[Int.natCast_zero,Int.add_zero]at d1;rw[Int.zero_add];have hst:slook [] (tvar (v:Nat))=tvar (v:Nat):=Zay (.inr rfl);exact⟨d2,.var (.stop d2 (.inr (by rw[d1]))) (by rw[d1]) trivial (by rw[hst];rfl) (by rw[hst];unfold ZfP;simp only[List.length_nil];rw[if_neg (by omega)];show(v:Int)=_;omega)⟩
 ·simp only[List.nil_append,List.length_map,ZbG,List.length_nil];omega
 ·have h5:Q.length<=5:=hQ.2.2.1;simp only[Zdt,hlg,List.length_nil,Zep];omega
noncomputable def Zew(P:List Cl)(Q:List Tm)(vars fuel every:Int):List Ev×Int:=haveI :=Classical.propDecidable (GoodP P/\ZbZ Q vars);if ¬(GoodP P/\ZbZ Q vars)then([],1)else if fuel<0\/fuel>150\/every<0 then([],2)else((ZjT P vars.toNat fuel every (fuel.toNat+14) (Zdp Q vars fuel.toNat)).out,0)
theorem ZhN(P:List Cl)(Q:List Tm)(vars fuel every:Int)(he:0<=every):Zew P Q vars fuel every=Zca P Q vars fuel:=by
 unfold Zew;rcases ZcA P Q vars fuel with⟨hn,e⟩|⟨hg,hf,e⟩|⟨hg,h0,h1,e⟩;·rw[e,if_pos hn]
 ·rw[e,if_neg (not_not_intro hg),if_pos (by omega)]
 ·rw[e,if_neg (not_not_intro hg),if_neg (by omega)];obtain⟨n,rfl⟩:=Int.eq_ofNat_of_zero_le hg.2.1;obtain⟨f,rfl⟩:=Int.eq_ofNat_of_zero_le h0;rw[Int.toNat_natCast,Int.toNat_natCast];have :=Ziu hg.1 (f:Int) every (f+14) _ _ _ (ZhM (f:=f) hg.1 hg.2 (by omega)) (by simp only;omega) (by simp);rw[this]
end Go.Proofs.Ytlpmfkpefoegeac
