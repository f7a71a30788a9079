import Derived.Test.YtlpmfkpefoegeacGreatDoorQMarksOf
namespace Go.Proofs.YtlpmfkpefoegeacGreatDoor
set_option maxRecDepth 99999
set_option maxHeartbeats 0
set_option linter.all false
theorem aiq{P:List Cl}{q:Nat}{s s':Sv}(h:gZ P s)(e:rJ q s=(true,s')):gZ P s'/\s'.out.length=s.out.length+1/\s'.out.length<=11/\s'.vars=s.vars:=by
 unfold rJ at e;split at e;·simp at e
 ·simp only at e;split at e;·simp at e
  ·rename_i hlt;simp only[lD,dL]at e;subst e;obtain⟨h1,h2,h3,h4,h5,h6,h7,h8⟩:=h;simp only[bT,jr]at hlt ⊢;exact⟨⟨h1,h2,h3,h4,h5,h6,h7,h8⟩,trivial,by omega,trivial⟩
theorem Ti{P:List Cl}:∀(cs:List Cm)(m:Mv),(kF P cs m).1≠ .no
 |[],m=>by rw[kF];simp
 |c::cs,m=>by
  rw[kF];have ih:=Ti (P:=P) cs;split;·exact ih _
  ·rename_i r hne;generalize fI P c.goal (cB m c.goal) (P.length - c.from_) c.from_ {m with choices:=cs,h:=(qL (qK m.h (c.trail:Int)).1 (c.top:Int)).1}=r at*;obtain⟨a,b⟩:=r;intro e;simp only at e;subst e;exact hne b rfl
theorem atv{P:List Cl}(m:Mv):(kQ P m).1≠ .no:=by
 unfold kQ;split;·simp
 ·simp only;split
  ·split;·simp
   ·simp
   ·exact Ti _ _
  ·split;·simp
   ·split;·exact Ti _ _
    ·rename_i hne;intro e;exact hne _ (Prod.ext e rfl)
theorem atw{P:List Cl}{q:Nat}(m:Mv):(ui P q m).1≠ .no:=by
 unfold ui;split;·simp
 ·simp only;split;·simp
  ·exact Ti _ _
theorem aaj{P:List Cl}{q:Nat}(hP:dW P)(fuel every:Int):∀(n:Nat)(m:Mv)(s:Sv)(gl:List Gl),uy P q m s gl->(q:Int)<=s.vars->s.out.length<=11->(runM P q fuel every n m).out=(rM P q n gl s).out
 |0,m,s,gl,S,_,_=>by rw[runM,rM];exact S.nT.out
 |n+1,m,s,[],S,dB,hout=>by
  have vO:m.now<0:=by obtain⟨φ, -, -,h⟩:=S.nT.cur;have :m.now= -1:=h;omega
  rw[runM,rM,ai vO];have hA:=ag5 hP S dB hout;have hok2:=fun s'(e:rJ q s=(true,s'))=>aiq S.ok e;have aak:=atw (P:=P) (q:=q) m;generalize ui P q m=rm at*;obtain⟨ra,m'⟩:=rm;cases ha:rJ q s with|mk b s'=>rw[ha]at hA hok2;cases b with
   |false=>simp only at hA ⊢;cases ra with|next=>exact hA.elim|no=>exact hA.elim|off=>exact hA
   |true=>simp only at hA ⊢;obtain⟨a1,a2,a3,a4⟩:=hok2 s' rfl;have hbn:=fun s'' gl(e:iK P s'.choices s'=(.next gl,s''))=>Hl s'.choices s' s'' gl a1 e;generalize iK P s'.choices s'=rs at*;obtain⟨rb,s''⟩:=rs;cases ra with
    |next=>cases rb with|next gl=>obtain⟨b1,b2,b3,b4,b5⟩:=hbn s'' gl rfl;exact aaj hP fuel every n m' s'' gl ⟨b1,b2,hA⟩ (by omega) (by rw[b4];exact a3)|no=>exact hA.elim|off=>exact hA.elim
    |no=>cases rb with|next gl=>exact hA.elim|no=>exact absurd rfl aak|off=>exact hA.elim
    |off=>cases rb with|next gl=>exact hA.elim|no=>exact hA.elim|off=>exact hA
 |n+1,m,s,g::rest,S,dB,hout=>by
  have vO:¬m.now<0:=by obtain⟨φ, -, -,k,h, -⟩:=S.nT.cur;omega
  rw[runM,rM,ag vO];have S2:uy P q (if every>0/\(fuel - m.fuel)%every=0 then yz q m else m) s (g::rest):=by
   split;·exact aha S
   ·exact S
  generalize(if every>0/\(fuel - m.fuel)%every=0 then yz q m else m)=m2 at*;have hA:=ag3 hP S2 dB;have hsn:=fun s' gl(e:uY P g rest s=(.next gl,s'))=>Wv S.ok S.oL e;have aak:=atv (P:=P) m2;generalize kQ P m2=rm at*;generalize uY P g rest s=rs at*;obtain⟨ra,m'⟩:=rm;obtain⟨rb,s'⟩:=rs;cases ra with
   |next=>cases rb with|next gl=>obtain⟨b1,b2,b3,b4,b5⟩:=hsn s' gl rfl;exact aaj hP fuel every n m' s' gl ⟨b1,b2,hA⟩ (by omega) (by rw[b4];exact hout)|no=>exact hA.elim|off=>exact hA.elim
   |no=>cases rb with|next gl=>exact hA.elim|no=>exact absurd rfl aak|off=>exact hA.elim
   |off=>cases rb with|next gl=>exact hA.elim|no=>exact hA.elim|off=>exact hA
theorem air{Q:List Tm}{n:Nat}(hg:fP Q (n:Int))(F:List Ce)(hF:F=(aV (aP n) Q).1):F.length<=296/\n<=F.length/\gU F/\Di F n/\NF n F/\∀(j:Nat)(hj:j<Q.length),∃a:Nat,(aV (aP n) Q).2[j]?=some (a:Int)/\Laid F id (a:Int) Q[j]/\F[a]?=some ⟨Q[j].kind,(Q[j].args.length:Int),Q[j].s⟩:=by
 obtain⟨v0,v8,l5,lg⟩:=hg;have hnd:=Ku Q (fun g hg=>(lg g hg).2.2);have h2:=CO Q (aP n);rw[kD,<-hF]at h2;have vH:∀t∈Q,t.Good (n:Int):=fun t ht=>(lg t ht).2.1;have hva:Di F n:=fun i hi=>by rw[hF,Ie Q _ i (by rw[kD];exact hi)];exact ae9 n i hi
 obtain⟨n3,n4⟩:=Rk n Q (aP n) (fun t ht=>⟨(lg t ht).1,vH t ht⟩) (XG n) (by rw[kD];exact zL _);have hla:=XA n F hva Q (aP n) vH (by rw[kD];exact zL _) (fun i hi hil=>by rw[hF]);rw[<-hF]at n3 n4;refine⟨by omega,h2.1,?_,hva,n3,fun j hj=>?_⟩
 ·by_cases h0:F.length=0;·intro i hi;omega
  ·have hok:=XC (v:=n) (N:=F.length) h2.1 (by omega) Q (aP n) vH (ae8 h2.1) (by rw[<-hF];exact zL _);rw[<-hF]at hok;intro i hi;exact hok i _ (aT hi)
 ·obtain⟨a,e1,e2⟩:=n4 j hj;obtain⟨a',f1,f2⟩:=hla j hj;rw[e1]at f1;obtain rfl:=acg f1;exact⟨a,e1,f2,e2⟩
theorem atx{v:Int}{t:Tm}(h:t.Good v)(hv:v<=8):dN t 0=t:=by
 unfold dN;induction h with
  |var n h0 h1=>simp[Tm.ren,Tm.qx,Hf h0 (show n<1099511627776 by omega),Hf (show(0:Int)<=0 by omega) (show(0:Int)<1099511627776 by omega)]
  |atom s h=>simp[Tm.ren,Tm.qx]
  |int n h0 h1=>simp[Tm.ren,Tm.qx]
  |comp s l h h1 h2 h3 _ ih=>
   simp only[Tm.ren,Tm.JH,show ¬((3:Int)=0)by decide,if_false,Tm.mk.injEq,dL];conv=>rhs;rw[<-List.map_id l]
   exact ab0 fun x hx=>ih x hx
theorem ais{P:List Cl}{Q:List Tm}{n f:Nat}(hP:dW P)(hQ:fP Q (n:Int))(hf:f<=150):uy P n (yA Q (n:Int) f) ⟨[],[],(n:Int),f,[]⟩ (Q.map fun t=>⟨t,0⟩):=by
 obtain⟨hok,hgl⟩:=afZ (f:=f) hP hQ hf;refine⟨hok,hgl,?_⟩;obtain⟨F,hF⟩:∃F,F=(aV (aP n) Q).1:=⟨_,rfl⟩;obtain⟨b1,b2,b3,b4,b5,b6⟩:=air hQ F hF;have hcells:(bS Q (n:Int)).cells=F:=by rw[hF];simp[bS]
 have Fh:(bS Q (n:Int)).goals=(aV (aP n) Q).2:=by simp[bS]
 have Tj:Hp.Good ⟨[],[]⟩:=⟨fun i hi=>by simp at hi,fun j hj=>by simp at hj,by simp,by simp⟩;have hld:=Rp (h:=⟨[],[]⟩) (F:=F) Tj b3 (by simp only[kg];omega);have hg1:=XD (h:=⟨[],[]⟩) (F:=F) Tj b3 (by simp only[kg];omega);simp only[kg,Vn]at hld hg1;have hM0:Mon 0 [] (fun x=>x) []:=⟨fun x y hx=>by have :=hx.1;unfold Inb at this;simp at this;omega,fun x hx=>by have :=hx.1;unfold Inb at this;simp at this;omega,fun x _=>rfl⟩;have hM1:=XH hM0 (cz.nil 0) (kr _) b5;rw[Int.zero_add]at hM1;simp only[kg]at hM1;have hφ:∀k:Int,0<=k->k<(n:Int)->kT [] 0 (fun x=>x) (k+0)=0+k:=fun k h0 h1=>by unfold kT;simp only[kg];rw[ag (by omega)];omega
 have tell:∀(t:Tm)(a:Int),t.Good (n:Int)->Laid F id a t->Hr ([]++F.map (dA 0)) (kT [] 0 (fun x=>x)) [] (fun _=>True) (0+a) t:=fun t a ht ha=>by have h1:=ae2 (H:=[]) t a ha;have :=afb (v:=(n:Int)) (φ:=kT [] 0 (fun x=>x)) (cz.nil 0) (kr _) (by omega) hQ.2.1 hφ t _ ht h1;rw[atx ht hQ.2.1,JD]at this;exact this
 have SB:∀(j:Nat)(hj:j<Q.length),∃a,(aV (aP n) Q).2[j]?=some a/\kU (n:Int) ([]++F.map (dA 0)) (kT [] 0 (fun x=>x)) [] (0+a) Q[j]:=fun j hj=>by obtain⟨a,e1,e2,e3⟩:=b6 j hj;have hgj:=hQ.2.2.2 _ (bO hj);obtain⟨c1,c2⟩:=yO e3;obtain⟨d1,d2⟩:=Dj (H:=[]) c2;rw[c1,Bn _ (by simpa using jw.ne hgj.1),JD]at d1;rw[JD]at d2;exact⟨(a:Int),e1,d2,d1,hgj.1,hgj.2.1,tell _ _ hgj.2.1 e2⟩
 have vH:=yg Q (aP n);obtain⟨p1,p2,p3⟩:=XM (N:=(n:Int)) (base:=0) (bar:=0) (gs0:=[]) (nx:= -1) (rest:=[]) (by show(-1:Int)= -1;rfl) (aV (aP n) Q).2 Q vH SB;rw[tN]at p1;have hb:yA Q (n:Int) f={h:=⟨[]++F.map (dA 0),[]⟩,goals:=(eX 0 0 (aV (aP n) Q).2 [] (-1)).1,choices:=[],now:=(eX 0 0 (aV (aP n) Q).2 [] (-1)).2,query:=0,fuel:=f,out:=[]}:=by unfold yA;simp only[hcells,Fh,hld]
 rw[hb];refine⟨hg1,rfl,rfl,by simp,⟨_,hM1,fun v hv=>?_,p1⟩,trivial,?_,by simp,?_⟩;·have h1:=b4 v hv;obtain⟨c1,c2⟩:=yO h1;obtain⟨d1,d2⟩:=Dj (H:=[]) c2;simp only[kg,Vn,acy]at d1 d2;rw[c1,dA,ai rfl]at d1;simp only[Vn,acy]at d1;rw[Int.zero_add];have hst:ax [] (fw (v:Nat))=fw (v:Nat):=iA (.inr rfl);exact⟨d2,.var (.stop d2 (.inr (by rw[d1]))) (by rw[d1]) trivial (by rw[hst];rfl) (by rw[hst];unfold kT;simp only[kg];rw[ag (by omega)];show(v:Int)=_;omega)⟩
 ·simp only[tK,ny,mV,kg];omega
 ·have h5:Q.length<=5:=hQ.2.2.1;simp only[LD,vH,kg,Br];omega
noncomputable def oW(P:List Cl)(Q:List Tm)(vars fuel every:Int):List Ev×Int:=haveI :=Classical.propDecidable (dW P/\fP Q vars);if ¬(dW P/\fP Q vars)then([],1)else if fuel<0\/fuel>150\/every<0 then([],2)else((runM P vars.toNat fuel every (fuel.toNat+14) (yA Q vars fuel.toNat)).out,0)
theorem ait(P:List Cl)(Q:List Tm)(vars fuel every:Int)(he:0<=every):oW P Q vars fuel every=wH P Q vars fuel:=by
 unfold oW;rcases RF P Q vars fuel with⟨hn,e⟩|⟨hg,hf,e⟩|⟨hg,h0,h1,e⟩;·rw[e,ai hn]
 ·rw[e,ag (dJ hg),ai (by omega)]
 ·rw[e,ag (dJ hg),ag (by omega)];obtain⟨n,rfl⟩:=dQ hg.2.1;obtain⟨f,rfl⟩:=dQ h0;rw[dG,dG];have :=aaj hg.1 (f:Int) every (f+14) _ _ _ (ais (f:=f) hg.1 hg.2 (by omega)) (by simp only;omega) (by simp);rw[this]
