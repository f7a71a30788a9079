import Derived.Test.YtlpmfkpefoegeacGreatDoorPMEnd
import Derived.KernelRfl
namespace Go.Proofs.YtlpmfkpefoegeacGreatDoor
set_option maxRecDepth 99999
set_option maxHeartbeats 0
set_option linter.all false
def PV(d:Str):Bool:=d==[33]||(decide (1<=d.length)&&decide (d.length<=8)&&d.all vE)
theorem afN{s:ByteArray}(h:PV s.data.toList=true):AJ s:=by
 unfold PV at h;simp only[yD,kI,rG,pF,qx]at h;rcases h with h|⟨⟨h1,h2⟩,h3⟩
 ·left;have e:s=⟨s.data.toList.toArray⟩:=by simp
  rw[e,h]
 ·right;have hs:s.data.toList.length=s.size:=agp;refine⟨by omega,by omega,fun i hi=>?_⟩;have hm:s[i]∈s.data.toList:=by show s.data[i]∈_;exact Array.getElem_mem_toList hi
  have :=h3 _ hm;unfold vE at this;simp only[kI,pF]at this;omega
mutual
def PW (v : Int) : Tm → Bool
  | .mk k n s l => if k = 0 then decide (0 ≤ n) && decide (n < v) && s.data.toList.isEmpty && l.isEmpty
    else if k = 1 then decide (n = 0) && PV s.data.toList && l.isEmpty
    else if k = 2 then decide (-1099511627776 ≤ n) && decide (n ≤ 1099511627776) && s.data.toList.isEmpty && l.isEmpty
    else if k = 3 then decide (n = 0) && PV s.data.toList && !(s.data.toList == [33]) && decide (1 ≤ l.length) && decide (l.length ≤ 4) && PX v l
    else false
def PX (v : Int) : List Tm → Bool
  | [] => true
  | t :: r => PW v t && PX v r
end
theorem afO{s:ByteArray}(h:s.data.toList.isEmpty=true):s=.empty:=by
 have e:s=⟨s.data.toList.toArray⟩:=by simp
 rw[Ew]at h;rw[e,h];rfl
theorem aq2{v:Int}:∀t:Tm,PW v t=true->t.Good v:=by
 intro t;induction t using Tm.induct with
  |h k n s l ih=>
   intro h;unfold PW at h;split at h;·rename_i hk;simp only[kI,pF,Ew]at h;obtain⟨⟨⟨h1,h2⟩,h3⟩,h4⟩:=h;rw[hk,afO (Ew.2 h3),h4];exact .var n h1 h2
   ·split at h;·rename_i hk;simp only[kI,pF,Ew]at h;obtain⟨⟨h1,h2⟩,h3⟩:=h;rw[hk,h1,h3];exact .atom s (afN h2)
    ·split at h;·rename_i hk;simp only[kI,pF,Ew]at h;obtain⟨⟨⟨h1,h2⟩,h3⟩,h4⟩:=h;rw[hk,afO (Ew.2 h3),h4];exact .int n h1 h2
     ·split at h
      ·rename_i hk;simp only[kI,pF,Bool.not_eq_true',tY]at h;obtain⟨⟨⟨⟨⟨h1,h2⟩,h3⟩,h4⟩,h5⟩,h6⟩:=h;rw[hk,h1];have hl:∀(l':List Tm),(∀x∈l',x∈l)->PX v l'=true->∀x∈l',x.Good v:=by
        intro l';induction l' with
         |nil=>intro _ _ x hx;cases hx
         |cons y r ihr=>
          intro hm hg x hx;unfold PX at hg;simp only[kI]at hg;rcases iG.1 hx with rfl|hx;·exact ih _ (hm _ (by simp)) hg.1
          ·exact ihr (fun z hz=>hm z (by simp[hz])) hg.2 x hx
       exact .comp s l (afN h2) (by rw[Ha];exact h3) h4 h5 (hl l (fun x hx=>hx) h6)
      ·cases h
instance au5(t:Tm):Decidable t.jM:=by unfold Tm.jM;infer_instance
def PY(v:Int)(t:Tm):Bool:=(t.kind==1||t.kind==3)&&PW v t&&decide (t.nodes<=24)
theorem WZ{v:Int}{t:Tm}(h:PY v t=true):t.jd/\t.Fits v:=by unfold PY at h;simp only[kI,yD,rG,pF]at h;exact⟨h.1.1,aq2 _ h.1.2,h.2⟩
def Lg(l:List Tm)(v:Int):Bool:=decide (0<=v)&&decide (v<=8)&&decide (l.length<=5)&&l.all (PY v)
theorem Xa{l:List Tm}{v:Int}(h:Lg l v=true):iw l v:=by unfold Lg at h;simp only[kI,pF,qx]at h;exact⟨h.1.1.1,h.1.1.2,h.1.2,fun g hg=>WZ (h.2 g hg)⟩
def PZ(c:Cl):Bool:=Lg c.body c.vars&&PY c.vars c.head&&!decide c.head.jM
theorem afP{c:Cl}(h:PZ c=true):c.Good:=by unfold PZ at h;simp only[kI,Bool.not_eq_true',agb]at h;exact⟨Xa h.1.1,(WZ h.1.2).1,(WZ h.1.2).2,h.2⟩
def P6:Nat->List Cl->Rd->Option (List Cl)|0,l,_=>none|k+1,l,r=>if r.space.s=[]then some l else if(eY r.space).2.bad=false/\PZ (eY r.space).1=true then P6 k (l++[(eY r.space).1]) (eY r.space).2 else none
theorem afQ:∀(k:Nat)(l:List Cl)(r:Rd)(l':List Cl),P6 k l r=some l'->jC k l r=some l'
 |0,l,r,l',h=>by cases h
 |k+1,l,r,l',h=>by
  rw[P6]at h;rw[jC];split at h;·rename_i h0;rw[ah h0];exact h
  ·rename_i h0;rw[ae h0];split at h;·rename_i hb;rw[ae (fun e=>e.elim (fun e=>by rw[hb.1]at e;cases e) (fun e=>e (afP hb.2)))];exact afQ k _ _ _ h
   ·cases h
theorem aq3{s:Str}{l:List Cl}(h1:s.length<=2000)(h2:P6 (s.length+1) [] ⟨s,[],false⟩=some l)(h3:l.length<=24):gL s=(l,0):=by unfold gL;rw[ae (by omega),afQ _ _ _ _ h2];unfold AR;simp only;rw[ae (by omega)]
theorem aq4{s:Str}{l:List Tm}{n:Nat}(h1:s.length<=2000)(h2:(fA ⟨s,[],false⟩).1=l)(h3:(fA ⟨s,[],false⟩).2.bad=false)(h4:(fA ⟨s,[],false⟩).2.space.s=[])(h5:(fA ⟨s,[],false⟩).2.vars.length=n)(h6:Lg l ((n:Nat):Int)=true):eO s=(l,((n:Nat):Int),0):=by
 unfold eO;rw[ae (by omega),h2,h5,ae];rintro(h|h|h);·rw[h3]at h;cases h
 ·exact h h4
 ·exact h (Xa h6)
noncomputable def P7(P:List Cl)(g:Gl)(rest:List Gl)(s:Sv):yT×Sv:=if s.fuel=0 then(.off,s.put 3)else let s:={s with fuel:=s.fuel - 1};if decide g.t.jM=true then match rU g s with|(none,s')=>(.off,s')|(some true,s')=>(.next rest,s')|(some false,s')=>jN P s'.choices s' else if ∀c∈P,¬um c.head g.t then(.off,s.put 5)else match kN P g rest P.length 0 s with|(.no,s')=>jN P s'.choices s'|r=>r
theorem aq5(P:List Cl)(g:Gl)(rest:List Gl)(s:Sv):qI P g rest s=P7 P g rest s:=by
 unfold qI P7;by_cases h:g.t.jM
 ·simp only[h,if_true,decide_true];by_cases h0:s.fuel=0;·rw[ah h0,ah h0]
  ·rw[ae h0,ae h0];generalize rU g _=X;obtain⟨o,s'⟩:=X;cases o with|none=>rfl|some b=>cases b<;>rfl
 ·simp only[h,if_false,decide_false,tZ];by_cases h0:s.fuel=0;·rw[ah h0,ah h0]
  ·rw[ae h0,ae h0];split;·rfl
   ·generalize kN P g rest P.length 0 _=X;obtain⟨r,s'⟩:=X;cases r<;>rfl
noncomputable def GX(P:List Cl)(q:Nat):Nat->List Gl->Sv->Sv
 |0,_,s=>s
 |n+1,[],s=>match nD q s with|(false,s')=>s'|(true,s')=>match jN P s'.choices s' with|(.next g,s'')=>GX P q n g s''|(_,s'')=>s''
 |n+1,g::rest,s=>match P7 P g rest s with|(.next g',s')=>GX P q n g' s'|(_,s')=>s'
theorem Xb(P:List Cl)(q:Nat):∀(n:Nat)(gl:List Gl)(s:Sv),qJ P q n gl s=GX P q n gl s
 |0,_,s=>rfl
 |n+1,[],s=>by rw[qJ,GX];rcases nD q s with⟨b,s'⟩;cases b with|false=>rfl|true=>simp only;rcases jN P s'.choices s' with⟨r,s''⟩;cases r with|next g=>exact Xb P q n g s''|no=>rfl|off=>rfl
 |n+1,g::rest,s=>by rw[qJ,GX,aq5];rcases P7 P g rest s with⟨r,s'⟩;cases r with|next g=>exact Xb P q n g s'|no=>rfl|off=>rfl
theorem aq6{P:List Cl}{Q:List Tm}{vars fuel:Int}{out:List Ev}(hP:decide (P.length<=24)&&P.all PZ=true)(hQ:Lg Q vars=true)(h0:0<=fuel)(h1:fuel<=150)(h:(GX P vars.toNat (fuel.toNat+14) (Q.map fun t=>⟨t,0⟩) ⟨[],[],vars,fuel.toNat,[]⟩).out=out):uq P Q vars fuel=(out,0):=by
 have hg:fJ P/\iw Q vars:=by simp only[kI,pF,qx]at hP;exact⟨⟨hP.1,fun c hc=>afP (hP.2 c hc)⟩,Xa hQ⟩
 rcases Tf P Q vars fuel with⟨h,_⟩|⟨_,h,_⟩|⟨_,_,_,h9⟩;·exact absurd hg h
 ·omega
 ·rw[h9,Xb,h]
def Xc(n:Int):Tm:= .mk 2 n ⟨#[]⟩ []
def aq7(n:Int):Tm:= .mk 0 n ⟨#[]⟩ []
def afR(c:UInt8)(t:Tm):Tm:= .mk 3 0 ⟨#[c]⟩ [t]
