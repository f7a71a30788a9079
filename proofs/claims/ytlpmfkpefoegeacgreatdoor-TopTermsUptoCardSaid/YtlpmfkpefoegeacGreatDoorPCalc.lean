import Derived.Test.YtlpmfkpefoegeacGreatDoorPProve2
import Derived.KernelRfl
namespace Go.Proofs.YtlpmfkpefoegeacGreatDoor
set_option maxRecDepth 99999
set_option maxHeartbeats 0
set_option linter.all false
def Vy(d:Str):Bool:=d==[33]||(decide (1<=d.length)&&decide (d.length<=8)&&d.all yD)
theorem alA{s:ByteArray}(h:Vy s.data.toList=true):Ec s:=by
 unfold Vy at h;simp only[yC,ko,rE,qE,oP]at h;rcases h with h|⟨⟨h1,h2⟩,h3⟩
 ·left;have e:s=⟨s.data.toList.toArray⟩:=by simp
  rw[e,h]
 ·right;have hs:s.data.toList.length=s.size:=adG;refine⟨by omega,by omega,fun i hi=>?_⟩;have hm:s[i]∈s.data.toList:=by show s.data[i]∈_;exact Array.getElem_mem_toList hi
  have :=h3 _ hm;unfold yD at this;simp only[ko,qE]at this;omega
mutual
def Vz (v : Int) : Tm → Bool
  | .mk k n s l => if k = 0 then decide (0 ≤ n) && decide (n < v) && s.data.toList.isEmpty && l.isEmpty
    else if k = 1 then decide (n = 0) && Vy s.data.toList && l.isEmpty
    else if k = 2 then decide (-1099511627776 ≤ n) && decide (n ≤ 1099511627776) && s.data.toList.isEmpty && l.isEmpty
    else if k = 3 then decide (n = 0) && Vy s.data.toList && !(s.data.toList == [33]) && decide (1 ≤ l.length) && decide (l.length ≤ 4) && VA v l
    else false
def VA (v : Int) : List Tm → Bool
  | [] => true
  | t :: r => Vz v t && VA v r
end
theorem alB{s:ByteArray}(h:s.data.toList.isEmpty=true):s=.empty:=by
 have e:s=⟨s.data.toList.toArray⟩:=by simp
 rw[Jd]at h;rw[e,h];rfl
theorem axZ{v:Int}:∀t:Tm,Vz v t=true->t.Good v:=by
 intro t;induction t using Tm.induct with
  |h k n s l ih=>
   intro h;unfold Vz at h;split at h;·rename_i hk;simp only[ko,qE,Jd]at h;obtain⟨⟨⟨h1,h2⟩,h3⟩,h4⟩:=h;rw[hk,alB (Jd.2 h3),h4];exact .var n h1 h2
   ·split at h;·rename_i hk;simp only[ko,qE,Jd]at h;obtain⟨⟨h1,h2⟩,h3⟩:=h;rw[hk,h1,h3];exact .atom s (alA h2)
    ·split at h;·rename_i hk;simp only[ko,qE,Jd]at h;obtain⟨⟨⟨h1,h2⟩,h3⟩,h4⟩:=h;rw[hk,alB (Jd.2 h3),h4];exact .int n h1 h2
     ·split at h
      ·rename_i hk;simp only[ko,qE,Bool.not_eq_true',Ak]at h;obtain⟨⟨⟨⟨⟨h1,h2⟩,h3⟩,h4⟩,h5⟩,h6⟩:=h;rw[hk,h1];have hl:∀(l':List Tm),(∀x∈l',x∈l)->VA v l'=true->∀x∈l',x.Good v:=by
        intro l';induction l' with
         |nil=>intro _ _ x hx;cases hx
         |cons y r ihr=>
          intro hm hg x hx;unfold VA at hg;simp only[ko]at hg;rcases jr.1 hx with rfl|hx;·exact ih _ (hm _ (by simp)) hg.1
          ·exact ihr (fun z hz=>hm z (by simp[hz])) hg.2 x hx
       exact .comp s l (alA h2) (by rw[Me];exact h3) h4 h5 (hl l (fun x hx=>hx) h6)
      ·cases h
instance aDY(t:Tm):Decidable t.jL:=by unfold Tm.jL;infer_instance
def VB(v:Int)(t:Tm):Bool:=(t.kind==1||t.kind==3)&&Vz v t&&decide (t.nodes<=24)
theorem acF{v:Int}{t:Tm}(h:VB v t=true):t.ky/\t.Fits v:=by unfold VB at h;simp only[ko,yC,rE,qE]at h;exact⟨h.1.1,axZ _ h.1.2,h.2⟩
def Qs(l:List Tm)(v:Int):Bool:=decide (0<=v)&&decide (v<=8)&&decide (l.length<=5)&&l.all (VB v)
theorem acG{l:List Tm}{v:Int}(h:Qs l v=true):iJ l v:=by unfold Qs at h;simp only[ko,qE,oP]at h;exact⟨h.1.1.1,h.1.1.2,h.1.2,fun g hg=>acF (h.2 g hg)⟩
def VC(c:Cl):Bool:=Qs c.body c.vars&&VB c.vars c.head&&!decide c.head.jL
theorem alC{c:Cl}(h:VC c=true):c.Good:=by unfold VC at h;simp only[ko,Bool.not_eq_true',amR]at h;exact⟨acG h.1.1,(acF h.1.2).1,(acF h.1.2).2,h.2⟩
def VD:Nat->List Cl->Rd->Option (List Cl)|0,l,_=>none|k+1,l,r=>if r.space.s=[]then some l else if(fI r.space).2.bad=false/\VC (fI r.space).1=true then VD k (l++[(fI r.space).1]) (fI r.space).2 else none
theorem alD:∀(k:Nat)(l:List Cl)(r:Rd)(l':List Cl),VD k l r=some l'->lL k l r=some l'
 |0,l,r,l',h=>by cases h
 |k+1,l,r,l',h=>by
  rw[VD]at h;rw[lL];split at h;·rename_i h0;rw[G h0];exact h
  ·rename_i h0;rw[O h0];split at h;·rename_i hb;rw[O (fun e=>e.elim (fun e=>by rw[hb.1]at e;cases e) (fun e=>e (alC hb.2)))];exact alD k _ _ _ h
   ·cases h
theorem ax0{s:Str}{l:List Cl}(h1:s.length<=2000)(h2:VD (s.length+1) [] ⟨s,[],false⟩=some l)(h3:l.length<=24):gF s=(l,0):=by unfold gF;rw[O (by omega),alD _ _ _ _ h2];unfold Ej;simp only;rw[O (by omega)]
theorem ax1{s:Str}{l:List Tm}{n:Nat}(h1:s.length<=2000)(h2:(gD ⟨s,[],false⟩).1=l)(h3:(gD ⟨s,[],false⟩).2.bad=false)(h4:(gD ⟨s,[],false⟩).2.space.s=[])(h5:(gD ⟨s,[],false⟩).2.vars.length=n)(h6:Qs l ((n:Nat):Int)=true):dI s=(l,((n:Nat):Int),0):=by
 unfold dI;rw[O (by omega),h2,h5,O];rintro(h|h|h);·rw[h3]at h;cases h
 ·exact h h4
 ·exact h (acG h6)
noncomputable def VE(P:List Cl)(g:Gl)(rest:List Gl)(s:Sv):vP×Sv:=if s.fuel=0 then(.off,s.put 3)else let s:={s with fuel:=s.fuel - 1};if decide g.t.jL=true then match jh g s with|(none,s')=>(.off,s')|(some true,s')=>(.next rest,s')|(some false,s')=>eQ P s'.choices s' else if ∀c∈P,¬jB c.head g.t then(.off,s.put 5)else match fC P g rest P.length 0 s with|(.no,s')=>eQ P s'.choices s'|r=>r
theorem ax2(P:List Cl)(g:Gl)(rest:List Gl)(s:Sv):ig P g rest s=VE P g rest s:=by
 unfold ig VE;by_cases h:g.t.jL
 ·simp only[h,if_true,decide_true];by_cases h0:s.fuel=0;·rw[G h0,G h0]
  ·rw[O h0,O h0];generalize jh g _=X;obtain⟨o,s'⟩:=X;cases o with|none=>rfl|some b=>cases b<;>rfl
 ·simp only[h,if_false,decide_false,xe];by_cases h0:s.fuel=0;·rw[G h0,G h0]
  ·rw[O h0,O h0];split;·rfl
   ·generalize fC P g rest P.length 0 _=X;obtain⟨r,s'⟩:=X;cases r<;>rfl
noncomputable def LV(P:List Cl)(q:Nat):Nat->List Gl->Sv->Sv
 |0,_,s=>s
 |n+1,[],s=>match kE q s with|(false,s')=>s'|(true,s')=>match eQ P s'.choices s' with|(.next g,s'')=>LV P q n g s''|(_,s'')=>s''
 |n+1,g::rest,s=>match VE P g rest s with|(.next g',s')=>LV P q n g' s'|(_,s')=>s'
theorem acH(P:List Cl)(q:Nat):∀(n:Nat)(gl:List Gl)(s:Sv),jC P q n gl s=LV P q n gl s
 |0,_,s=>rfl
 |n+1,[],s=>by rw[jC,LV];rcases kE q s with⟨b,s'⟩;cases b with|false=>rfl|true=>simp only;rcases eQ P s'.choices s' with⟨r,s''⟩;cases r with|next g=>exact acH P q n g s''|no=>rfl|off=>rfl
 |n+1,g::rest,s=>by rw[jC,LV,ax2];rcases VE P g rest s with⟨r,s'⟩;cases r with|next g=>exact acH P q n g s'|no=>rfl|off=>rfl
theorem ax3{P:List Cl}{Q:List Tm}{vars fuel:Int}{out:List Ev}(hP:decide (P.length<=24)&&P.all VC=true)(hQ:Qs Q vars=true)(h0:0<=fuel)(h1:fuel<=150)(h:(LV P vars.toNat (fuel.toNat+14) (Q.map fun t=>⟨t,0⟩) ⟨[],[],vars,fuel.toNat,[]⟩).out=out):jU P Q vars fuel=(out,0):=by
 have hg:fV P/\iJ Q vars:=by simp only[ko,qE,oP]at hP;exact⟨⟨hP.1,fun c hc=>alC (hP.2 c hc)⟩,acG hQ⟩
 rcases Kq P Q vars fuel with⟨h,_⟩|⟨_,h,_⟩|⟨_,_,_,h9⟩;·exact absurd hg h
 ·omega
 ·rw[h9,acH,h]
def acI:Str:=[112,40,52,41,46,32,112,40,53,41,46,32,113,40,88,44,89,41,32,58,45,32,112,40,88,41,44,32,112,40,89,41,44,32,108,101,115,115,40,88,44,89,41,46]
def acJ:Str:=[113,40,65,44,66,41,46]
def Qt(n:Int):Tm:= .mk 2 n ⟨#[]⟩ []
def FK(n:Int):Tm:= .mk 0 n ⟨#[]⟩ []
def VF(c:UInt8)(t:Tm):Tm:= .mk 3 0 ⟨#[c]⟩ [t]
def alE:List Cl:=[⟨VF 112 (Qt 4),[],0⟩,⟨VF 112 (Qt 5),[],0⟩,⟨.mk 3 0 ⟨#[113]⟩ [FK 0,FK 1],[VF 112 (FK 0),VF 112 (FK 1),.mk 3 0 ⟨#[108,101,115,115]⟩ [FK 0,FK 1]],2⟩]
def alF:List Tm:=[.mk 3 0 ⟨#[113]⟩ [FK 0,FK 1]]
theorem ax4:gF acI=(alE,0):=ax0 (by decide) (by kernel_rfl) (by decide)
theorem ax5:dI acJ=(alF,2,0):=ax1 (n:=2) (by decide) (by kernel_rfl) (by kernel_rfl) (by kernel_rfl) (by kernel_rfl) (by kernel_rfl)
theorem ax6:jU alE alF 2 20=([⟨1,[Qt 4,Qt 5]⟩,⟨2,[]⟩],0):=ax3 (by kernel_rfl) (by kernel_rfl) (by omega) (by omega) (by kernel_rfl)
