import Derived.Test.YtlpmfkpefoegeacDoorPSolve
import Derived.Test.YtlpmfkpefoegeacDoorPProve2
import Derived.KernelRfl
namespace Go.Proofs.YtlpmfkpefoegeacDoor
set_option maxRecDepth 100000
set_option maxHeartbeats 16000000
set_option linter.all false
def ZnU(d:Str):Bool:=d==[33]||(decide (1<=d.length)&&decide (d.length<=8)&&d.all Zlk)
theorem Zkw{s:ByteArray}(h:ZnU s.data.toList=true):Zfm s:=by
 unfold ZnU at h;simp only[Bool.or_eq_true,Bool.and_eq_true,beq_iff_eq,decide_eq_true_eq,List.all_eq_true]at h;rcases h with h|⟨⟨h1,h2⟩,h3⟩
 ·left;have e:s=⟨s.data.toList.toArray⟩:=by simp
  rw[e,h]
 ·right;have hs:s.data.toList.length=s.size:=Array.length_toList;refine⟨by omega,by omega,fun i hi=>?_⟩;have hm:s[i]∈s.data.toList:=by show s.data[i]∈_;exact Array.getElem_mem_toList hi
  have :=h3 _ hm;unfold Zlk at this;simp only[Bool.and_eq_true,decide_eq_true_eq]at this;omega
mutual
def ZnV (v : Int) : Tm → Bool
  | .mk k n s l => if k = 0 then decide (0 ≤ n) && decide (n < v) && s.data.toList.isEmpty && l.isEmpty
    else if k = 1 then decide (n = 0) && ZnU s.data.toList && l.isEmpty
    else if k = 2 then decide (-1099511627776 ≤ n) && decide (n ≤ 1099511627776) && s.data.toList.isEmpty && l.isEmpty
    else if k = 3 then decide (n = 0) && ZnU s.data.toList && !(s.data.toList == [33]) && decide (1 ≤ l.length) && decide (l.length ≤ 4) && Zkx v l
    else false
def Zkx (v : Int) : List Tm → Bool
  | [] => true
  | t :: r => ZnV v t && Zkx v r
end
theorem Zky{s:ByteArray}(h:s.data.toList.isEmpty=true):s=ByteArray.empty:=by
 have e:s=⟨s.data.toList.toArray⟩:=by simp
 rw[List.isEmpty_iff]at h;rw[e,h];rfl
theorem ZnW{v:Int}:∀t:Tm,ZnV v t=true->t.Good v:=by
 intro t;induction t using Tm.induct with
  |h k n s l ih=>
   intro h;unfold ZnV at h;split at h;·rename_i hk;simp only[Bool.and_eq_true,decide_eq_true_eq,List.isEmpty_iff]at h;obtain⟨⟨⟨h1,h2⟩,h3⟩,h4⟩:=h;rw[hk,Zky (List.isEmpty_iff.2 h3),h4];exact .var n h1 h2
   ·split at h;·rename_i hk;simp only[Bool.and_eq_true,decide_eq_true_eq,List.isEmpty_iff]at h;obtain⟨⟨h1,h2⟩,h3⟩:=h;rw[hk,h1,h3];exact .atom s (Zkw h2)
    ·split at h;·rename_i hk;simp only[Bool.and_eq_true,decide_eq_true_eq,List.isEmpty_iff]at h;obtain⟨⟨⟨h1,h2⟩,h3⟩,h4⟩:=h;rw[hk,Zky (List.isEmpty_iff.2 h3),h4];exact .int n h1 h2
     ·split at h
      ·rename_i hk;simp only[Bool.and_eq_true,decide_eq_true_eq,Bool.not_eq_true',beq_eq_false_iff_ne]at h;obtain⟨⟨⟨⟨⟨h1,h2⟩,h3⟩,h4⟩,h5⟩,h6⟩:=h;rw[hk,h1];have hl:∀(l':List Tm),(∀x∈l',x∈l)->Zkx v l'=true->∀x∈l',x.Good v:=by
        intro l';induction l' with
         |nil=>intro _ _ x hx;cases hx
         |cons y r ihr=>
          intro hm hg x hx;unfold Zkx at hg;simp only[Bool.and_eq_true]at hg;rcases List.mem_cons.1 hx with rfl|hx;·exact ih _ (hm _ (by simp)) hg.1
          ·exact ihr (fun z hz=>hm z (by simp[hz])) hg.2 x hx
       exact .comp s l (Zkw h2) (by rw[ByteArray.toList_eq];exact h3) h4 h5 (hl l (fun x hx=>hx) h6)
      ·cases h
instance decKnown(t:Tm):Decidable t.Known:=by unfold Tm.Known;infer_instance
def ZnX(v:Int)(t:Tm):Bool:=(t.kind==1||t.kind==3)&&ZnV v t&&decide (t.nodes<=24)
theorem ZhN{v:Int}{t:Tm}(h:ZnX v t=true):t.IsGoal/\t.Fits v:=by unfold ZnX at h;simp only[Bool.and_eq_true,Bool.or_eq_true,beq_iff_eq,decide_eq_true_eq]at h;exact⟨h.1.1,ZnW _ h.1.2,h.2⟩
def Zpp(l:List Tm)(v:Int):Bool:=decide (0<=v)&&decide (v<=8)&&decide (l.length<=5)&&l.all (ZnX v)
theorem Zjr{l:List Tm}{v:Int}(h:Zpp l v=true):ZbQ l v:=by unfold Zpp at h;simp only[Bool.and_eq_true,decide_eq_true_eq,List.all_eq_true]at h;exact⟨h.1.1.1,h.1.1.2,h.1.2,fun g hg=>ZhN (h.2 g hg)⟩
def clB(c:Cl):Bool:=Zpp c.body c.vars&&ZnX c.vars c.head&&!decide c.head.Known
theorem Zoc{c:Cl}(h:clB c=true):c.Good:=by unfold clB at h;simp only[Bool.and_eq_true,Bool.not_eq_true',decide_eq_false_iff_not]at h;exact⟨Zjr h.1.1,(ZhN h.1.2).1,(ZhN h.1.2).2,h.2⟩
/-! reading -/
def ZnY:Nat->List Cl->Rd->Option (List Cl)|0,l,_=>none|k+1,l,r=>if r.space.s=[]then some l else if(ZaK r.space).2.bad=false/\clB (ZaK r.space).1=true then ZnY k (l++[(ZaK r.space).1]) (ZaK r.space).2 else none
theorem Zkz:∀(k:Nat)(l:List Cl)(r:Rd)(l':List Cl),ZnY k l r=some l'->Zb2 k l r=some l'
 |0,l,r,l',h=>by cases h
 |k+1,l,r,l',h=>by
  rw[ZnY]at h;rw[Zb2];split at h;·rename_i h0;rw[if_pos h0];exact h
  ·rename_i h0;rw[if_neg h0];split at h;·rename_i hb;rw[if_neg (fun e=>e.elim (fun e=>by rw[hb.1]at e;cases e) (fun e=>e (Zoc hb.2)))];exact Zkz k _ _ _ h
   ·cases h
theorem Zlh{s:Str}{l:List Cl}(h1:s.length<=2000)(h2:ZnY (s.length+1) [] ⟨s,[],false⟩=some l)(h3:l.length<=24):Zbc s=(l,0):=by unfold Zbc;rw[if_neg (by omega),Zkz _ _ _ _ h2];unfold ZgL;simp only;rw[if_neg (by omega)]
theorem Zjs{s:Str}{l:List Tm}{n:Nat}(h1:s.length<=2000)(h2:(ZaZ ⟨s,[],false⟩).1=l)(h3:(ZaZ ⟨s,[],false⟩).2.bad=false)(h4:(ZaZ ⟨s,[],false⟩).2.space.s=[])(h5:(ZaZ ⟨s,[],false⟩).2.vars.length=n)(h6:Zpp l ((n:Nat):Int)=true):ZaE s=(l,((n:Nat):Int),0):=by
 unfold ZaE;rw[if_neg (by omega),h2,h5,if_neg];rintro(h|h|h);·rw[h3]at h;cases h
 ·exact h h4
 ·exact h (Zjr h6)
/-! answering -/
noncomputable def ZnZ(P:List Cl)(g:Gl)(rest:List Gl)(s:Sv):Res×Sv:=if s.fuel=0 then(.off,s.put 3)else let s:={s with fuel:=s.fuel - 1};if decide g.t.Known=true then match ZcU g s with|(none,s')=>(.off,s')|(some true,s')=>(.next rest,s')|(some false,s')=>ZcB P s'.choices s' else if ∀c∈P,¬Zfy c.head g.t then(.off,s.put 5)else match ZcM P g rest P.length 0 s with|(.no,s')=>ZcB P s'.choices s'|r=>r
theorem Zn0(P:List Cl)(g:Gl)(rest:List Gl)(s:Sv):ZeB P g rest s=ZnZ P g rest s:=by
 unfold ZeB ZnZ;by_cases h:g.t.Known
 ·simp only[h,if_true,decide_true];by_cases h0:s.fuel=0;·rw[if_pos h0,if_pos h0]
  ·rw[if_neg h0,if_neg h0];generalize ZcU g _=X;obtain⟨o,s'⟩:=X;cases o with|none=>rfl|some b=>cases b<;>rfl
 ·simp only[h,if_false,decide_false,Bool.false_eq_true];by_cases h0:s.fuel=0;·rw[if_pos h0,if_pos h0]
  ·rw[if_neg h0,if_neg h0];split;·rfl
   ·generalize ZcM P g rest P.length 0 _=X;obtain⟨r,s'⟩:=X;cases r<;>rfl
noncomputable def ZoW(P:List Cl)(q:Nat):Nat->List Gl->Sv->Sv
 |0,_,s=>s
 |n+1,[],s=>match Zby q s with|(false,s')=>s'|(true,s')=>match ZcB P s'.choices s' with|(.next g,s'')=>ZoW P q n g s''|(_,s'')=>s''
 |n+1,g::rest,s=>match ZnZ P g rest s with|(.next g',s')=>ZoW P q n g' s'|(_,s')=>s'
theorem Zjt(P:List Cl)(q:Nat):∀(n:Nat)(gl:List Gl)(s:Sv),ZjQ P q n gl s=ZoW P q n gl s
 |0,_,s=>rfl
 |n+1,[],s=>by rw[ZjQ,ZoW];rcases Zby q s with⟨b,s'⟩;cases b with|false=>rfl|true=>simp only;rcases ZcB P s'.choices s' with⟨r,s''⟩;cases r with|next g=>exact Zjt P q n g s''|no=>rfl|off=>rfl
 |n+1,g::rest,s=>by rw[ZjQ,ZoW,Zn0];rcases ZnZ P g rest s with⟨r,s'⟩;cases r with|next g=>exact Zjt P q n g s'|no=>rfl|off=>rfl
theorem Zju{P:List Cl}{Q:List Tm}{vars fuel:Int}{out:List Ev}(hP:decide (P.length<=24)&&P.all clB=true)(hQ:Zpp Q vars=true)(h0:0<=fuel)(h1:fuel<=150)(h:(ZoW P vars.toNat (fuel.toNat+14) (Q.map fun t=>⟨t,0⟩) ⟨[],[],vars,fuel.toNat,[]⟩).out=out):Zda P Q vars fuel=(out,0):=by
 have hg:GoodP P/\ZbQ Q vars:=by simp only[Bool.and_eq_true,decide_eq_true_eq,List.all_eq_true]at hP;exact⟨⟨hP.1,fun c hc=>Zoc (hP.2 c hc)⟩,Zjr hQ⟩
 rcases Zcc P Q vars fuel with⟨h,_⟩|⟨_,h,_⟩|⟨_,_,_,h9⟩;·exact absurd hg h
 ·omega
 ·rw[h9,Zjt,h]
def Zmy:Str:=[112,40,52,41,46,32,112,40,53,41,46,32,113,40,88,44,89,41,32,58,45,32,112,40,88,41,44,32,112,40,89,41,44,32,108,101,115,115,40,88,44,89,41,46]
def Zmz:Str:=[113,40,65,44,66,41,46]
def Zpq(n:Int):Tm:= .mk 2 n ⟨#[]⟩ []
def Zod(n:Int):Tm:= .mk 0 n ⟨#[]⟩ []
def Zpx(c:UInt8)(t:Tm):Tm:= .mk 3 0 ⟨#[c]⟩ [t]
def ZmA:List Cl:=[⟨Zpx 112 (Zpq 4),[],0⟩,⟨Zpx 112 (Zpq 5),[],0⟩,⟨.mk 3 0 ⟨#[113]⟩ [Zod 0,Zod 1],[Zpx 112 (Zod 0),Zpx 112 (Zod 1),.mk 3 0 ⟨#[108,101,115,115]⟩ [Zod 0,Zod 1]],2⟩]
def ZmB:List Tm:=[.mk 3 0 ⟨#[113]⟩ [Zod 0,Zod 1]]
theorem Zli:Zbc Zmy=(ZmA,0):=Zlh (by decide) (by kernel_rfl) (by decide)
theorem Zjv:ZaE Zmz=(ZmB,2,0):=Zjs (n:=2) (by decide) (by kernel_rfl) (by kernel_rfl) (by kernel_rfl) (by kernel_rfl) (by kernel_rfl)
theorem Zjw:Zda ZmA ZmB 2 20=([⟨1,[Zpq 4,Zpq 5]⟩,⟨2,[]⟩],0):=Zju (by kernel_rfl) (by kernel_rfl) (by omega) (by omega) (by kernel_rfl)
end Go.Proofs.YtlpmfkpefoegeacDoor
