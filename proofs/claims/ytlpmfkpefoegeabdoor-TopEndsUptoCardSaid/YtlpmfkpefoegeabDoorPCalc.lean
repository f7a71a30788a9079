import Derived.Test.YtlpmfkpefoegeabDoorQMap
import Derived.Test.YtlpmfkpefoegeabDoorPProve2
import Derived.KernelRfl
namespace Go.Proofs.YtlpmfkpefoegeabDoor
set_option maxRecDepth 100000
set_option maxHeartbeats 16000000
set_option linter.all false
def ZnX(d:Str):Bool:=d==[33]||(decide (1<=d.length)&&decide (d.length<=8)&&d.all Zll)
theorem Zkx{s:ByteArray}(h:ZnX s.data.toList=true):Zfo s:=by
 unfold ZnX at h;simp only[Bool.or_eq_true,Bool.and_eq_true,beq_iff_eq,decide_eq_true_eq,List.all_eq_true]at h;rcases h with h|⟨⟨h1,h2⟩,h3⟩
 ·left;have e:s=⟨s.data.toList.toArray⟩:=by simp
  rw[e,h]
 ·right;have hs:s.data.toList.length=s.size:=Array.length_toList;refine⟨by omega,by omega,fun i hi=>?_⟩;have hm:s[i]∈s.data.toList:=by show s.data[i]∈_;exact Array.getElem_mem_toList hi
  have :=h3 _ hm;unfold Zll at this;simp only[Bool.and_eq_true,decide_eq_true_eq]at this;omega
mutual
def ZnY (v : Int) : Tm → Bool
  | .mk k n s l => if k = 0 then decide (0 ≤ n) && decide (n < v) && s.data.toList.isEmpty && l.isEmpty
    else if k = 1 then decide (n = 0) && ZnX s.data.toList && l.isEmpty
    else if k = 2 then decide (-1099511627776 ≤ n) && decide (n ≤ 1099511627776) && s.data.toList.isEmpty && l.isEmpty
    else if k = 3 then decide (n = 0) && ZnX s.data.toList && !(s.data.toList == [33]) && decide (1 ≤ l.length) && decide (l.length ≤ 4) && Zky v l
    else false
def Zky (v : Int) : List Tm → Bool
  | [] => true
  | t :: r => ZnY v t && Zky v r
end
theorem Zkz{s:ByteArray}(h:s.data.toList.isEmpty=true):s=ByteArray.empty:=by
 have e:s=⟨s.data.toList.toArray⟩:=by simp
 rw[List.isEmpty_iff]at h;rw[e,h];rfl
theorem ZnZ{v:Int}:∀t:Tm,ZnY v t=true->t.Good v:=by
 intro t;induction t using Tm.induct with
  |h k n s l ih=>
   intro h;unfold ZnY at h;split at h;·rename_i hk;simp only[Bool.and_eq_true,decide_eq_true_eq,List.isEmpty_iff]at h;obtain⟨⟨⟨h1,h2⟩,h3⟩,h4⟩:=h;rw[hk,Zkz (List.isEmpty_iff.2 h3),h4];exact .var n h1 h2
   ·split at h;·rename_i hk;simp only[Bool.and_eq_true,decide_eq_true_eq,List.isEmpty_iff]at h;obtain⟨⟨h1,h2⟩,h3⟩:=h;rw[hk,h1,h3];exact .atom s (Zkx h2)
    ·split at h;·rename_i hk;simp only[Bool.and_eq_true,decide_eq_true_eq,List.isEmpty_iff]at h;obtain⟨⟨⟨h1,h2⟩,h3⟩,h4⟩:=h;rw[hk,Zkz (List.isEmpty_iff.2 h3),h4];exact .int n h1 h2
     ·split at h
      ·rename_i hk;simp only[Bool.and_eq_true,decide_eq_true_eq,Bool.not_eq_true',beq_eq_false_iff_ne]at h;obtain⟨⟨⟨⟨⟨h1,h2⟩,h3⟩,h4⟩,h5⟩,h6⟩:=h;rw[hk,h1];have hl:∀(l':List Tm),(∀x∈l',x∈l)->Zky v l'=true->∀x∈l',x.Good v:=by
        intro l';induction l' with
         |nil=>intro _ _ x hx;cases hx
         |cons y r ihr=>
          intro hm hg x hx;unfold Zky at hg;simp only[Bool.and_eq_true]at hg;rcases List.mem_cons.1 hx with rfl|hx;·exact ih _ (hm _ (by simp)) hg.1
          ·exact ihr (fun z hz=>hm z (by simp[hz])) hg.2 x hx
       exact .comp s l (Zkx h2) (by rw[ByteArray.toList_eq];exact h3) h4 h5 (hl l (fun x hx=>hx) h6)
      ·cases h
instance decKnown(t:Tm):Decidable t.Known:=by unfold Tm.Known;infer_instance
def Zn0(v:Int)(t:Tm):Bool:=(t.kind==1||t.kind==3)&&ZnY v t&&decide (t.nodes<=24)
theorem ZhM{v:Int}{t:Tm}(h:Zn0 v t=true):t.IsGoal/\t.Fits v:=by unfold Zn0 at h;simp only[Bool.and_eq_true,Bool.or_eq_true,beq_iff_eq,decide_eq_true_eq]at h;exact⟨h.1.1,ZnZ _ h.1.2,h.2⟩
def Zpu(l:List Tm)(v:Int):Bool:=decide (0<=v)&&decide (v<=8)&&decide (l.length<=5)&&l.all (Zn0 v)
theorem Zju{l:List Tm}{v:Int}(h:Zpu l v=true):ZbQ l v:=by unfold Zpu at h;simp only[Bool.and_eq_true,decide_eq_true_eq,List.all_eq_true]at h;exact⟨h.1.1.1,h.1.1.2,h.1.2,fun g hg=>ZhM (h.2 g hg)⟩
def clB(c:Cl):Bool:=Zpu c.body c.vars&&Zn0 c.vars c.head&&!decide c.head.Known
theorem Zog{c:Cl}(h:clB c=true):c.Good:=by unfold clB at h;simp only[Bool.and_eq_true,Bool.not_eq_true',decide_eq_false_iff_not]at h;exact⟨Zju h.1.1,(ZhM h.1.2).1,(ZhM h.1.2).2,h.2⟩
/-! reading -/
def Zn1:Nat->List Cl->Rd->Option (List Cl)|0,l,_=>none|k+1,l,r=>if r.space.s=[]then some l else if(ZaJ r.space).2.bad=false/\clB (ZaJ r.space).1=true then Zn1 k (l++[(ZaJ r.space).1]) (ZaJ r.space).2 else none
theorem ZkA:∀(k:Nat)(l:List Cl)(r:Rd)(l':List Cl),Zn1 k l r=some l'->Zck k l r=some l'
 |0,l,r,l',h=>by cases h
 |k+1,l,r,l',h=>by
  rw[Zn1]at h;rw[Zck];split at h;·rename_i h0;rw[if_pos h0];exact h
  ·rename_i h0;rw[if_neg h0];split at h;·rename_i hb;rw[if_neg (fun e=>e.elim (fun e=>by rw[hb.1]at e;cases e) (fun e=>e (Zog hb.2)))];exact ZkA k _ _ _ h
   ·cases h
theorem Zlg{s:Str}{l:List Cl}(h1:s.length<=2000)(h2:Zn1 (s.length+1) [] ⟨s,[],false⟩=some l)(h3:l.length<=24):Zbw s=(l,0):=by unfold Zbw;rw[if_neg (by omega),ZkA _ _ _ _ h2];unfold Zh0;simp only;rw[if_neg (by omega)]
theorem Zjv{s:Str}{l:List Tm}{n:Nat}(h1:s.length<=2000)(h2:(ZaZ ⟨s,[],false⟩).1=l)(h3:(ZaZ ⟨s,[],false⟩).2.bad=false)(h4:(ZaZ ⟨s,[],false⟩).2.space.s=[])(h5:(ZaZ ⟨s,[],false⟩).2.vars.length=n)(h6:Zpu l ((n:Nat):Int)=true):ZaK s=(l,((n:Nat):Int),0):=by
 unfold ZaK;rw[if_neg (by omega),h2,h5,if_neg];rintro(h|h|h);·rw[h3]at h;cases h
 ·exact h h4
 ·exact h (Zju h6)
/-! answering -/
noncomputable def Zn2(P:List Cl)(g:Gl)(rest:List Gl)(s:Sv):Res×Sv:=if s.fuel=0 then(.off,s.put 3)else let s:={s with fuel:=s.fuel - 1};if decide g.t.Known=true then match ZcS g s with|(none,s')=>(.off,s')|(some true,s')=>(.next rest,s')|(some false,s')=>ZcA P s'.choices s' else if ∀c∈P,¬ZfC c.head g.t then(.off,s.put 5)else match ZcL P g rest P.length 0 s with|(.no,s')=>ZcA P s'.choices s'|r=>r
theorem Zn3(P:List Cl)(g:Gl)(rest:List Gl)(s:Sv):ZeE P g rest s=Zn2 P g rest s:=by
 unfold ZeE Zn2;by_cases h:g.t.Known
 ·simp only[h,if_true,decide_true];by_cases h0:s.fuel=0;·rw[if_pos h0,if_pos h0]
  ·rw[if_neg h0,if_neg h0];generalize ZcS g _=X;obtain⟨o,s'⟩:=X;cases o with|none=>rfl|some b=>cases b<;>rfl
 ·simp only[h,if_false,decide_false,Bool.false_eq_true];by_cases h0:s.fuel=0;·rw[if_pos h0,if_pos h0]
  ·rw[if_neg h0,if_neg h0];split;·rfl
   ·generalize ZcL P g rest P.length 0 _=X;obtain⟨r,s'⟩:=X;cases r<;>rfl
noncomputable def Zo2(P:List Cl)(q:Nat):Nat->List Gl->Sv->Sv
 |0,_,s=>s
 |n+1,[],s=>match Zbz q s with|(false,s')=>s'|(true,s')=>match ZcA P s'.choices s' with|(.next g,s'')=>Zo2 P q n g s''|(_,s'')=>s''
 |n+1,g::rest,s=>match Zn2 P g rest s with|(.next g',s')=>Zo2 P q n g' s'|(_,s')=>s'
theorem Zjw(P:List Cl)(q:Nat):∀(n:Nat)(gl:List Gl)(s:Sv),ZjS P q n gl s=Zo2 P q n gl s
 |0,_,s=>rfl
 |n+1,[],s=>by rw[ZjS,Zo2];rcases Zbz q s with⟨b,s'⟩;cases b with|false=>rfl|true=>simp only;rcases ZcA P s'.choices s' with⟨r,s''⟩;cases r with|next g=>exact Zjw P q n g s''|no=>rfl|off=>rfl
 |n+1,g::rest,s=>by rw[ZjS,Zo2,Zn3];rcases Zn2 P g rest s with⟨r,s'⟩;cases r with|next g=>exact Zjw P q n g s'|no=>rfl|off=>rfl
theorem Zjx{P:List Cl}{Q:List Tm}{vars fuel:Int}{out:List Ev}(hP:decide (P.length<=24)&&P.all clB=true)(hQ:Zpu Q vars=true)(h0:0<=fuel)(h1:fuel<=150)(h:(Zo2 P vars.toNat (fuel.toNat+14) (Q.map fun t=>⟨t,0⟩) ⟨[],[],vars,fuel.toNat,[]⟩).out=out):Zc9 P Q vars fuel=(out,0):=by
 have hg:GoodP P/\ZbQ Q vars:=by simp only[Bool.and_eq_true,decide_eq_true_eq,List.all_eq_true]at hP;exact⟨⟨hP.1,fun c hc=>Zog (hP.2 c hc)⟩,Zju hQ⟩
 rcases ZdG P Q vars fuel with⟨h,_⟩|⟨_,h,_⟩|⟨_,_,_,h9⟩;·exact absurd hg h
 ·omega
 ·rw[h9,Zjw,h]
def ZmC:Str:=[112,40,52,41,46,32,112,40,53,41,46,32,113,40,88,44,89,41,32,58,45,32,112,40,88,41,44,32,112,40,89,41,44,32,108,101,115,115,40,88,44,89,41,46]
def ZmD:Str:=[113,40,65,44,66,41,46]
def Zpv(n:Int):Tm:= .mk 2 n ⟨#[]⟩ []
def Zoh(n:Int):Tm:= .mk 0 n ⟨#[]⟩ []
def ZpC(c:UInt8)(t:Tm):Tm:= .mk 3 0 ⟨#[c]⟩ [t]
def ZmE:List Cl:=[⟨ZpC 112 (Zpv 4),[],0⟩,⟨ZpC 112 (Zpv 5),[],0⟩,⟨.mk 3 0 ⟨#[113]⟩ [Zoh 0,Zoh 1],[ZpC 112 (Zoh 0),ZpC 112 (Zoh 1),.mk 3 0 ⟨#[108,101,115,115]⟩ [Zoh 0,Zoh 1]],2⟩]
def ZmF:List Tm:=[.mk 3 0 ⟨#[113]⟩ [Zoh 0,Zoh 1]]
theorem Zlh:Zbw ZmC=(ZmE,0):=Zlg (by decide) (by kernel_rfl) (by decide)
theorem Zjy:ZaK ZmD=(ZmF,2,0):=Zjv (n:=2) (by decide) (by kernel_rfl) (by kernel_rfl) (by kernel_rfl) (by kernel_rfl) (by kernel_rfl)
theorem Zjz:Zc9 ZmE ZmF 2 20=([⟨1,[Zpv 4,Zpv 5]⟩,⟨2,[]⟩],0):=Zjx (by kernel_rfl) (by kernel_rfl) (by omega) (by omega) (by kernel_rfl)
end Go.Proofs.YtlpmfkpefoegeabDoor
