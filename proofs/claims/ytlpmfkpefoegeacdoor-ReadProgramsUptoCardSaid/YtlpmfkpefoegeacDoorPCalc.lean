import Derived.Test.YtlpmfkpefoegeacDoorPRead4
import Derived.Test.YtlpmfkpefoegeacDoorPSolve2
import Derived.KernelRfl
namespace Go.Proofs.YtlpmfkpefoegeacDoor
set_option maxRecDepth 100000
set_option maxHeartbeats 16000000
set_option linter.all false
def Zgf(d:Str):Bool:=d==[33]||(decide (1<=d.length)&&decide (d.length<=8)&&d.all Zba)
theorem Zeh{s:ByteArray}(h:Zgf s.data.toList=true):IsName s:=by
 unfold Zgf at h;simp only[Bool.or_eq_true,Bool.and_eq_true,beq_iff_eq,decide_eq_true_eq,List.all_eq_true]at h;rcases h with h|⟨⟨h1,h2⟩,h3⟩
 ·left;have e:s=⟨s.data.toList.toArray⟩:=by simp
  rw[e,h]
 ·right;have hs:s.data.toList.length=s.size:=Array.length_toList;refine⟨by omega,by omega,fun i hi=>?_⟩;have hm:s[i]∈s.data.toList:=by show s.data[i]∈_;exact Array.getElem_mem_toList hi
  have :=h3 _ hm;unfold Zba at this;simp only[Bool.and_eq_true,decide_eq_true_eq]at this;omega
mutual
def Zgg (v : Int) : Tm → Bool
  | .mk k n s l => if k = 0 then decide (0 ≤ n) && decide (n < v) && s.data.toList.isEmpty && l.isEmpty
    else if k = 1 then decide (n = 0) && Zgf s.data.toList && l.isEmpty
    else if k = 2 then decide (-1099511627776 ≤ n) && decide (n ≤ 1099511627776) && s.data.toList.isEmpty && l.isEmpty
    else if k = 3 then decide (n = 0) && Zgf s.data.toList && !(s.data.toList == [33]) && decide (1 ≤ l.length) && decide (l.length ≤ 4) && Zei v l
    else false
def Zei (v : Int) : List Tm → Bool
  | [] => true
  | t :: r => Zgg v t && Zei v r
end
theorem Zej{s:ByteArray}(h:s.data.toList.isEmpty=true):s=ByteArray.empty:=by
 have e:s=⟨s.data.toList.toArray⟩:=by simp
 rw[List.isEmpty_iff]at h;rw[e,h];rfl
theorem Zgh{v:Int}:∀t:Tm,Zgg v t=true->t.Good v:=by
 intro t;induction t using Tm.induct with
  |h k n s l ih=>
   intro h;unfold Zgg at h;split at h;·rename_i hk;simp only[Bool.and_eq_true,decide_eq_true_eq,List.isEmpty_iff]at h;obtain⟨⟨⟨h1,h2⟩,h3⟩,h4⟩:=h;rw[hk,Zej (List.isEmpty_iff.2 h3),h4];exact .var n h1 h2
   ·split at h;·rename_i hk;simp only[Bool.and_eq_true,decide_eq_true_eq,List.isEmpty_iff]at h;obtain⟨⟨h1,h2⟩,h3⟩:=h;rw[hk,h1,h3];exact .atom s (Zeh h2)
    ·split at h;·rename_i hk;simp only[Bool.and_eq_true,decide_eq_true_eq,List.isEmpty_iff]at h;obtain⟨⟨⟨h1,h2⟩,h3⟩,h4⟩:=h;rw[hk,Zej (List.isEmpty_iff.2 h3),h4];exact .int n h1 h2
     ·split at h
      ·rename_i hk;simp only[Bool.and_eq_true,decide_eq_true_eq,Bool.not_eq_true',beq_eq_false_iff_ne]at h;obtain⟨⟨⟨⟨⟨h1,h2⟩,h3⟩,h4⟩,h5⟩,h6⟩:=h;rw[hk,h1];have hl:∀(l':List Tm),(∀x∈l',x∈l)->Zei v l'=true->∀x∈l',x.Good v:=by
        intro l';induction l' with
         |nil=>intro _ _ x hx;cases hx
         |cons y r ihr=>
          intro hm hg x hx;unfold Zei at hg;simp only[Bool.and_eq_true]at hg;rcases List.mem_cons.1 hx with rfl|hx;·exact ih _ (hm _ (by simp)) hg.1
          ·exact ihr (fun z hz=>hm z (by simp[hz])) hg.2 x hx
       exact .comp s l (Zeh h2) (by rw[ByteArray.toList_eq];exact h3) h4 h5 (hl l (fun x hx=>hx) h6)
      ·cases h
instance decKnown(t:Tm):Decidable t.Known:=by unfold Tm.Known;infer_instance
def Zgi(v:Int)(t:Tm):Bool:=(t.kind==1||t.kind==3)&&Zgg v t&&decide (t.nodes<=24)
theorem Zc5{v:Int}{t:Tm}(h:Zgi v t=true):t.IsGoal/\t.Fits v:=by unfold Zgi at h;simp only[Bool.and_eq_true,Bool.or_eq_true,beq_iff_eq,decide_eq_true_eq]at h;exact⟨h.1.1,Zgh _ h.1.2,h.2⟩
def Zhe(l:List Tm)(v:Int):Bool:=decide (0<=v)&&decide (v<=8)&&decide (l.length<=5)&&l.all (Zgi v)
theorem ZgJ{l:List Tm}{v:Int}(h:Zhe l v=true):Zem l v:=by unfold Zhe at h;simp only[Bool.and_eq_true,decide_eq_true_eq,List.all_eq_true]at h;exact⟨h.1.1.1,h.1.1.2,h.1.2,fun g hg=>Zc5 (h.2 g hg)⟩
def clB(c:Cl):Bool:=Zhe c.body c.vars&&Zgi c.vars c.head&&!decide c.head.Known
theorem Zg3{c:Cl}(h:clB c=true):c.Good:=by unfold clB at h;simp only[Bool.and_eq_true,Bool.not_eq_true',decide_eq_false_iff_not]at h;exact⟨ZgJ h.1.1,(Zc5 h.1.2).1,(Zc5 h.1.2).2,h.2⟩
/-! reading -/
def Zgj:Nat->List Cl->Rd->Option (List Cl)|0,l,_=>none|k+1,l,r=>if r.space.s=[]then some l else if(Zak r.space).2.bad=false/\clB (Zak r.space).1=true then Zgj k (l++[(Zak r.space).1]) (Zak r.space).2 else none
theorem Zek:∀(k:Nat)(l:List Cl)(r:Rd)(l':List Cl),Zgj k l r=some l'->Zbi k l r=some l'
 |0,l,r,l',h=>by cases h
 |k+1,l,r,l',h=>by
  rw[Zgj]at h;rw[Zbi];split at h;·rename_i h0;rw[if_pos h0];exact h
  ·rename_i h0;rw[if_neg h0];split at h;·rename_i hb;rw[if_neg (fun e=>e.elim (fun e=>by rw[hb.1]at e;cases e) (fun e=>e (Zg3 hb.2)))];exact Zek k _ _ _ h
   ·cases h
theorem ZeM{s:Str}{l:List Cl}(h1:s.length<=2000)(h2:Zgj (s.length+1) [] ⟨s,[],false⟩=some l)(h3:l.length<=24):ZbJ s=(l,0):=by unfold ZbJ;rw[if_neg (by omega),Zek _ _ _ _ h2];unfold ZcV;simp only;rw[if_neg (by omega)]
/-! answering -/
def Zg5(n:Int):Tm:= .mk 2 n ⟨#[]⟩ []
def Zhi(n:Int):Tm:= .mk 0 n ⟨#[]⟩ []
def ZgN(c:UInt8)(t:Tm):Tm:= .mk 3 0 ⟨#[c]⟩ [t]
end Go.Proofs.YtlpmfkpefoegeacDoor
