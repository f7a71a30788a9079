import Derived.Test.YtlpmfkpefoegeacDoorQSolveE
namespace Go.Proofs.YtlpmfkpefoegeacDoor
set_option maxRecDepth 100000
set_option maxHeartbeats 16000000
set_option linter.all false
theorem Zpu{run:List Cl->List Tm->Int->List Ev×Int}{p q:Str}(h:(Zfg run p q).2=0):(Zbv p).2=0/\(ZaH q).2.2=0/\(run (Zbv p).1 (ZaH q).1 (ZaH q).2.1).2=0/\(Zfg run p q).1=(run (Zbv p).1 (ZaH q).1 (ZaH q).2.1).1.map Zc3:=by
 unfold Zfg at h ⊢;by_cases h1:(Zbv p).2=0
 ·rw[if_neg (not_not_intro h1)]at h ⊢;by_cases h2:(ZaH q).2.2=0
  ·rw[if_neg (not_not_intro h2)]at h ⊢;by_cases h3:(run (Zbv p).1 (ZaH q).1 (ZaH q).2.1).2=0;·rw[if_neg (not_not_intro h3)];exact⟨h1,h2,h3,rfl⟩
   ·rw[if_pos h3]at h;exact absurd h h3
  ·rw[if_pos h2]at h;exact absurd h h2
 ·rw[if_pos h1]at h;exact absurd h h1
def ZpT:Str:=[100,111,110,101]
def Zpv:Str:=[102,117,101,108]
def Zpw:Str:=[108,97,114,103,101]
def Zpx:Str:=[102,97,117,108,116]
def ZoV:Str:=[101,110,111,117,103,104]
def ZpE:Str:=[121,101,115]
def ZoW(s:Str):Prop:=s=ZpT\/s=Zpv\/s=Zpw\/s=Zpx\/s=ZoV
theorem ZmD(l:List Tm):Zc3 ⟨1,l⟩=ZpE++Zd7 0 l:=rfl
theorem Zlf{k:Int}(h:2<=k/\k<=6):ZoW (Zc3 ⟨k,[]⟩)/\(Zc3 ⟨k,[]⟩=Zpv↔k=3):=by
 obtain rfl|rfl|rfl|rfl|rfl:k=2\/k=3\/k=4\/k=5\/k=6:=by omega
 all_goals exact⟨by unfold ZoW;decide,by decide⟩
theorem Zn3{p q:Str}{fuel every:Int}(h:(ZmE p q fuel every).2=0):∃(ans:List (List Tm))(e:Str),(ZmE p q fuel every).1=ans.map (fun l=>ZpE++Zd7 0 l)++[e]/\ZoW e/\ans.length<=12/\∀l∈ans,Zl7 (ZaH q).2.1.toNat l:=by
 unfold ZmE at h;obtain⟨-, -,h3,h4⟩:=Zpu h;unfold ZmE;rw[h4];by_cases he:0<=every;·rw[ZeO _ _ _ _ _ he]at h3 ⊢;obtain⟨ans,k,e,k1,k2,k3, -,k5⟩:=Zel h3;refine⟨ans,Zc3 ⟨k,[]⟩,by rw[e];simp[ZmD,Function.comp_def],(Zlf ⟨k1,k2⟩).1,by omega,k5⟩
 ·exact absurd h3 (Zhx _ _ _ _ _ (by omega))
theorem Zhf{f:Rd->Tm×Rd}:∀(k:Nat)(l:List Tm)(r:Rd),l≠[]->(ZaN f k l r).1≠[]
 |0,l,r,h=>by rw[ZaN];exact h
 |k+1,l,r,h=>by
  rw[ZaN];split;·exact h
  ·split;·exact Zhf k _ _ (by simp)
   ·simp
theorem Zlg{q:Str}(h:(ZaH q).2.2=0):(ZaH q).1≠[]:=by
 unfold ZaH at h ⊢;split;·rename_i h1;rw[if_pos h1]at h;simp at h
 ·rename_i h1;rw[if_neg h1]at h;split;·rename_i h2;rw[if_pos h2]at h;simp at h
  ·show(ZaU ⟨q,[],false⟩).1≠[];unfold ZaU;simp only;rw[ZaN,if_neg (by simp)];split;·exact Zhf _ _ _ (by simp)
   ·simp
end Go.Proofs.YtlpmfkpefoegeacDoor
