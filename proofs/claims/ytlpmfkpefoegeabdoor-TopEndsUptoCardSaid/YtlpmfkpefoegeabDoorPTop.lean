import Derived.Test.YtlpmfkpefoegeabDoorQSolveE
namespace Go.Proofs.YtlpmfkpefoegeabDoor
set_option maxRecDepth 100000
set_option maxHeartbeats 16000000
set_option linter.all false
theorem ZoX(run:List Cl->List Tm->Int->List Ev×Int)(p q:Str)(h:(Zc6 run p q).2≠0):(Zc6 run p q).1=[]:=by
 unfold Zc6 at h ⊢;split;·rfl
 ·rename_i h1;rw[if_neg h1]at h;split;·rfl
  ·rename_i h2;rw[if_neg h2]at h;split;·rfl
   ·rename_i h3;rw[if_neg h3]at h;exact absurd rfl h
theorem Zpw{run:List Cl->List Tm->Int->List Ev×Int}{p q:Str}(h:(Zc6 run p q).2=0):(Zbw p).2=0/\(ZaK q).2.2=0/\(run (Zbw p).1 (ZaK q).1 (ZaK q).2.1).2=0/\(Zc6 run p q).1=(run (Zbw p).1 (ZaK q).1 (ZaK q).2.1).1.map Zdc:=by
 unfold Zc6 at h ⊢;by_cases h1:(Zbw p).2=0
 ·rw[if_neg (not_not_intro h1)]at h ⊢;by_cases h2:(ZaK q).2.2=0
  ·rw[if_neg (not_not_intro h2)]at h ⊢;by_cases h3:(run (Zbw p).1 (ZaK q).1 (ZaK q).2.1).2=0;·rw[if_neg (not_not_intro h3)];exact⟨h1,h2,h3,rfl⟩
   ·rw[if_pos h3]at h;exact absurd h h3
  ·rw[if_pos h2]at h;exact absurd h h2
 ·rw[if_pos h1]at h;exact absurd h h1
def ZiI:Str:=[100,111,110,101]
def ZhO:Str:=[102,117,101,108]
def Zfz:Str:=[108,97,114,103,101]
def ZfA:Str:=[102,97,117,108,116]
def ZdO:Str:=[101,110,111,117,103,104]
def ZpS:Str:=[121,101,115]
def ZoY(s:Str):Prop:=s=ZiI\/s=ZhO\/s=Zfz\/s=ZfA\/s=ZdO
theorem Zli{k:Int}(h:2<=k/\k<=6):ZoY (Zdc ⟨k,[]⟩)/\(Zdc ⟨k,[]⟩=ZhO↔k=3):=by
 obtain rfl|rfl|rfl|rfl|rfl:k=2\/k=3\/k=4\/k=5\/k=6:=by omega
 all_goals exact⟨by unfold ZoY;decide,by decide⟩
theorem lineF_ans(l:List Tm):Zdc ⟨1,l⟩=ZpS++Zeh 0 l:=rfl
theorem Zn5{p q:Str}{fuel every:Int}(h:(Zlj p q fuel every).2=0):∃(ans:List (List Tm))(e:Str),(Zlj p q fuel every).1=ans.map (fun l=>ZpS++Zeh 0 l)++[e]/\ZoY e/\ans.length<=12/\∀l∈ans,Zmb (ZaK q).2.1.toNat l:=by
 unfold Zlj at h;obtain⟨-, -,h3,h4⟩:=Zpw h;unfold Zlj;rw[h4];by_cases he:0<=every;·rw[ZeQ _ _ _ _ _ he]at h3 ⊢;obtain⟨ans,k,e,k1,k2,k3, -,k5⟩:=Zen h3;refine⟨ans,Zdc ⟨k,[]⟩,by rw[e];simp[lineF_ans,Function.comp_def],(Zli ⟨k1,k2⟩).1,by omega,k5⟩
 ·exact absurd h3 (Zhy _ _ _ _ _ (by omega))
end Go.Proofs.YtlpmfkpefoegeabDoor
