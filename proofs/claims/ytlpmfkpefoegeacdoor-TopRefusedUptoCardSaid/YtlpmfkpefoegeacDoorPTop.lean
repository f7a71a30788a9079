import Derived.Test.YtlpmfkpefoegeacDoorQSolveE
namespace Go.Proofs.YtlpmfkpefoegeacDoor
set_option maxRecDepth 100000
set_option maxHeartbeats 16000000
set_option linter.all false
theorem ZoT(run:List Cl->List Tm->Int->List Ev×Int)(p q:Str)(h:(ZcP run p q).2≠0):(ZcP run p q).1=[]:=by
 unfold ZcP at h ⊢;split;·rfl
 ·rename_i h1;rw[if_neg h1]at h;split;·rfl
  ·rename_i h2;rw[if_neg h2]at h;split;·rfl
   ·rename_i h3;rw[if_neg h3]at h;exact absurd rfl h
theorem Zpr{run:List Cl->List Tm->Int->List Ev×Int}{p q:Str}(h:(ZcP run p q).2=0):(Zbc p).2=0/\(ZaE q).2.2=0/\(run (Zbc p).1 (ZaE q).1 (ZaE q).2.1).2=0/\(ZcP run p q).1=(run (Zbc p).1 (ZaE q).1 (ZaE q).2.1).1.map Zef:=by
 unfold ZcP at h ⊢;by_cases h1:(Zbc p).2=0
 ·rw[if_neg (not_not_intro h1)]at h ⊢;by_cases h2:(ZaE q).2.2=0
  ·rw[if_neg (not_not_intro h2)]at h ⊢;by_cases h3:(run (Zbc p).1 (ZaE q).1 (ZaE q).2.1).2=0;·rw[if_neg (not_not_intro h3)];exact⟨h1,h2,h3,rfl⟩
   ·rw[if_pos h3]at h;exact absurd h h3
  ·rw[if_pos h2]at h;exact absurd h h2
 ·rw[if_pos h1]at h;exact absurd h h1
theorem Zjx(p q:Str)(fuel every:Int):(ZmD p q fuel every).2=0↔((Zbc p).2=0/\(ZaE q).2.2=0/\0<=fuel/\fuel<=150/\0<=every):=by
 constructor
 ·intro h;unfold ZmD at h;obtain⟨h1,h2,h3, -⟩:=Zpr h;refine⟨h1,h2,?_⟩;by_cases he:0<=every
  ·rw[ZeO _ _ _ _ _ he]at h3;rcases Zcc (Zbc p).1 (ZaE q).1 (ZaE q).2.1 fuel with⟨-,e⟩|⟨-, -,e⟩|⟨-,h4,h5, -⟩;·rw[e]at h3;simp at h3
   ·rw[e]at h3;simp at h3
   ·exact⟨h4,h5,he⟩
  ·exact absurd h3 (Zhz _ _ _ _ _ (by omega))
 ·rintro⟨h1,h2,h3,h4,h5⟩;rw[Ziw _ _ _ _ h5];unfold ZcP;rw[if_neg (not_not_intro h1),if_neg (not_not_intro h2)];rcases Zcc (Zbc p).1 (ZaE q).1 (ZaE q).2.1 fuel with⟨hn,e⟩|⟨-,hn,e⟩|⟨-, -, -,e⟩;·exact absurd ⟨ZkK h1,Zf5 h2⟩ hn
  ·omega
  ·simp only[e];simp
end Go.Proofs.YtlpmfkpefoegeacDoor
