import Derived.Test.YtlpmfkpefoegeabDoorQSolveE
namespace Go.Proofs.YtlpmfkpefoegeabDoor
set_option maxRecDepth 100000
set_option maxHeartbeats 16000000
set_option linter.all false
theorem ZmQ(run:List Cl->List Tm->Int->List Ev×Int)(p q:Str)(h:(ZcI run p q).2≠0):(ZcI run p q).1=[]:=by
 unfold ZcI at h ⊢;split;·rfl
 ·rename_i h1;rw[if_neg h1]at h;split;·rfl
  ·rename_i h2;rw[if_neg h2]at h;split;·rfl
   ·rename_i h3;rw[if_neg h3]at h;exact absurd rfl h
theorem ZkM{run:List Cl->List Tm->Int->List Ev×Int}{p q:Str}(h:(ZcI run p q).2=0):(Zbd p).2=0/\(ZaF q).2.2=0/\(run (Zbd p).1 (ZaF q).1 (ZaF q).2.1).2=0/\(ZcI run p q).1=(run (Zbd p).1 (ZaF q).1 (ZaF q).2.1).1.map ZcR:=by
 unfold ZcI at h ⊢;by_cases h1:(Zbd p).2=0
 ·rw[if_neg (not_not_intro h1)]at h ⊢;by_cases h2:(ZaF q).2.2=0
  ·rw[if_neg (not_not_intro h2)]at h ⊢;by_cases h3:(run (Zbd p).1 (ZaF q).1 (ZaF q).2.1).2=0;·rw[if_neg (not_not_intro h3)];exact⟨h1,h2,h3,rfl⟩
   ·rw[if_pos h3]at h;exact absurd h h3
  ·rw[if_pos h2]at h;exact absurd h h2
 ·rw[if_pos h1]at h;exact absurd h h1
def Zp8:Str:=[100,111,110,101]
def ZjL:Str:=[102,117,101,108]
def ZpL:Str:=[108,97,114,103,101]
def ZpM:Str:=[102,97,117,108,116]
def Zpc:Str:=[101,110,111,117,103,104]
def Zqf:Str:=[121,101,115]
def Zpd(s:Str):Prop:=s=Zp8\/s=ZjL\/s=ZpL\/s=ZpM\/s=Zpc
theorem ZmR(l:List Tm):ZcR ⟨1,l⟩=Zqf++Zee 0 l:=rfl
theorem Zlt{k:Int}(h:2<=k/\k<=6):Zpd (ZcR ⟨k,[]⟩)/\(ZcR ⟨k,[]⟩=ZjL↔k=3):=by
 obtain rfl|rfl|rfl|rfl|rfl:k=2\/k=3\/k=4\/k=5\/k=6:=by omega
 all_goals exact⟨by unfold Zpd;decide,by decide⟩
theorem Zoh{p q:Str}{fuel every:Int}(h:(Ze5 p q fuel every).2=0):∃(ans:List (List Tm))(e:Str),(Ze5 p q fuel every).1=ans.map (fun l=>Zqf++Zee 0 l)++[e]/\Zpd e/\ans.length<=12/\∀l∈ans,Zml (ZaF q).2.1.toNat l:=by
 unfold Ze5 at h;obtain⟨-, -,h3,h4⟩:=ZkM h;unfold Ze5;rw[h4];by_cases he:0<=every;·rw[ZdN _ _ _ _ _ he]at h3 ⊢;obtain⟨ans,k,e,k1,k2,k3, -,k5⟩:=Zes h3;refine⟨ans,ZcR ⟨k,[]⟩,by rw[e];simp[ZmR,Function.comp_def],(Zlt ⟨k1,k2⟩).1,by omega,k5⟩
 ·exact absurd h3 (ZfW _ _ _ _ _ (by omega))
theorem ZgT(p q:Str)(fuel every:Int):(Ze5 p q fuel every).2=0↔((Zbd p).2=0/\(ZaF q).2.2=0/\0<=fuel/\fuel<=150/\0<=every):=by
 constructor
 ·intro h;unfold Ze5 at h;obtain⟨h1,h2,h3, -⟩:=ZkM h;refine⟨h1,h2,?_⟩;by_cases he:0<=every
  ·rw[ZdN _ _ _ _ _ he]at h3;rcases Zbr (Zbd p).1 (ZaF q).1 (ZaF q).2.1 fuel with⟨-,e⟩|⟨-, -,e⟩|⟨-,h4,h5, -⟩;·rw[e]at h3;simp at h3
   ·rw[e]at h3;simp at h3
   ·exact⟨h4,h5,he⟩
  ·exact absurd h3 (ZfW _ _ _ _ _ (by omega))
 ·rintro⟨h1,h2,h3,h4,h5⟩;rw[Zc4 _ _ _ _ h5];unfold ZcI;rw[if_neg (not_not_intro h1),if_neg (not_not_intro h2)];rcases Zbr (Zbd p).1 (ZaF q).1 (ZaF q).2.1 fuel with⟨hn,e⟩|⟨-,hn,e⟩|⟨-, -, -,e⟩;·exact absurd ⟨ZkV h1,Zgg h2⟩ hn
  ·omega
  ·simp only[e];simp
theorem Zoi(p q:Str){fuel fuel':Int}(h0:0<=fuel)(h1:fuel<=fuel')(h2:fuel'<=150):(Ze5 p q fuel 0).2=(Ze5 p q fuel' 0).2/\((Ze5 p q fuel 0).2=0->(Ze5 p q fuel 0).1≠[]/\((Ze5 p q fuel 0).1=(Ze5 p q fuel' 0).1\/∃o more,(Ze5 p q fuel 0).1=o++[ZjL]/\(Ze5 p q fuel' 0).1=o++more/\more≠[])):=by
 have hr:=ZgT p q fuel 0;have hr':=ZgT p q fuel' 0;have he:(Ze5 p q fuel 0).2=(Ze5 p q fuel' 0).2:=by
  rw[Zc4 _ _ _ _ (by omega),Zc4 _ _ _ _ (by omega)];unfold ZcI;split;·rfl
  ·split;·rfl
   ·obtain⟨h3, -⟩:=ZgB (P:=(Zbd p).1) (Q:=(ZaF q).1) (vars:=(ZaF q).2.1) h0 h1 h2;simp only[h3];split<;>rfl
 refine⟨he,fun h=>⟨?_,?_⟩⟩;·obtain⟨ans,e,h3, -⟩:=Zoh h;rw[h3];simp
 ·have h':(Ze5 p q fuel' 0).2=0:=by rw[<-he];exact h
  rw[Zc4 p q fuel 0 (by omega)]at h ⊢;rw[Zc4 p q fuel' 0 (by omega)]at h' ⊢;obtain⟨-, -,k3,k4⟩:=ZkM h;obtain⟨-, -,k3',k4'⟩:=ZkM h';rw[k4,k4'];obtain⟨-,hm⟩:=ZgB (P:=(Zbd p).1) (Q:=(ZaF q).1) (vars:=(ZaF q).2.1) h0 h1 h2;rcases hm k3 with e|⟨o,more,e1,e2,e3⟩;·exact .inl (by rw[e])
  ·refine .inr ⟨o.map ZcR,more.map ZcR,by rw[e1];simp;rfl,by rw[e2];simp,by simpa using e3⟩
theorem ZmS{a b:List Str}(hne:a≠[])(h:a=b\/∃o more,a=o++[ZjL]/\b=o++more/\more≠[]):∃n,∃hn:a.length=n+1,n+1<=b.length/\(a[n]'(by omega)≠ZjL->a=b)/\a.take n=b.take n:=by
 obtain⟨n,hn⟩:∃n,a.length=n+1:=⟨a.length - 1,by have :=List.length_pos_iff.2 hne;omega⟩;refine⟨n,hn,?_⟩;rcases h with rfl|⟨o,more,rfl,rfl,hm⟩;·exact⟨by omega,fun _=>rfl,rfl⟩
 ·have hmp:=List.length_pos_iff.2 hm;have ho:o.length=n:=by simpa using hn
  subst ho;exact⟨by simp only[List.length_append];omega,fun h=>absurd (by simp) h,by simp⟩
end Go.Proofs.YtlpmfkpefoegeabDoor
