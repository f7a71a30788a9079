import Derived.Test.YtlpmfkpefoegeacDoorPRead2
namespace Go.Proofs.YtlpmfkpefoegeacDoor
set_option maxRecDepth 100000
set_option maxHeartbeats 16000000
set_option linter.all false
theorem ZcP{f:Rd->Tm×Rd}(hf:∀r,(f r).1.nodes+(f r).2.s.length<=r.s.length+1):∀(k:Nat)(l:List Tm)(r:Rd),Tm.nodesL (ZaI f k l r).1+(ZaI f k l r).2.s.length<=Tm.nodesL l+r.s.length+1
 |0,l,r=>by rw[ZaI];simp only;omega
 |k+1,l,r=>by
  rw[ZaI];have h1:=hf r;have h2:=ZaY (sg:=[44]) (f r).2;have h3:Tm.nodesL (l++[(f r).1])=Tm.nodesL l+(f r).1.nodes:=by rw[Tm.nodesL_append];simp[Tm.nodesL]
  split;·simp only;omega
  ·split;·rename_i ha;have h4:=h2.2 ha;simp only[List.length_singleton]at h4;have :=ZcP hf k (l++[(f r).1]) ((f r).2.at_ [44]).2;omega
   ·simp only;have :=h2.1;omega
theorem ZeB{f:Rd->Tm×Rd}(hf:∀r,(f r).1.nodes+(f r).2.s.length<=r.s.length+1)(w:Str)(r:Rd):(Zce f w r).1.nodes+(Zce f w r).2.s.length<=r.s.length+1:=by
 unfold Zce;have h1:=ZaY (sg:=[40]) r;split;·have :=h1.1;simp only[Tm.nodes,Tm.nodesL];omega
 ·rename_i ha;have h2:=h1.2 (by simpa using ha);simp only[List.length_singleton]at h2;simp only;have h3:=ZcP hf ((r.at_ [40]).2.s.length+1) [] (r.at_ [40]).2;have h4:=(ZaY (sg:=[41]) (ZaI f ((r.at_ [40]).2.s.length+1) [] (r.at_ [40]).2).2).1;simp only[Tm.nodesL]at h3;simp only[Tm.nodes];split;·omega
  ·simp only[Rd.kill];omega
theorem ZeC{f:Rd->Tm×Rd}(hf:∀r,(f r).1.nodes+(f r).2.s.length<=r.s.length+1)(c:UInt8)(rest:Str)(vars:List Str):(Zb2 f c rest vars).1.nodes+(Zb2 f c rest vars).2.s.length<=rest.length+2:=by
 unfold Zb2;split;·have :=Zb3 (Zac (c::rest)) (c::rest);simp only[List.length_cons]at this;simp only[Tm.nodes,Tm.nodesL];omega
 ·split;·simp only[Tm.nodes,Tm.nodesL];omega
  ·split
   ·split;·have :=Zb3 (Zaf (c::rest)) (c::rest);simp only[List.length_cons]at this;simp only[Tm.nodes,Tm.nodesL];omega
    ·simp only[Tm.nodes,Tm.nodesL,List.length_cons];omega
   ·have h1:=ZeB hf ((c::rest).take (Zac (c::rest))) ⟨(c::rest).drop (Zac (c::rest)),vars,false⟩;have h2:=Zb3 (Zac (c::rest)) (c::rest);simp only[List.length_cons]at h1 h2;omega
theorem Zb9:∀(n:Nat)(r:Rd),(Zap n r).1.nodes+(Zap n r).2.s.length<=r.s.length+1
 |0,r=>by have :=ZaH r.s;simp only[Zap,tmz,Tm.nodes,Tm.nodesL,Rd.kill,Rd.space];omega
 |n+1,r=>by
  have h0:=ZaH r.s;have hz:(tmz,r.space.kill).1.nodes+(tmz,r.space.kill).2.s.length<=r.s.length+1:=by simp only[tmz,Tm.nodes,Tm.nodesL,Rd.kill,Rd.space];omega
  unfold Zap;split;·exact hz
  ·split;·exact hz
   ·rename_i c rest hs;have :=ZeC (Zb9 n) c rest r.vars;rw[hs]at h0;simp only[List.length_cons]at h0;omega
theorem Zb1{f:Rd->Tm×Rd}(hf:∀r,(f r).1.nodes+(f r).2.s.length<=r.s.length+1):∀(k:Nat)(l:List Tm)(r:Rd),Tm.nodesL (Zal f k l r).1+(Zal f k l r).2.s.length<=Tm.nodesL l+r.s.length+1
 |0,l,r=>by rw[Zal];simp only;omega
 |k+1,l,r=>by
  rw[Zal];have h1:=hf r;have h2:=ZaY (sg:=[44]) (f r).2;have h3:Tm.nodesL (l++[(f r).1])=Tm.nodesL l+(f r).1.nodes:=by rw[Tm.nodesL_append];simp[Tm.nodesL]
  split;·simp only;omega
  ·split;·rename_i ha;have h4:=h2.2 ha;simp only[List.length_singleton]at h4;have :=Zb1 hf k (l++[(f r).1]) ((f r).2.at_ [44]).2;omega
   ·simp only;have :=h2.1;omega
theorem Zdp(r:Rd):Tm.nodesL (ZaU r).1+(ZaU r).2.s.length<=r.s.length+1:=by unfold ZaU;have h1:=Zb1 (Zb9 24) (r.s.length+1) [] r;have h2:=(Zch (sg:=[46]) (Zal (Zap 24) (r.s.length+1) [] r).2).1;simp only[Tm.nodesL]at h1 ⊢;omega
theorem Zc0(r:Rd):(Zak r).1.nodes+(Zak r).2.s.length<=r.s.length+1/\((Zak r).2.bad=false->(Zak r).1.nodes+(Zak r).2.s.length<=r.s.length):=by
 unfold Zak;simp only;have h1:=Zb9 24 {r with vars:=[]};generalize Zap 24 {r with vars:=[]}=X at*;have h2:=ZaY (sg:=[58,45]) X.2;simp only at h1;split;·rename_i ha;have h3:=Zdp (X.2.at_ [58,45]).2;have h4:=h2.2 ha;simp only[List.length_cons,List.length_nil]at h4;simp only[Cl.nodes];exact⟨by omega,fun _=>by omega⟩
 ·have h3:=Zch (sg:=[46]) (X.2.at_ [58,45]).2;have h4:=h2.1;simp only[List.length_cons,List.length_nil]at h3;simp only[Cl.nodes,Tm.nodesL];exact⟨by have :=h3.1;omega,fun h=>by have :=h3.2 h;omega⟩
theorem ZbT{f:Ps->Tm×Ps}(hf:∀p,(f p).1.nodes+(f p).2.l.length<=p.l.length+1):∀(k:Nat)(l:List Tm)(p:Ps),Tm.nodesL (Zax f k l p).1+(Zax f k l p).2.l.length<=Tm.nodesL l+p.l.length
 |0,l,p=>by rw[Zax];simp only;omega
 |k+1,l,p=>by
  rw[Zax];split;·simp only;omega
  ·split;·simp only;omega
   ·rename_i ha;have h2:=(ZaD (sg:=[44]) p).2 (by simpa using ha);have h1:=hf (p.take [44]).2;have h3:Tm.nodesL (l++[(f (p.take [44]).2).1])=Tm.nodesL l+(f (p.take [44]).2).1.nodes:=by rw[Tm.nodesL_append];simp[Tm.nodesL]
    have :=ZbT hf k (l++[(f (p.take [44]).2).1]) (f (p.take [44]).2).2;omega
theorem ZdO{f:Ps->Tm×Ps}(hf:∀p,(f p).1.nodes+(f p).2.l.length<=p.l.length+1)(w:Str)(p:Ps):(ZcH f w p).1.nodes+(ZcH f w p).2.l.length<=p.l.length+1:=by
 unfold ZcH;split;·simp only[Tm.nodes,Tm.nodesL];omega
 ·rename_i ha;have h2:=(ZaD (sg:=[40]) p).2 (by simpa using ha);have h1:=hf (p.take [40]).2;simp only;have h3:=ZbT hf ((f (p.take [40]).2).2.l.length+1) [(f (p.take [40]).2).1] (f (p.take [40]).2).2;have h4:=(ZaD (sg:=[41]) (Zax f ((f (p.take [40]).2).2.l.length+1) [(f (p.take [40]).2).1] (f (p.take [40]).2).2).2).1;simp only[Tm.nodesL]at h3;simp only[Tm.nodes];split;·omega
  ·split;·omega
   ·simp only[Ps.kill];omega
theorem ZdP{f:Ps->Tm×Ps}(hf:∀p,(f p).1.nodes+(f p).2.l.length<=p.l.length+1)(c:UInt8)(w:Str)(p:Ps):(ZcI f c w p).1.nodes+(ZcI f c w p).2.l.length<=p.l.length+1:=by
 unfold ZcI;split;·simp only[Tm.nodes,Tm.nodesL];omega
 ·split;·simp only[Tm.nodes,Tm.nodesL];omega
  ·split
   ·split;·simp only[Tm.nodes,Tm.nodesL];omega
    ·simp only[Tm.nodes,Tm.nodesL,Ps.kill];omega
   ·exact ZdO hf _ _
theorem Zbz:∀(n:Nat)(p:Ps),(Zah n p).1.nodes+(Zah n p).2.l.length<=p.l.length+1
 |0,p=>by simp only[Zah,tmz,Tm.nodes,Tm.nodesL,Ps.kill];omega
 |n+1,p=>by
  have hz:(tmz,p.kill).1.nodes+(tmz,p.kill).2.l.length<=p.l.length+1:=by simp only[tmz,Tm.nodes,Tm.nodesL,Ps.kill];omega
  unfold Zah;split;·exact hz
  ·exact hz
  ·rename_i c w l hl;split;·exact hz
   ·have :=ZdP (Zbz n) c w {p with l:=l};rw[hl];simp only[List.length_cons]at this ⊢;omega
theorem Zdq(p:Ps):Tm.nodesL (ZaZ p).1+(ZaZ p).2.l.length<=p.l.length+1:=by unfold ZaZ;have h0:=Zbz 24 p;have h1:=ZbT (Zbz 24) ((Zah 24 p).2.l.length+1) [(Zah 24 p).1] (Zah 24 p).2;have h2:=(ZbU (sg:=[46]) (Zax (Zah 24) ((Zah 24 p).2.l.length+1) [(Zah 24 p).1] (Zah 24 p).2).2).1;simp only[Tm.nodesL]at h1 ⊢;omega
theorem Zc1(p:Ps):(Zao p).1.nodes+(Zao p).2.l.length<=p.l.length+1:=by
 unfold Zao;simp only;have h1:=Zbz 24 {p with vars:=[]};generalize Zah 24 {p with vars:=[]}=X at*;have h2:=ZaD (sg:=[58,45]) X.2;simp only at h1;split;·rename_i ha;have h3:=Zdq (X.2.take [58,45]).2;have h4:=h2.2 ha.2;simp only[Cl.nodes];omega
 ·have h3:=(ZbU (sg:=[46]) X.2).1;simp only[Cl.nodes,Tm.nodesL];omega
theorem ZdQ{p:Ps}(ha:(Zah 24 {p with vars:=[]}).2.bad=false/\((Zah 24 {p with vars:=[]}).2.take [58,45]).1=true):Zao p=(⟨(Zah 24 {p with vars:=[]}).1,(ZaZ ((Zah 24 {p with vars:=[]}).2.take [58,45]).2).1,(((ZaZ ((Zah 24 {p with vars:=[]}).2.take [58,45]).2).2.vars.length:Nat):Int)⟩,(ZaZ ((Zah 24 {p with vars:=[]}).2.take [58,45]).2).2):=by unfold Zao;simp only;rw[if_pos ha]
theorem ZeD{p:Ps}(ha:¬((Zah 24 {p with vars:=[]}).2.bad=false/\((Zah 24 {p with vars:=[]}).2.take [58,45]).1=true)):Zao p=(⟨(Zah 24 {p with vars:=[]}).1,[],((((Zah 24 {p with vars:=[]}).2.must [46]).vars.length:Nat):Int)⟩,(Zah 24 {p with vars:=[]}).2.must [46]):=by unfold Zao;simp only;rw[if_neg ha]
theorem Zdr(p:Ps):(Zao p).1.head=(Zah 24 {p with vars:=[]}).1/\(Zao p).1.vars=(((Zao p).2.vars.length:Nat):Int):=by unfold Zao;simp only;split<;>exact⟨rfl,rfl⟩
theorem Zfg{k:Nat}{l:List Cl}{p:Ps}(h0:p.l=[]):ZbP (k+1) l p=some l:=by rw[ZbP,if_pos h0]
theorem Zds{k:Nat}{l:List Cl}{p:Ps}(h0:¬p.l=[])(hb:(Zao p).2.bad=true\/¬(Zao p).1.Good):ZbP (k+1) l p=none:=by rw[ZbP,if_neg h0,if_pos hb]
theorem Zf6{k:Nat}{l:List Cl}{p:Ps}(h0:¬p.l=[])(hb:¬((Zao p).2.bad=true\/¬(Zao p).1.Good)):ZbP (k+1) l p=ZbP k (l++[(Zao p).1]) (Zao p).2:=by rw[ZbP,if_neg h0,if_neg hb]
theorem ZcJ(q:UInt8->Bool)(r:Str):r.take (r.takeWhile q).length=r.takeWhile q:=by have h:=List.takeWhile_prefix (p:=q) (l:=r);exact(List.prefix_iff_eq_take.1 h).symm
theorem Zgq(q:UInt8->Bool):∀(r:Str)(x:UInt8),x∈r.takeWhile q->q x=true
 |[],x,h=>by simp at h
 |c::r,x,h=>by
  rw[List.takeWhile_cons]at h;split at h
  ·rename_i hc;rcases List.mem_cons.1 h with rfl|h;·exact hc
   ·exact Zgq q r x h
  ·simp at h
theorem Zec{r:Str}{x:UInt8}(h:x∈r.take (digs r)):ZaR x=true:=by unfold digs at h;rw[ZcJ]at h;exact Zgq _ _ _ h
end Go.Proofs.YtlpmfkpefoegeacDoor
