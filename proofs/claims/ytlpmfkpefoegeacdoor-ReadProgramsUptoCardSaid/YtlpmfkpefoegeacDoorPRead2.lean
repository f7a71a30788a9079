import Derived.Test.YtlpmfkpefoegeacDoorPRead
import Derived.Test.YtlpmfkpefoegeacDoorQClause2
namespace Go.Proofs.YtlpmfkpefoegeacDoor
set_option maxRecDepth 100000
set_option maxHeartbeats 16000000
set_option linter.all false
theorem Zd4{s:ByteArray}(h:IsName s):s≠bs []:=by
 rintro rfl;rcases h with h|⟨h, -⟩;·exact absurd h (by decide+kernel)
 ·exact absurd h (by decide+kernel)
theorem ZdD{v:Int}{t:Tm}(h:Ill t):¬t.Good v:=by induction h with
 |name k n l h=>intro hg;cases hg with|var _ _ _=>omega|atom _ h=>exact Zd4 h rfl|int _ _ _=>omega|comp _ _ h=>exact Zd4 h rfl
 |arg k n s l t ht h ih=>intro hg;cases hg with|var _ _ _=>cases ht|atom _ h=>cases ht|int _ _ _=>cases ht|comp _ _ h h1 h2 h3 h4=>exact ih (h4 t ht)
theorem ZeV{v:Int}{l:List Tm}(h:∃t∈l,Ill t):¬Zem l v:=by rintro⟨-, -, -,h4⟩;obtain⟨t,ht,hi⟩:=h;exact ZdD hi (h4 t ht).2.1
def Zal(f:Rd->Tm×Rd):Nat->List Tm->Rd->List Tm×Rd|0,l,r=>(l,r)|k+1,l,r=>if r.bad then(l,r)else if((f r).2.at_ [44]).1 then Zal f k (l++[(f r).1]) ((f r).2.at_ [44]).2 else(l++[(f r).1],((f r).2.at_ [44]).2)
def Rd.must(sg:Str)(r:Rd):Rd:=if(r.at_ sg).1 then(r.at_ sg).2 else(r.at_ sg).2.kill
def ZaU(r:Rd):List Tm×Rd:=((Zal (Zap 24) (r.s.length+1) [] r).1,(Zal (Zap 24) (r.s.length+1) [] r).2.must [46])
def Ps.must(sg:Str)(p:Ps):Ps:=if p.bad then p else if(p.take sg).1 then(p.take sg).2 else p.kill
def ZaZ(p:Ps):List Tm×Ps:=((Zax (Zah 24) ((Zah 24 p).2.l.length+1) [(Zah 24 p).1] (Zah 24 p).2).1,(Zax (Zah 24) ((Zah 24 p).2.l.length+1) [(Zah 24 p).1] (Zah 24 p).2).2.must [46])
theorem Zb4{sg:Str}{r:Rd}(h:r.bad=true):(r.at_ sg).2.bad=true:=(Zgk r).trans h
theorem Zcq{sg:Str}{r:Rd}(h:r.bad=true):(r.must sg).bad=true:=by
 unfold Rd.must;split;·exact Zb4 h
 ·rfl
theorem ZbO{f:Rd->Tm×Rd}(k:Nat)(l:List Tm)(r:Rd)(h:r.bad=true):Zal f k l r=(l,r):=by cases k with|zero=>rfl|succ k=>rw[Zal,if_pos h]
theorem Zen{r:Rd}(h:r.bad=true):(ZaU r).2.bad=true:=by unfold ZaU;simp only;rw[ZbO _ _ _ h];exact Zcq h
theorem Zcr{f:Rd->Tm×Rd}:∀(k:Nat)(l:List Tm)(r:Rd),(∃t∈l,Ill t)->∃t∈(Zal f k l r).1,Ill t
 |0,l,r,h=>h
 |k+1,l,r,⟨t,ht,hi⟩=>by
  rw[Zal];split;·exact⟨t,ht,hi⟩
  ·split;·exact Zcr k _ _ ⟨t,by simp[ht],hi⟩
   ·exact⟨t,by simp[ht],hi⟩
theorem Zcs{f:Rd->Tm×Rd}{g:Ps->Tm×Ps}(hfg:∀r p,Corr r p->Zgw (f r) (g p))(hlr:∀r,(f r).2.s.length<=r.s.length)(hlp:∀p,(g p).2.l.length<=p.l.length):∀(k kp:Nat)(l:List Tm)(r:Rd)(p:Ps),Corr r p->r.s.length<k->(g p).2.l.length<kp->((Zal f k l r).1=(Zax g kp (l++[(g p).1]) (g p).2).1/\Corr (Zal f k l r).2 (Zax g kp (l++[(g p).1]) (g p).2).2)\/((Zax g kp (l++[(g p).1]) (g p).2).2.bad=true/\((Zal f k l r).2.bad=true\/∃t∈(Zal f k l r).1,Ill t))
 |0,kp,l,r,p,hc,hk,hkp=>by omega
 |k+1,0,l,r,p,hc,hk,hkp=>by omega
 |k+1,kp+1,l,r,p,hc,hk,hkp=>by
  have eR:Zal f (k+1) l r=if((f r).2.at_ [44]).1 then Zal f k (l++[(f r).1]) ((f r).2.at_ [44]).2 else(l++[(f r).1],((f r).2.at_ [44]).2):=by rw[Zal,if_neg (by rw[hc.rb];simp)]
  rw[eR];rcases hfg r p hc with⟨he,hc'⟩|⟨hb,hd⟩
  ·have eP:Zax g (kp+1) (l++[(g p).1]) (g p).2=if((g p).2.take [44]).1=false then(l++[(g p).1],(g p).2)else Zax g kp ((l++[(g p).1])++[(g ((g p).2.take [44]).2).1]) (g ((g p).2.take [44]).2).2:=by rw[Zax,if_neg (by rw[hc'.pb];simp)]
   rw[eP];obtain⟨e1,hc2⟩:=Zbp comma hc';have hlt:=ZaY (sg:=[44]) (f r).2;have hl0:=hlr r;rw[e1];cases ha:((f r).2.at_ [44]).1 with|false=>simp only[if_true,Bool.false_eq_true,if_false];refine .inl ⟨by rw[he],?_⟩;have h9:=ZaO (e1.trans ha);rw[h9]at hc2;exact hc2|true=>simp only[if_true,Bool.true_eq_false,if_false];rw[he];have h5:=hlt.2 ha;simp only[List.length_singleton]at h5;have h6:=(ZaD (sg:=[44]) (g p).2).2 (e1.trans ha);have h7:=hlp ((g p).2.take [44]).2;exact Zcs hfg hlr hlp k kp (l++[(g p).1]) _ _ hc2 (by omega) (by omega)
  ·right;rw[Zax,if_pos hb];refine⟨hb,?_⟩;rcases hd with hd|hd
   ·left;split;·rw[ZbO _ _ _ (Zb4 hd)];exact Zb4 hd
    ·exact Zb4 hd
   ·right;split;·exact Zcr k _ _ ⟨_,by simp,hd⟩
    ·exact⟨_,by simp,hd⟩
theorem Zd5{sg:Str}(hs:IsSign sg){r:Rd}{p:Ps}(h:Corr r p):Corr (r.must sg) (p.must sg)\/((p.must sg).bad=true/\(r.must sg).bad=true):=by
 obtain⟨e1,hc⟩:=Zbp hs h;unfold Rd.must Ps.must;rw[if_neg (show ¬p.bad=true by rw[h.pb];simp),e1];split;·exact .inl hc
 ·exact .inr ⟨rfl,rfl⟩
theorem Zc9{sg:Str}{p:Ps}(h:p.bad=true):(p.must sg).bad=true:=by unfold Ps.must;rw[if_pos h];exact h
def Zhg(x:List Tm×Rd)(y:List Tm×Ps):Prop:=(x.1=y.1/\Corr x.2 y.2)\/(y.2.bad=true/\(x.2.bad=true\/∃t∈x.1,Ill t))
theorem ZeW{r:Rd}{p:Ps}(h:Corr r p):Zhg (ZaU r) (ZaZ p):=by
 unfold ZaU ZaZ Zhg;simp only;have h0:=Zcs (ZcS 24) (Zbg 24) (ZaJ 24) (r.s.length+1) ((Zah 24 p).2.l.length+1) [] r p h (by omega) (by omega);rw[List.nil_append]at h0;rcases h0 with⟨h1,h2⟩|⟨h1,h2⟩
 ·rcases Zd5 dot h2 with h3|⟨h3,h4⟩;·exact .inl ⟨h1,h3⟩
  ·exact .inr ⟨h3,.inl h4⟩
 ·exact .inr ⟨Zc9 h1,h2.imp Zcq id⟩
def Zak(r:Rd):Cl×Rd:=let h:=Zap 24 {r with vars:=[]};if(h.2.at_ [58,45]).1 then(⟨h.1,(ZaU (h.2.at_ [58,45]).2).1,((ZaU (h.2.at_ [58,45]).2).2.vars.length:Nat)⟩,(ZaU (h.2.at_ [58,45]).2).2)else(⟨h.1,[],(((h.2.at_ [58,45]).2.must [46]).vars.length:Nat)⟩,(h.2.at_ [58,45]).2.must [46])
def Zao(p:Ps):Cl×Ps:=let h:=Zah 24 {p with vars:=[]};if h.2.bad=false/\(h.2.take [58,45]).1=true then(⟨h.1,(ZaZ (h.2.take [58,45]).2).1,((ZaZ (h.2.take [58,45]).2).2.vars.length:Nat)⟩,(ZaZ (h.2.take [58,45]).2).2)else(⟨h.1,[],((h.2.must [46]).vars.length:Nat)⟩,h.2.must [46])
def Zhh(x:Cl×Rd)(y:Cl×Ps):Prop:=(x.1=y.1/\Corr x.2 y.2)\/(y.2.bad=true/\(x.2.bad=true\/¬x.1.Good))
theorem Zeo{r:Rd}{p:Ps}(h:Corr r p):Zhh (Zak r) (Zao p):=by
 unfold Zak Zao Zhh;simp only;have h0:Corr {r with vars:=[]} {p with vars:=[]}:=⟨h.rb,h.pb,rfl,h.l⟩;rcases ZcS 24 _ _ h0 with⟨h1,h2⟩|⟨h1,h2⟩
 ·generalize Zap 24 {r with vars:=[]}=X at*;generalize Zah 24 {p with vars:=[]}=Y at*;obtain⟨e1,hc⟩:=Zbp neck h2;rw[e1];by_cases ha:(X.2.at_ [58,45]).1=true
  ·rw[if_pos ha,if_pos ⟨h2.pb,ha⟩];rcases ZeW hc with⟨h3,h4⟩|⟨h3,h4⟩;·exact .inl ⟨by rw[h1,h3,h4.vars],h4⟩
   ·refine .inr ⟨h3,h4.imp id fun h4=>fun hg=>?_⟩;exact ZeV h4 hg.1
  ·rw[if_neg ha,if_neg (fun e=>ha e.2)];rw[ZaO (e1.trans (by simpa using ha))]at hc;rcases Zd5 dot hc with h3|⟨h3,h4⟩;·exact .inl ⟨by rw[h1,h3.vars],h3⟩
   ·exact .inr ⟨h3,.inl h4⟩
 ·generalize Zap 24 {r with vars:=[]}=X at*;generalize Zah 24 {p with vars:=[]}=Y at*;rw[if_neg (show ¬(Y.2.bad=false/\(Y.2.take [58,45]).1=true)from fun e=>by rw[h1]at e;cases e.1)];refine .inr ⟨Zc9 h1,?_⟩;rcases h2 with h2|h2
  ·left;split;·exact Zen (Zb4 h2)
   ·exact Zcq (Zb4 h2)
  ·right;split;·exact fun hg=>ZdD h2 hg.2.2.1.1
   ·exact fun hg=>ZdD h2 hg.2.2.1.1
/-! programs -/
section
open Classical
noncomputable def Zbi:Nat->List Cl->Rd->Option (List Cl)|0,l,_=>some l|k+1,l,r=>if r.space.s=[]then some l else if(Zak r.space).2.bad=true\/¬(Zak r.space).1.Good then none else Zbi k (l++[(Zak r.space).1]) (Zak r.space).2
noncomputable def ZbP:Nat->List Cl->Ps->Option (List Cl)|0,l,_=>some l|k+1,l,p=>if p.l=[]then some l else if(Zao p).2.bad=true\/¬(Zao p).1.Good then none else ZbP k (l++[(Zao p).1]) (Zao p).2
def ZcV:Option (List Cl)->List Cl×Int|none=>([],1)|some l=>if l.length>24 then([],3)else(l,0)
noncomputable def ZbJ(s:Str):List Cl×Int:=if s.length>2000 then([],3)else ZcV (Zbi (s.length+1) [] ⟨s,[],false⟩)
noncomputable def Zct(s:Str):List Cl×Int:=if s.length>2000 then([],3)else ZcV (ZbP ((words s).length+1) [] ⟨words s,[],false⟩)
end
/-! what is consumed -/
theorem Zch{sg:Str}(r:Rd):(r.must sg).s.length<=r.s.length/\((r.must sg).bad=false->(r.must sg).s.length+sg.length<=r.s.length):=by
 unfold Rd.must;have h:=ZaY (sg:=sg) r;split;·rename_i ha;exact⟨h.1,fun _=>h.2 ha⟩
 ·exact⟨h.1,fun e=>by cases e⟩
theorem ZbU{sg:Str}(p:Ps):(p.must sg).l.length<=p.l.length/\((p.must sg).bad=false->(p.must sg).l.length<p.l.length):=by
 unfold Ps.must;have h:=ZaD (sg:=sg) p;split;·rename_i hb;exact⟨zL _,fun e=>by rw[hb]at e;cases e⟩
 ·split;·rename_i ha;exact⟨h.1,fun _=>h.2 ha⟩
  ·exact⟨zL _,fun e=>by cases e⟩
theorem Zcu{f:Rd->Tm×Rd}(hf:∀r,(f r).2.s.length<=r.s.length):∀(k:Nat)(l:List Tm)(r:Rd),(Zal f k l r).2.s.length<=r.s.length
 |0,l,r=>zL _
 |k+1,l,r=>by
  rw[Zal];have h1:=hf r;have h2:=(ZaY (sg:=[44]) (f r).2).1;split;·exact zL _
  ·split;·have :=Zcu hf k (l++[(f r).1]) ((f r).2.at_ [44]).2;omega
   ·simp only;omega
theorem Zep(r:Rd):(ZaU r).2.s.length<=r.s.length:=by unfold ZaU;have :=Zcu (Zbg 24) (r.s.length+1) [] r;have :=(Zch (sg:=[46]) (Zal (Zap 24) (r.s.length+1) [] r).2).1;simp only;omega
theorem Zcv(r:Rd):(Zak r).2.s.length<=r.s.length/\((Zak r).2.bad=false->(Zak r).2.s.length<r.s.length):=by
 unfold Zak;simp only;have h1:=Zbg 24 {r with vars:=[]};generalize Zap 24 {r with vars:=[]}=X at*;have h2:=ZaY (sg:=[58,45]) X.2;split;·rename_i ha;have h3:=Zep (X.2.at_ [58,45]).2;have h4:=h2.2 ha;simp only[List.length_cons,List.length_nil]at h1 h4 ⊢;exact⟨by omega,fun _=>by omega⟩
 ·have h3:=Zch (sg:=[46]) (X.2.at_ [58,45]).2;simp only[List.length_cons,List.length_nil]at h1 h3 ⊢;exact⟨by omega,fun h=>by have :=h3.2 h;omega⟩
theorem Zeq(p:Ps):(ZaZ p).2.l.length<=p.l.length:=by unfold ZaZ;have h1:=ZaJ 24 p;have h2:=Zcm (ZaJ 24) ((Zah 24 p).2.l.length+1) [(Zah 24 p).1] (Zah 24 p).2;have h3:=(ZbU (sg:=[46]) (Zax (Zah 24) ((Zah 24 p).2.l.length+1) [(Zah 24 p).1] (Zah 24 p).2).2).1;simp only;omega
theorem Zcw(p:Ps):(Zao p).2.l.length<=p.l.length/\((Zao p).2.bad=false->(Zao p).2.l.length<p.l.length):=by
 unfold Zao;simp only;have h1:=ZaJ 24 {p with vars:=[]};generalize Zah 24 {p with vars:=[]}=X at*;have h2:=ZaD (sg:=[58,45]) X.2;split;·rename_i ha;have h3:=Zeq (X.2.take [58,45]).2;have h4:=h2.2 ha.2;simp only at h1 ⊢;exact⟨by omega,fun _=>by omega⟩
 ·have h3:=ZbU (sg:=[46]) X.2;simp only at h1 ⊢;exact⟨by omega,fun h=>by have :=h3.2 h;omega⟩
theorem Zd6:∀(k kp:Nat)(l:List Cl)(r:Rd)(p:Ps),Corr r p->r.s.length<k->p.l.length<kp->Zbi k l r=ZbP kp l p
 |0,kp,l,r,p,hc,hk,hkp=>by omega
 |k+1,0,l,r,p,hc,hk,hkp=>by omega
 |k+1,kp+1,l,r,p,hc,hk,hkp=>by
  rw[Zbi,ZbP];have e0:(r.space.s=[])=(p.l=[]):=by rw[hc.l];exact propext words_eq_nil.symm
  have hcs:Corr r.space p:=⟨hc.rb,hc.pb,hc.vars,by rw[hc.l];exact(ZaS _).symm⟩;have hsl:r.space.s.length<=r.s.length:=ZaH _;by_cases h0:p.l=[];·rw[if_pos h0,if_pos (by rw[e0];exact h0)]
  ·rw[if_neg h0,if_neg (by rw[e0];exact h0)];rcases Zeo hcs with⟨h1,h2⟩|⟨h1,h2⟩
   ·rw[h1,h2.rb,h2.pb];have h3:=(Zcv r.space).2 h2.rb;have h4:=(Zcw p).2 h2.pb;split;·rfl
    ·exact Zd6 k kp _ _ _ h2 (by omega) (by omega)
   ·rw[if_pos h2,if_pos (.inl h1)]
theorem ZeX(s:Str):ZbJ s=Zct s:=by
 unfold ZbJ Zct;split;·rfl
 ·rw[Zd6 (s.length+1) ((words s).length+1) [] ⟨s,[],false⟩ ⟨words s,[],false⟩ ⟨rfl,rfl,rfl,rfl⟩ (by simp) (by simp)]
/-! spaces -/
end Go.Proofs.YtlpmfkpefoegeacDoor
