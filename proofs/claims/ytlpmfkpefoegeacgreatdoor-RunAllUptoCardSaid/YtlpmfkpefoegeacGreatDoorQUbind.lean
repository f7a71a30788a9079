import Derived.Test.YtlpmfkpefoegeacGreatDoorQUin
namespace Go.Proofs.YtlpmfkpefoegeacGreatDoor
set_option maxRecDepth 99999
set_option maxHeartbeats 0
set_option linter.all false
open Classical in noncomputable def qK(h:Hp)(n:Int):Hp×Int:=if ¬h.Good then(h,1)else if ¬(0<=n/\n<=h.trail.length)then(h,2)else(⟨iw h.cells (h.trail.drop n.toNat),h.trail.take n.toNat⟩,0)
open Classical in noncomputable def qL(h:Hp)(n:Int):Hp×Int:=if ¬h.Good then(h,1)else if ¬(0<=n/\n<=h.cells.length)then(h,2)else if ¬Hp.Good ⟨h.cells.take n.toNat,h.trail⟩then(h,1)else(⟨h.cells.take n.toNat,h.trail⟩,0)
def vv:Tm:= .mk 0 0 .empty []
def jD(l:List Ce)(w:Nat)(a:Int):Option (Tm×Nat):=match eG l w [a]with|some (t::_,w')=>some (t,w')|_=>none
def leftOf(most:Int):Int:=max 0 (min most 65536)
def zH(left:Int):Option (Tm×Nat)->Tm×Int×Int|none=>(vv,0,3)|some (t,w)=>(t,left - w,0)
open Classical in noncomputable def dU(h:Hp)(a most:Int):Tm×Int×Int:=if ¬h.Good then(vv,0,1)else if ¬Inb h.cells a then(vv,0,4)else zH (leftOf most) (jD h.cells (leftOf most).toNat a)
theorem anN(l:List Ce)(w:Nat)(a:Int):eG l (w+1) [a]=if look l a<0 then none else if(cellAt l (look l a)).kind=3 then(match eG l w (argsAt (look l a) (cellAt l (look l a)).n)with|none=>none|some (ts,w1)=>some ([.mk 3 0 (cellAt l (look l a)).s ts],w1))else some ([if(cellAt l (look l a)).kind=0 then .mk 0 (look l a) .empty []else .mk (cellAt l (look l a)).kind (cellAt l (look l a)).n (cellAt l (look l a)).s []],w):=by
 rw[eG];by_cases h1:look l a<0;·rw[ai h1,ai h1]
 ·rw[ag h1,ag h1];by_cases h2:(cellAt l (look l a)).kind=3;·rw[ai h2,ai h2];cases hq:eG l w (argsAt (look l a) (cellAt l (look l a)).n)with|none=>rfl|some p=>obtain⟨ts,w1⟩:=p;have :=(GG l w _ _ _ hq).1;simp only[Ga this,AL]
  ·rw[ag h2,ag h2];simp only[AL]
theorem adU(l:List Ce)(a:Int):jD l 0 a=none:=by unfold jD;rw[JW]
theorem Wl(l:List Ce)(w:Nat)(a:Int):jD l (w+1) a=if look l a<0 then none else if(cellAt l (look l a)).kind=3 then(match eG l w (argsAt (look l a) (cellAt l (look l a)).n)with|none=>none|some (ts,w1)=>some (.mk 3 0 (cellAt l (look l a)).s ts,w1))else some (if(cellAt l (look l a)).kind=0 then .mk 0 (look l a) .empty []else .mk (cellAt l (look l a)).kind (cellAt l (look l a)).n (cellAt l (look l a)).s [],w):=by
 unfold jD;rw[anN];by_cases h1:look l a<0;·rw[ai h1,ai h1]
 ·rw[ag h1,ag h1];by_cases h2:(cellAt l (look l a)).kind=3;·rw[ai h2,ai h2];cases eG l w (argsAt (look l a) (cellAt l (look l a)).n)with|none=>rfl|some p=>rfl
  ·rw[ag h2,ag h2]
theorem QB{l:List Ce}{w:Nat}{a:Int}{t:Tm}{w':Nat}(h:jD l w a=some (t,w')):w'<=w:=by
 unfold jD at h;split at h;·rename_i t' ts w1 hq;simp only[dm,lD]at h;have :=(GG l w _ _ _ hq).1;omega
 ·cases h
theorem KP(l:List Ce)(w:Nat)(a:Int)(r:List Int):eG l w (a::r)=(match jD l w a with|none=>none|some (t,w1)=>match eG l w1 r with|none=>none|some (rs,w2)=>some (t::rs,w2)):=by
 cases w with
  |zero=>rw[JW,adU]
  |succ w=>
   rw[eG,Wl];by_cases hn:look l a<0;·rw[ai hn,ai hn]
   ·rw[ag hn,ag hn];by_cases h3:(cellAt l (look l a)).kind=3;·rw[ai h3,ai h3];cases hq:eG l w (argsAt (look l a) (cellAt l (look l a)).n)with|none=>rfl|some p=>obtain⟨ts,w1⟩:=p;have :=(GG l w _ _ _ hq).1;simp only[Ga this];cases eG l w1 r<;>rfl
    ·rw[ag h3,ag h3];simp only;cases eG l w r<;>rfl
theorem adV(l:List Ce):∀(s:List Int)(w:Nat)(a:Int),eG l w (s++[a])=(match eG l w s with|none=>none|some (ts,w1)=>match jD l w1 a with|none=>none|some (t,w2)=>some (ts++[t],w2))
 |[],w,a=>by rw[tK,AL,KP];cases h:jD l w a with|none=>simp only[h]|some p=>simp only[AL,tK,h]
 |x::s,w,a=>by rw[tJ,KP,KP];cases hx:jD l w x with|none=>rfl|some p=>obtain⟨t,w1⟩:=p;simp only;rw[adV l s w1 a];cases eG l w1 s with|none=>rfl|some q=>obtain⟨ts,w2⟩:=q;simp only;cases jD l w2 a with|none=>rfl|some r=>rfl
theorem anO(l:List Ce)(w:Nat)(s r:List Int)(h:eG l w s=none):eG l w (s++r)=none:=by induction s generalizing w with|nil=>rw[AL]at h;cases h|cons x s ih=>rw[KP]at h;rw[tJ,KP];cases hx:jD l w x with|none=>rfl|some p=>obtain⟨t,w1⟩:=p;rw[hx]at h;simp only at h ⊢;cases hq:eG l w1 s with|none=>rw[ih w1 hq]|some q=>rw[hq]at h;cases h
open Classical in noncomputable def CR(h:Hp)(roots:List Int):List Bool×Int:=if h.Good then(marks h.cells roots,0)else([],1)
structure adW where
  heap : Hp
  roots : List Int
  dZ : List Int
  ed : List Int
  err : Int
  deriving DecidableEq
open Classical in noncomputable def mQ(h:Hp)(roots dZ ed:List Int):adW:=if ¬h.Good then⟨h,[],[],[],1⟩else if ¬(∀r∈roots,Inb h.cells r)then⟨h,[],[],[],4⟩else⟨iR h roots,roots.map (ahead (marks h.cells roots)),dZ.map (ahead (marks h.cells roots)),ed.map (ahead (bu (marks h.cells roots) h.trail)),0⟩
section
variable {h : Hp} {roots : List Int}
end
open Go.RowKit
theorem anP{l:List Ce}{v:Nat}(a:Int)(h:v<l.length):fB l (v:Int) a=l.set v {l[v]with n:=a}:=by
 apply nu (by simp[fB]);intro i h1 h2;simp only[fB,dG,Vj,Ee];by_cases e:v=i;·subst e;simp
 ·simp[e]
def UM(g:Nat)(cv tv:Value)(b:Nat):Prop:=b=g\/ownB cv=some b\/ownB tv=some b
def lJ(g base:Nat)(cv tv:Value)(w:World)(l:List Ce)(t:List Int)(k:Int)(w':World):Prop:=∃tv',jY g base cv tv' l t k w'/\Ch (UM g cv tv) w w'/\(∀b,ownB tv'=some b->ownB tv=some b\/w.heap.size<=b)
theorem lJ.yw{g base:Nat}{cv tv:Value}{w w':World}{l:List Ce}{t:List Int}{k:Int}(h:jY g base cv tv l t k w')(hc:Ch (fun b=>b=g) w w'):lJ g base cv tv w l t k w':=⟨tv,h,hc.mono fun x _ e=> .inl e,fun b h=> .inl h⟩
theorem lJ.trans{g base:Nat}{cv tv tv':Value}{w w' w'':World}{l:List Ce}{t:List Int}{k:Int}(hc:Ch (UM g cv tv) w w')(ht:∀b,ownB tv'=some b->ownB tv=some b\/w.heap.size<=b)(h:lJ g base cv tv' w' l t k w''):lJ g base cv tv w l t k w'':=by
 obtain⟨tv2,h1,h2,h3⟩:=h;refine⟨tv2,h1,hc.trans h2 fun x hx=>?_,fun b hb=>?_⟩
 ·rcases hx with hx|hx|hx;·exact .inl (.inl hx)
  ·exact .inl (.inr (.inl hx))
  ·rcases ht x hx with hx|hx;·exact .inl (.inr (.inr hx))
   ·exact .inr hx
 ·rcases h3 b hb with h4|h4;·exact ht b h4
  ·exact .inr (fM hc.size h4)
def anR(g base:Nat)(cv tv:Value)(w:World)(l:List Ce)(t:List Int)(k:Int)(e:Ending)(w':World):Prop:=∃r,e= .returned r/\lJ g base cv tv w l t k w'
theorem bind_ok(g base:Nat)(cv tv:Value)(l:List Ce)(t:List Int)(k:Int)(w:World)(h:jY g base cv tv l t k w)(hk:(t.length:Int)+1+k<=70000)(v:Nat)(hv:v<l.length)(a:Int)(ha:aA a):Calls Tryz.prog 155 #[.pointer (some ⟨g,0,none⟩),.int .i64 (v:Int),.int .i64 a] w (anR g base cv tv w (fB l (v:Int) a) (t++[(v:Int)]) k):=by
 have HU:=zh h;obtain⟨ca,cc,ta,tc,rfl,rfl,e1,e2,e3,e4⟩:=h.vals;have hlt:=h.lt;obtain⟨h1,h2,h3,h4,h5,h6,h7,h8⟩:=h;obtain⟨x0,x1,x2,xf⟩:=gH h1;obtain⟨cb,rfl,bI,c0,c1,c2,hok,hfz,hcb,anx⟩:=jh.cell h2 hv;have hcg:cb≠g:=fun e=>ah.eD h2 h1 (by decide) (bI.trans (congrArg some e));have ax0:¬g=cb:=fun e=>hcg e.symm;have hcs:=dH;have hi0:(0:Int)<=(v:Int):=zN _;have hi1:(v:Int)<(l.length:Int):=by omega
 have HB1:=zh ((bH w ⟨cb,v*3+1,none⟩ (.int .i64 a) g (fun e=>hcg e.symm)).trans h1);have HT1:=zh (h3.kept (w':=w.setCell ⟨cb,v*3+1,none⟩ (.int .i64 a)) fun b hb=>bH _ _ _ _ (fun e=>rU (by decide) h2 h3 cb bI (hb.trans (congrArg some e))));have gW:=zh (ah.set (u:= .int .i64 a) Ce.kC h2 bI hv (j:=1) (by omega) (y:={l[v]with n:=a}) rfl ⟨hok.1,ha,hok.2.2⟩);have dE:=zh bI;have HTG:=zh (ah.eD h3 h1 (by decide));have QC:=zh (fun b=>h3.lt b);clear h1 h2 h3 hok bI;go_enter Tryz.func155,Tryz.ntmps155;go_wp2_with(at_builtin;go_must(refine jf rfl (.tmp 20) (.tmp 22) 57 rfl base 3 1 8 jP aW (A:=fun _=>True) (.slice ta t.length tc) t rfl (ah.gN dY HT1.o _) (v:Int) [.int .i64 (v:Int)] (by simp only[qm];rfl) rfl ⟨by unfold aA;omega,rfl⟩ ⟨by omega,by simp;omega⟩ ?_);go_must(intro v2 w2 hown aB;obtain⟨aY,aZ,hv2,nI,rY⟩:=aG.pO hown;rw[show(t++[(v:Int)]).length=t.length+1 by simp]at hv2;subst hv2;have bA:=zh (ah.fG hown);have HG2:=zh aB;have hz2:=aB.size;simp only[bQ,qm]at hz2;have hB2:=(aB.grown.block g (by simp;omega) (fun e=>HTG.o e.symm)).trans (aX HB1.o _);have HB2:=zh hB2;obtain⟨y0,y1,y2,yf⟩:=gH hB2;clear hown aB hB2));refine JE (v:= .tuple #[]) (by simp[results,Tryz.results155,go_sem]) rfl ?_;have anT:w2.heap[cb]?=(w.setCell ⟨cb,v*3+1,none⟩ (.int .i64 a)).heap[cb]?:=(HG2.o.grown.block cb (by simp;omega) (fun e=>rU (by decide) HU.o.2.1 HU.o.2.2.1 cb dE.o e.symm)).trans (JA _ _ _ (by simpa using hcb));have ho2:=bA.o;have oD:ownB (.slice aY (t.length+1) aZ)≠some g:=ah.eD (by simpa using ho2) HB2.o (by decide);refine⟨_,rfl,.slice aY (t.length+1) aZ,⟨(bG HB2.o 1 _).trans rfl,?_,?_,h4,by rw[JU];exact h5,by simp;omega,h7,h8⟩,?_,fun b hb=>?_⟩;·rw[anP a hv];refine gW.o.kept fun b hb=>?_;obtain rfl:cb=b:=zI (dE.o.symm.trans hb);rw[bH _ _ _ _ (fun e=>hcg e)];exact anT
 ·exact ho2.kept fun b hb=>bH _ _ _ _ (fun e=>oD (hb.trans (congrArg some e)))
 ·refine Ch.setCell (p:=⟨g,1,none⟩) ?_ (.inl (.inl rfl)) _;refine HG2.o.ch ((Ch.setCell (p:=⟨cb,v*3+1,none⟩) (Ch.refl _ _) (.inl (.inr (.inl dE.o))) _).alloc _) fun b hb=> .inl (.inr (.inr hb))
 ·rcases HG2.o.block with h9|h9;·exact .inl (h9.symm.trans hb)
  ·have :=h9 b hb;simp only[bQ,qm]at this;exact .inr (by omega)
