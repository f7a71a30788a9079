import Derived.BigQuiet
import Derived.Test.YtlpmfkpefoegeacGreatDoorPMBack
namespace Go.Proofs.YtlpmfkpefoegeacGreatDoor
set_option maxRecDepth 99999
set_option maxHeartbeats 0
set_option linter.all false
open Go.RowKit
def abj{σ:Type}(I:σ->(Nat->Prop)->World->Prop)(f:σ->Int->Int×σ)(sz:σ->Nat)(p5 p3:Addr):Prop:=∀(st:σ)(M:Nat->Prop)(w:World)(n:Int),I st M w->sz st<4194304->aA n->Calls Tryz.prog 139 #[.int .i64 n,.pointer (some p5),.pointer (some p3)] w (PT I M w (f st n))
def abk{σ:Type}(I:σ->(Nat->Prop)->World->Prop)(f:σ->Int->Int×σ)(sz:σ->Nat)(p5 p3:Addr)(t:Tm):Prop:=∀(st:σ)(M A:Nat->Prop)(w:World)(vs:List Value),I st M w->sz st+t.nodes<=4194304->Tm.rep A w t vs->(∀b,A b->b<w.heap.size/\¬M b)->Calls Tryz.prog 138 #[.agg vs.toArray,.func (.func 139) #[] #[.pointer (some p5),.pointer (some p3)]] w (Vx I M w (t.aH f st))
theorem avV{σ:Type}{I:σ->(Nat->Prop)->World->Prop}{f:σ->Int->Int×σ}{sz:σ->Nat}{p5 p3:Addr}(hI:Cq I)(hsz:∀st n,sz (f st n).2<=sz st+1)(hc:abj I f sz p5 p3)(k n:Int)(s:ByteArray)(l:List Tm)(ih:∀t∈l,abk I f sz p5 p3 t):abk I f sz p5 p3 (.mk k n s l):=by
 intro st M A w vs hst hnd hv hA;rw[Tm.gL]at hv;obtain⟨hk,hn,hs,v,rfl,hl⟩:=hv;obtain⟨a,cap,b,off,rfl,hlc,hcm,hlb,ha,he⟩:=hl.at;have HE:=zh he;have HA:=zh ha;have IH:=zh ih;have HI:=zh hI;have lX:=zh hsz;have HC:=zh hc;have HST:=zh hst;have tT:=zh hA;have jJ:=zh hnd;have iT:=zh (hI.lt _ _ _ hst);clear he ha hl ih hI hsz hc hst hA hnd;obtain⟨m,st1,hm⟩:∃m st1,(m,st1)=Tm.num f st k n:=⟨_,_,rfl⟩;have HM:=zh hm;clear hm;by_cases e:k=0;all_goals
  try have e':(k==0)=false:=by simpa using e
  try have e':(k==0)=true:=by simpa using e
  have ku:=zh e;clear e;go_enter Tryz.func138,Tryz.ntmps138;go_wp2_with fail
 ·have AP:=HI.o.keeps _ _ _ ((w.alloc (.cells #[.int .i64 k,.int .i64 n,.string s,.slice a l.length cap] 34)).alloc (.cells #[.int .i64 0,.int .i64 0,.string .empty,.slice none 0 0] 34)) HST.o ((af.alloc _ _ _).trans (af.alloc _ _ _));have hcl:=HC.o st M _ n AP (by have :=jJ.o;simp only[Tm.nodes]at this;omega) hn;rw[show f st n=(m,st1)by rw[HM.o,Tm.num,ai ku.o]]at hcl;refine hcl.mono ?_;rintro e w1⟨rfl,Cx,M1,hch,hM1,Cy⟩;have hq1:=(je w (.cells #[.int .i64 k,.int .i64 n,.string s,.slice a l.length cap] 34) (.cells #[.int .i64 0,.int .i64 0,.string .empty,.slice none 0 0] 34));have wG:=iT.o;have hz1:=hch.size;simp only[bQ]at hz1;have HB1:=zh ((hch.block _ (by simp<;>omega) (fun h=>by have :=wG _ h;omega)).trans hq1.1);have HB2:=zh ((hch.block _ (by simp<;>omega) (fun h=>by have :=wG _ h;omega)).trans hq1.2);have fe:Hd (∀b,M1 b->M b\/w.heap.size+2<=b):=fun b hb=>by have :=hM1 b hb;simpa[PI]using this
  have bU:=zh ((((Ch.refl M w).alloc _).alloc _).trans hch (fun b hb=> .inl hb));have fC:=zh Cy;have xR:=zh (show aA m from Cx);obtain⟨x0,x1,x2,x3,xf⟩:=aU HB1.o;have hcs:=dH;have AQ:Hd (sz st1<=sz st+1):=by have h5:=congrArg Prod.snd HM.o;simp only[Tm.num,ai ku.o]at h5;rw[h5];exact lX.o st n
  clear AP hq1 wG hch hM1 Cy Cx hcl HST;go_wp2_with fail;go_loopw[21](fun i wr=>∃(j:Nat)(v:Value)(sj:σ)(Mj:Nat->Prop),j<=l.length/\i= .int .i64 j/\w.heap.size+2<=wr.heap.size/\Ch M w wr/\(∀b,Mj b->M b\/w.heap.size+2<=b)/\I sj Mj wr/\wr.heap[w.heap.size+1]?=some (.cells #[.int .i64 0,.int .i64 0,.string .empty,.slice none 0 0] 34 (0,0))/\wr.heap[w.heap.size]?=some (.cells #[.int .i64 k,.int .i64 m,.string s,v] 34 (0,0))/\sj=(Tm.aS f st1 (l.take j)).2/\(∀b,ownB v=some b->¬Mj b)/\aG wr (w.heap.size+2) 34 4 Tm.rep (fun b=>w.heap.size+2<=b/\¬Mj b) (Tm.aS f st1 (l.take j)).1 v)(fun i _=>l.length - (intOf i).toNat);case atStart=>
   refine⟨0,.slice none 0 0,st1,M1,dn _,rfl,by simp;omega,(bU.o.setCell (by simp) _).setCell (by simp) _,fe.o,HI.o.keeps _ _ _ _ fC.o ((af.setCell _ _ _ _ ?_).trans (af.setCell _ _ _ _ ?_)),?_,?_,by simp[Tm.aS],by simp[ownB],by simpa[Tm.aS]using aG.nil ..⟩;·exact fun(h:M1 w.heap.size)=>(fe.o _ h).elim (fun h1=>by have :=iT.o _ h1;omega) (fun h1=>by omega)
   ·exact fun(h:M1 w.heap.size)=>(fe.o _ h).elim (fun h1=>by have :=iT.o _ h1;omega) (fun h1=>by omega)
   ·exact bB (A:=fun b=>b≠w.heap.size) HB2.o ((af.setCell _ _ _ _ (by simp)).trans (af.setCell _ _ _ _ (by simp))) (by omega)
   ·exact bG (bG HB1.o 1 _) 3 _
  case round=>
   obtain⟨j,v,sj,Mj,hj,rfl,hz,hch,hMj,hst,hB2,hB1,hsj,bI,hown⟩:=hrel;have hvl:(Tm.aS f st1 (l.take j)).1.length=j:=by rw[Tm.qz];simp;omega
   obtain⟨va,vc,hv,qG⟩:=hown.val;rw[hvl]at hv;subst hv;have jV:=zh hch;have pG:=zh hB1;have pI:=zh hB2;have dR:=zh hMj;have jA:=zh hst;have fD:=zh hsj;have dE:=zh bI;have HO:=zh hown;have lY:=zh hvl;obtain⟨g0,g1,g2,g3,gf⟩:=aU pG.o;clear hch hMj hst hB2 hB1 hsj bI hown hvl;by_cases hlt:j<l.length
   ·obtain⟨rfl,bC⟩:=HA.o (by omega);obtain⟨sa,sc,c0,c1,c2,c3,hr⟩:=gq HE.o bC (jV.o.keeps fun b _ h=>(tT.o b h).2) hlt;have HR:=zh hr;clear hr;try clear HB1 HB2 bU fC
    try clear x0 x1 x2 x3 xf hcs
    go_wp2_with fail;generalize hW:wr.alloc (.cells #[.int .i64 l[j].kind,.int .i64 l[j].n,.string l[j].s,.slice sa l[j].args.length sc] 34)=W0;have hW1:W0.drew.cell? ⟨w.heap.size,3,none⟩=some (.slice va j vc):=by subst hW;exact(af.alloc (fun _=>True) _ _).cell trivial g3
    obtain⟨hx0,hx1,hx2,hx3, -⟩:=aU (show W0.drew.heap[wr.heap.size]?=_ by subst hW;exact bJ _ _);refine iG (F:=fun k w'=>(k=1\/k=2)->w'.cell? ⟨w.heap.size,3,none⟩=some (.slice va j vc)/\w'.cell? ⟨wr.heap.size,0,none⟩=some (.int .i64 l[j].kind)/\w'.cell? ⟨wr.heap.size,1,none⟩=some (.int .i64 l[j].n)/\w'.cell? ⟨wr.heap.size,2,none⟩=some (.string l[j].s)/\w'.cell? ⟨wr.heap.size,3,none⟩=some (.slice sa l[j].args.length sc)) (by kernel_rfl) ?_;refine aD (i:=0) (v:=?_) rfl (Or.inl ⟨by rfl,?_⟩) (fun _=>⟨hW1,hx0,hx1,hx2,hx3⟩) ?_;rotate_left;·(intro w' hw;clear hw;go_simp<;>with_reducible rfl)
    simp only[zP];refine aD (i:=1) (v:=?_) rfl (Or.inl ⟨by rfl,?_⟩) (fun _=>⟨hW1,hx0,hx1,hx2,hx3⟩) ?_;rotate_left;·(intro w' hw;obtain⟨q0,q1,q2,q3,q4⟩:=hw (by omega);go_simp<;>with_reducible rfl)
    simp only[zP];refine aD (i:=2) (v:=?_) rfl (Or.inl ⟨by rfl,?_⟩) (fun _=>⟨hW1,hx0,hx1,hx2,hx3⟩) ?_;rotate_left;·(intro w' hw;obtain⟨q0,q1,q2,q3,q4⟩:=hw (by omega);go_simp<;>with_reducible rfl)
    simp only[zP];refine aD (i:=3) (v:=?_) rfl (Or.inl ⟨by rfl,?_⟩) (fun _=>⟨hW1,hx0,hx1,hx2,hx3⟩) ?_;rotate_left;·(intro w' hw;clear hw;go_simp<;>with_reducible rfl)
    simp only[zP];refine aM (i:=4) (by kernel_rfl) (aF rfl (by rfl) ?_);go_simp;have iU:af (fun _=>True) wr W0.drew:=by subst hW;exact(af.alloc _ _ _).trans (af.drew _ _)
    have GL:W0.heap.size=wr.heap.size+1:=by subst hW;simp
    have hrd:Tm.rep A W0.drew l[j] _:=Tm.aj.1 _ _ _ _ _ HR.o (iU.mono fun _ _ _=>trivial);have hnd:sz sj+l[j].nodes<=4194304:=by have h1:=Tm.Gr lX.o (l.take j) st1;rw[<-fD.o]at h1;have h2:=Tm.Gq l j hlt;have h3:=jJ.o;have h4:=AQ.o;simp only[Tm.nodes]at h3;omega
    have mI:∀b,A b->b<W0.drew.heap.size/\¬Mj b:=fun b hb=>by
     have h1:=tT.o b hb;refine⟨by simp only[eZ];omega,fun h2=>?_⟩;rcases dR.o b h2 with h3|h3;·exact h1.2 h3
     ·omega
    refine(IH.out _ (bO hlt) sj Mj A _ _ (HI.o.keeps _ _ _ _ jA.o (iU.mono fun _ _ _=>trivial)) hnd hrd mI).mono ?_;rintro e w1⟨us,M2,rfl,bN,hM2,fo,hr⟩;obtain⟨sa',eQ,rfl, -⟩:=Tm.dw hr;have hsz:=bN.size;simp only[eZ]at hsz hM2 hr;have hlt2:=HO.o.lt;have kL:=HI.o.lt _ _ _ fo;have kM:∀b,M2 b->M b\/w.heap.size+2<=b:=fun b hb=>by
     rcases hM2 b hb with h1|h1;·exact dR.o b h1
     ·exact .inr (by omega)
    have hn2:∀b,b<W0.heap.size->¬Mj b->¬M2 b:=fun b hb hn h=>by
     rcases hM2 b h with h1|h1;·exact hn h1
     ·omega
    have kN:aG W0.drew _ _ _ _ _ _ _:=HO.o.keeps Tm.aj iU (fun _ _=>trivial) (fun _ _=>trivial);have pJ:aG w1 _ _ _ _ (fun b=>w.heap.size+2<=b/\¬M2 b) _ _:=((kN.mono (A':=fun b=>w.heap.size+2<=b/\¬M2 b/\¬Mj b) Tm.aj (fun b hb hb'=>⟨hb'.1,hn2 b hb hb'.2,hb'.2⟩)).keeps (B:=fun b=>¬Mj b) Tm.aj (bN.keeps fun _ _ h=>h) (fun _ h=>h.2.2) dE.o).mono Tm.aj (fun b _ hb=>⟨hb.1,hb.2.1⟩);have eT:=zh pJ;have jW:Hd (∀b,ownB (.slice va j vc)=some b->¬M2 b):=fun b hb=>hn2 b (by have :=(hlt2 b hb).2;omega) (dE.o b hb);have HN:=zh (show Tm.rep (fun b=>(w.heap.size+2<=b/\¬M2 b)/\ownB (.slice va j vc)≠some b) w1 _ _ from Tm.aj.2.1 _ _ _ _ _ hr fun b _ hb=>⟨⟨by omega,hb.2⟩,fun e=>by have :=(hlt2 b e).2;omega⟩);have HL:=zh (show(Tm.aS f st1 (l.take j)).1.length<4194304/\w.heap.size+2<=w1.heap.size by rw[lY.o];omega);have hnb:∀b,b<w.heap.size+2->w.heap.size<=b->¬Mj b:=fun b h1 h2 h3=>by
     rcases dR.o b h3 with h4|h4;·have :=iT.o b h4;omega
     ·omega
    have rF:Hd (Ch M w w1):=zh (((show Ch M w W0.drew by subst hW;exact(jV.o.alloc _).drew)).trans bN (fun b hb=>by rcases dR.o b hb with h|h;exact .inl h;exact .inr (by omega)));have hkj:=bN.keeps (A:=fun b=>¬Mj b) (fun _ _ h=>h);have gu:¬Mj wr.heap.size:=fun h=>by have :=HI.o.lt _ _ _ jA.o _ h;omega
    have HQ:=zh (show w1.cell? ⟨w.heap.size,3,none⟩=some (.slice va j vc)/\w1.cell? ⟨wr.heap.size,0,none⟩=some (.int .i64 l[j].kind)/\w1.cell? ⟨wr.heap.size,1,none⟩=some (.int .i64 l[j].n)/\w1.cell? ⟨wr.heap.size,2,none⟩=some (.string l[j].s)/\w1.cell? ⟨wr.heap.size,3,none⟩=some (.slice sa l[j].args.length sc)from⟨hkj.cell (hnb _ (by omega) (by omega)) hW1,hkj.cell gu hx0,hkj.cell gu hx1,hkj.cell gu hx2,hkj.cell gu hx3⟩);have xS:=zh (show w1.heap[w.heap.size]?=_ from bB (w:=W0.drew) (by subst hW;exact aX pG.o _) hkj (hnb _ (by omega) (by omega)));have nD:=zh (show w1.heap[w.heap.size+1]?=_ from bB (w:=W0.drew) (by subst hW;exact aX pI.o _) hkj (hnb _ (by omega) (by omega)));have mJ:=zh fo;have rG:=zh kL;have iI:=zh kM;clear hrd hr bN kN pJ fo kL kM hn2 hnb hkj gu hM2 mI hnd iU;refine⟨fun _ _ _ _=>HQ.o,?_⟩;refine aM (i:=5) (by kernel_rfl) (aF rfl (by rfl) ?_);go_simp;refine⟨fun _ _ _ _=>?_,?_⟩;·obtain⟨q0,q1,q2,q3,q4⟩:=HQ.o;have ka:=af.alloc (fun _=>True) w1 (.cells #[.int .i64 (Tm.aH f sj l[j]).1.kind,.int .i64 (Tm.aH f sj l[j]).1.n,.string (Tm.aH f sj l[j]).1.s,.slice sa' (Tm.aH f sj l[j]).1.args.length eQ] 34);exact⟨ka.cell trivial q0,ka.cell trivial q1,ka.cell trivial q2,ka.cell trivial q3,ka.cell trivial q4⟩
    refine aM (i:=6) (by kernel_rfl) (aF rfl (by rfl) ?_);refine oh (.tmp 26) (.tmp 30) 23 rfl (w.heap.size+2) 34 4 56 rz Tm.aj _ _ rfl eT.o (Tm.aH f sj l[j]).1 [_,_,_,_] rfl rfl HN.o HL.o ?_;intro v2 w2 hown2 aB;have hk2:=aB.keeps (A:=fun b=>ownB (.slice va j vc)≠some b) (fun _ h=>h);have hka:=(af.alloc (fun b=>ownB (.slice va j vc)≠some b) w1 (.cells #[.int .i64 (Tm.aH f sj l[j]).1.kind,.int .i64 (Tm.aH f sj l[j]).1.n,.string (Tm.aH f sj l[j]).1.s,.slice sa' (Tm.aH f sj l[j]).1.args.length eQ] 34)).trans hk2;have n1:ownB (.slice va j vc)≠some w.heap.size:=fun e=>by have :=(hlt2 _ e).1;omega
    have n2:ownB (.slice va j vc)≠some wr.heap.size:=fun e=>by have :=(hlt2 _ e).2;omega
    have n3:ownB (.slice va j vc)≠some (w.heap.size+1):=fun e=>by have :=(hlt2 _ e).1;omega
    have mK:=zh (bB xS.o hka n1);have xU:=zh (bB nD.o hka n3);have tV:=zh (aB.ch (rF.o.alloc (.cells #[.int .i64 (Tm.aH f sj l[j]).1.kind,.int .i64 (Tm.aH f sj l[j]).1.n,.string (Tm.aH f sj l[j]).1.s,.slice sa' (Tm.aH f sj l[j]).1.args.length eQ] 34)) (fun b hb=> .inr (by have :=(hlt2 b hb).1;omega)));have pK:=zh (HI.o.keeps _ _ _ _ mJ.o (hka.mono fun b _ hb e=>jW.o b e hb));have xV:Hd (∀b,ownB v2=some b->¬M2 b):=fun b hb hm=>by
     have h1:=aB.block;rcases h1 with h1|h1;·exact jW.o b (h1.symm.trans hb) hm
     ·have h2:=h1 b hb;have h3:=rG.o b hm;simp only[bQ]at h2;omega
    obtain⟨aY,aZ,hv2,zy⟩:=hown2.val;rw[show((Tm.aS f st1 (l.take j)).1++[(Tm.aH f sj l[j]).1]).length=j+1 by rw[bT,lY.o];rfl]at hv2;subst hv2;have hz2:=aB.size;have bA:=zh hown2;simp only[bQ]at hz2;obtain⟨y0,y1,y2,y3,yf⟩:=aU mK.o;refine⟨fun _ _ _ _=>?_,?_⟩;·obtain⟨q0,q1,q2,q3,q4⟩:=HQ.o;exact⟨hka.cell n1 q0,hka.cell n2 q1,hka.cell n2 q2,hka.cell n2 q3,hka.cell n2 q4⟩
    clear hown2 hka hk2;simp only[zP];refine aD (i:=7) (v:=?_) rfl (Or.inl ⟨by rfl,?_⟩) (fun h=>by omega) ?_;rotate_left;·(intro w' hw;clear hw;go_simp<;>with_reducible rfl)
    simp only[zP];refine aM (i:=8) (by kernel_rfl) (aF rfl (by rfl) ?_);go_simp;refine⟨fun k0 hk0 _ h12=>?_,fO (by kernel_rfl) ?_ _⟩
    ·rcases h12 with rfl|rfl;·exact absurd (show waits _ 8 1=true by kernel_rfl) (by rw[hk0];decide)
     ·exact absurd (show waits _ 8 2=true by kernel_rfl) (by rw[hk0];decide)
    have HB3:=zh (bG mK.o 3 (.slice aY (j+1) aZ));have hz3:(w2.setCell ⟨w.heap.size,3,none⟩ (.slice aY (j+1) aZ)).heap.size=w2.heap.size:=by simp
    have iH:=zh (af.setCell (fun b=>b≠w.heap.size) w2 ⟨w.heap.size,3,none⟩ (.slice aY (j+1) aZ) (by simp));clear aB;go_wp2_with fail;go_roundw;case rel=>
     have hnw:∀b,M2 b->b≠w.heap.size:=fun b hb e=>by
      rcases iI.o b hb with h|h;·have :=iT.o b h;omega
      ·omega
     refine⟨j+1,_,_,M2,by omega,by go_num,by omega,tV.o.setCell (.inr (by simp)) _,iI.o,HI.o.keeps _ _ _ _ pK.o (iH.o.mono fun b _ hb=>hnw b hb),bB xU.o iH.o (by omega),HB3.o,?_,xV.o,?_⟩;·rw[dX hlt,Tm.qy,<-fD.o]
     ·rw[dX hlt,Tm.qy,<-fD.o];exact bA.o.keeps Tm.aj iH.o (fun b hb=>by omega) (fun b hb=>by have :=(bA.o.lt b hb).1;omega)
    case measure=>simp[intOf];omega
   ·have :j=l.length:=by omega
    subst this;obtain⟨z0,z1,z2,z3,zf⟩:=aU pI.o;have hcs:=dH;try clear HB1 HB2 bU fC
    try clear x0 x1 x2 x3 xf
    go_wp2_with fail;refine dD (v:= .agg #[.int .i64 k,.int .i64 m,.string s,.slice va l.length vc]) (by simp[results,Tryz.results138,go_sem,hcs,z0,z1,z2,z3]) rfl ⟨[_,_,_,_],Mj,rfl,?_,fun b hb=>?_,?_,?_⟩;·refine Ch.setCell (Ch.setCell (Ch.setCell (Ch.setCell jV.o ?_ _) ?_ _) ?_ _) ?_ _<;>simp
    ·rcases dR.o b hb with h|h;·exact .inl h
     ·exact .inr (by omega)
    ·have hs2:=fD.o;rw[jd]at hs2;have h2:(Tm.aH f st (.mk k n s l)).2=sj:=by rw[Tm.aH,<-HM.o];exact hs2.symm
     rw[h2];have hnw:∀b,Mj b->b≠w.heap.size+1:=fun b hb e=>by
      rcases dR.o b hb with h|h;·have :=iT.o b h;omega
      ·omega
     refine HI.o.keeps _ _ _ _ jA.o (af.trans (af.trans (af.trans (af.setCell _ _ _ _ ?_) (af.setCell _ _ _ _ ?_)) (af.setCell _ _ _ _ ?_)) (af.setCell _ _ _ _ ?_))<;>exact fun h=>hnw _ h rfl
    ·have hO:=HO.o;rw[jd]at hO;have hsl2:au 4 Tm.rep (fun b=>w.heap.size+2<=b/\¬Mj b) wr (Tm.aS f st1 l).1 (.slice va l.length vc):=hO.sl' Tm.aj (by rw[Tm.qz];exact hlb) (fun b hb=>⟨by have :=(HO.o.lt b hb).1;omega,dE.o b hb⟩);rw[Tm.aH,<-HM.o];rw[Tm.gL];refine⟨hk,xR.o,hs,_,rfl,?_⟩;refine au.mono Tm.aj (by omega) (au.keeps Tm.aj hsl2 ?_) (fun b _ hb=>⟨by omega,hb.2⟩);refine af.trans (af.trans (af.trans (af.setCell _ _ _ _ ?_) (af.setCell _ _ _ _ ?_)) (af.setCell _ _ _ _ ?_)) (af.setCell _ _ _ _ ?_)<;>simp
 ·have HB1:=zh (je w (.cells #[.int .i64 k,.int .i64 n,.string s,.slice none 0 0] 34) (.cells #[.int .i64 0,.int .i64 0,.string .empty,.slice none 0 0] 34)).1;have HB2:=zh (je w (.cells #[.int .i64 k,.int .i64 n,.string s,.slice none 0 0] 34) (.cells #[.int .i64 0,.int .i64 0,.string .empty,.slice none 0 0] 34)).2;have Cz:m=n/\st1=st:=by have :=HM.o;rw[Tm.num,ag ku.o]at this;simpa using this
  obtain⟨rfl,rfl⟩:=Cz;have xR:=zh hn;have bU:=zh (((Ch.refl M w).alloc (.cells #[.int .i64 k,.int .i64 m,.string s,.slice none 0 0] 34)).alloc (.cells #[.int .i64 0,.int .i64 0,.string .empty,.slice none 0 0] 34));have fC:=zh (HI.o.keeps _ _ _ ((w.alloc (.cells #[.int .i64 k,.int .i64 m,.string s,.slice none 0 0] 34)).alloc (.cells #[.int .i64 0,.int .i64 0,.string .empty,.slice none 0 0] 34)) HST.o ((af.alloc _ _ _).trans (af.alloc _ _ _)));have AQ:Hd (sz st1<=sz st1+1):=acC _;clear HST;go_loopw[21](fun i wr=>∃(j:Nat)(v:Value)(sj:σ)(Mj:Nat->Prop),j<=l.length/\i= .int .i64 j/\w.heap.size+2<=wr.heap.size/\Ch M w wr/\(∀b,Mj b->M b\/w.heap.size+2<=b)/\I sj Mj wr/\wr.heap[w.heap.size+1]?=some (.cells #[.int .i64 0,.int .i64 0,.string .empty,.slice none 0 0] 34 (0,0))/\wr.heap[w.heap.size]?=some (.cells #[.int .i64 k,.int .i64 m,.string s,v] 34 (0,0))/\sj=(Tm.aS f st1 (l.take j)).2/\(∀b,ownB v=some b->¬Mj b)/\aG wr (w.heap.size+2) 34 4 Tm.rep (fun b=>w.heap.size+2<=b/\¬Mj b) (Tm.aS f st1 (l.take j)).1 v)(fun i _=>l.length - (intOf i).toNat);case atStart=>exact⟨0,.slice none 0 0,st1,M,dn _,rfl,by simp,bU.o,fun b hb=> .inl hb,fC.o,HB2.o,HB1.o,by simp[Tm.aS],by simp[ownB],by simpa[Tm.aS]using aG.nil ..⟩
  case round=>
   obtain⟨j,v,sj,Mj,hj,rfl,hz,hch,hMj,hst,hB2,hB1,hsj,bI,hown⟩:=hrel;have hvl:(Tm.aS f st1 (l.take j)).1.length=j:=by rw[Tm.qz];simp;omega
   obtain⟨va,vc,hv,qG⟩:=hown.val;rw[hvl]at hv;subst hv;have jV:=zh hch;have pG:=zh hB1;have pI:=zh hB2;have dR:=zh hMj;have jA:=zh hst;have fD:=zh hsj;have dE:=zh bI;have HO:=zh hown;have lY:=zh hvl;obtain⟨g0,g1,g2,g3,gf⟩:=aU pG.o;clear hch hMj hst hB2 hB1 hsj bI hown hvl;by_cases hlt:j<l.length
   ·obtain⟨rfl,bC⟩:=HA.o (by omega);obtain⟨sa,sc,c0,c1,c2,c3,hr⟩:=gq HE.o bC (jV.o.keeps fun b _ h=>(tT.o b h).2) hlt;have HR:=zh hr;clear hr;try clear HB1 HB2 bU fC
    try clear x0 x1 x2 x3 xf hcs
    go_wp2_with fail;generalize hW:wr.alloc (.cells #[.int .i64 l[j].kind,.int .i64 l[j].n,.string l[j].s,.slice sa l[j].args.length sc] 34)=W0;have hW1:W0.drew.cell? ⟨w.heap.size,3,none⟩=some (.slice va j vc):=by subst hW;exact(af.alloc (fun _=>True) _ _).cell trivial g3
    obtain⟨hx0,hx1,hx2,hx3, -⟩:=aU (show W0.drew.heap[wr.heap.size]?=_ by subst hW;exact bJ _ _);refine iG (F:=fun k w'=>(k=1\/k=2)->w'.cell? ⟨w.heap.size,3,none⟩=some (.slice va j vc)/\w'.cell? ⟨wr.heap.size,0,none⟩=some (.int .i64 l[j].kind)/\w'.cell? ⟨wr.heap.size,1,none⟩=some (.int .i64 l[j].n)/\w'.cell? ⟨wr.heap.size,2,none⟩=some (.string l[j].s)/\w'.cell? ⟨wr.heap.size,3,none⟩=some (.slice sa l[j].args.length sc)) (by kernel_rfl) ?_;refine aD (i:=0) (v:=?_) rfl (Or.inl ⟨by rfl,?_⟩) (fun _=>⟨hW1,hx0,hx1,hx2,hx3⟩) ?_;rotate_left;·(intro w' hw;clear hw;go_simp<;>with_reducible rfl)
    simp only[zP];refine aD (i:=1) (v:=?_) rfl (Or.inl ⟨by rfl,?_⟩) (fun _=>⟨hW1,hx0,hx1,hx2,hx3⟩) ?_;rotate_left;·(intro w' hw;obtain⟨q0,q1,q2,q3,q4⟩:=hw (by omega);go_simp<;>with_reducible rfl)
    simp only[zP];refine aD (i:=2) (v:=?_) rfl (Or.inl ⟨by rfl,?_⟩) (fun _=>⟨hW1,hx0,hx1,hx2,hx3⟩) ?_;rotate_left;·(intro w' hw;obtain⟨q0,q1,q2,q3,q4⟩:=hw (by omega);go_simp<;>with_reducible rfl)
    simp only[zP];refine aD (i:=3) (v:=?_) rfl (Or.inl ⟨by rfl,?_⟩) (fun _=>⟨hW1,hx0,hx1,hx2,hx3⟩) ?_;rotate_left;·(intro w' hw;clear hw;go_simp<;>with_reducible rfl)
    simp only[zP];refine aM (i:=4) (by kernel_rfl) (aF rfl (by rfl) ?_);go_simp;have iU:af (fun _=>True) wr W0.drew:=by subst hW;exact(af.alloc _ _ _).trans (af.drew _ _)
    have GL:W0.heap.size=wr.heap.size+1:=by subst hW;simp
    have hrd:Tm.rep A W0.drew l[j] _:=Tm.aj.1 _ _ _ _ _ HR.o (iU.mono fun _ _ _=>trivial);have hnd:sz sj+l[j].nodes<=4194304:=by have h1:=Tm.Gr lX.o (l.take j) st1;rw[<-fD.o]at h1;have h2:=Tm.Gq l j hlt;have h3:=jJ.o;have h4:=AQ.o;simp only[Tm.nodes]at h3;omega
    have mI:∀b,A b->b<W0.drew.heap.size/\¬Mj b:=fun b hb=>by
     have h1:=tT.o b hb;refine⟨by simp only[eZ];omega,fun h2=>?_⟩;rcases dR.o b h2 with h3|h3;·exact h1.2 h3
     ·omega
    refine(IH.out _ (bO hlt) sj Mj A _ _ (HI.o.keeps _ _ _ _ jA.o (iU.mono fun _ _ _=>trivial)) hnd hrd mI).mono ?_;rintro e w1⟨us,M2,rfl,bN,hM2,fo,hr⟩;obtain⟨sa',eQ,rfl, -⟩:=Tm.dw hr;have hsz:=bN.size;simp only[eZ]at hsz hM2 hr;have hlt2:=HO.o.lt;have kL:=HI.o.lt _ _ _ fo;have kM:∀b,M2 b->M b\/w.heap.size+2<=b:=fun b hb=>by
     rcases hM2 b hb with h1|h1;·exact dR.o b h1
     ·exact .inr (by omega)
    have hn2:∀b,b<W0.heap.size->¬Mj b->¬M2 b:=fun b hb hn h=>by
     rcases hM2 b h with h1|h1;·exact hn h1
     ·omega
    have kN:aG W0.drew _ _ _ _ _ _ _:=HO.o.keeps Tm.aj iU (fun _ _=>trivial) (fun _ _=>trivial);have pJ:aG w1 _ _ _ _ (fun b=>w.heap.size+2<=b/\¬M2 b) _ _:=((kN.mono (A':=fun b=>w.heap.size+2<=b/\¬M2 b/\¬Mj b) Tm.aj (fun b hb hb'=>⟨hb'.1,hn2 b hb hb'.2,hb'.2⟩)).keeps (B:=fun b=>¬Mj b) Tm.aj (bN.keeps fun _ _ h=>h) (fun _ h=>h.2.2) dE.o).mono Tm.aj (fun b _ hb=>⟨hb.1,hb.2.1⟩);have eT:=zh pJ;have jW:Hd (∀b,ownB (.slice va j vc)=some b->¬M2 b):=fun b hb=>hn2 b (by have :=(hlt2 b hb).2;omega) (dE.o b hb);have HN:=zh (show Tm.rep (fun b=>(w.heap.size+2<=b/\¬M2 b)/\ownB (.slice va j vc)≠some b) w1 _ _ from Tm.aj.2.1 _ _ _ _ _ hr fun b _ hb=>⟨⟨by omega,hb.2⟩,fun e=>by have :=(hlt2 b e).2;omega⟩);have HL:=zh (show(Tm.aS f st1 (l.take j)).1.length<4194304/\w.heap.size+2<=w1.heap.size by rw[lY.o];omega);have hnb:∀b,b<w.heap.size+2->w.heap.size<=b->¬Mj b:=fun b h1 h2 h3=>by
     rcases dR.o b h3 with h4|h4;·have :=iT.o b h4;omega
     ·omega
    have rF:Hd (Ch M w w1):=zh (((show Ch M w W0.drew by subst hW;exact(jV.o.alloc _).drew)).trans bN (fun b hb=>by rcases dR.o b hb with h|h;exact .inl h;exact .inr (by omega)));have hkj:=bN.keeps (A:=fun b=>¬Mj b) (fun _ _ h=>h);have gu:¬Mj wr.heap.size:=fun h=>by have :=HI.o.lt _ _ _ jA.o _ h;omega
    have HQ:=zh (show w1.cell? ⟨w.heap.size,3,none⟩=some (.slice va j vc)/\w1.cell? ⟨wr.heap.size,0,none⟩=some (.int .i64 l[j].kind)/\w1.cell? ⟨wr.heap.size,1,none⟩=some (.int .i64 l[j].n)/\w1.cell? ⟨wr.heap.size,2,none⟩=some (.string l[j].s)/\w1.cell? ⟨wr.heap.size,3,none⟩=some (.slice sa l[j].args.length sc)from⟨hkj.cell (hnb _ (by omega) (by omega)) hW1,hkj.cell gu hx0,hkj.cell gu hx1,hkj.cell gu hx2,hkj.cell gu hx3⟩);have xS:=zh (show w1.heap[w.heap.size]?=_ from bB (w:=W0.drew) (by subst hW;exact aX pG.o _) hkj (hnb _ (by omega) (by omega)));have nD:=zh (show w1.heap[w.heap.size+1]?=_ from bB (w:=W0.drew) (by subst hW;exact aX pI.o _) hkj (hnb _ (by omega) (by omega)));have mJ:=zh fo;have rG:=zh kL;have iI:=zh kM;clear hrd hr bN kN pJ fo kL kM hn2 hnb hkj gu hM2 mI hnd iU;refine⟨fun _ _ _ _=>HQ.o,?_⟩;refine aM (i:=5) (by kernel_rfl) (aF rfl (by rfl) ?_);go_simp;refine⟨fun _ _ _ _=>?_,?_⟩;·obtain⟨q0,q1,q2,q3,q4⟩:=HQ.o;have ka:=af.alloc (fun _=>True) w1 (.cells #[.int .i64 (Tm.aH f sj l[j]).1.kind,.int .i64 (Tm.aH f sj l[j]).1.n,.string (Tm.aH f sj l[j]).1.s,.slice sa' (Tm.aH f sj l[j]).1.args.length eQ] 34);exact⟨ka.cell trivial q0,ka.cell trivial q1,ka.cell trivial q2,ka.cell trivial q3,ka.cell trivial q4⟩
    refine aM (i:=6) (by kernel_rfl) (aF rfl (by rfl) ?_);refine oh (.tmp 26) (.tmp 30) 23 rfl (w.heap.size+2) 34 4 56 rz Tm.aj _ _ rfl eT.o (Tm.aH f sj l[j]).1 [_,_,_,_] rfl rfl HN.o HL.o ?_;intro v2 w2 hown2 aB;have hk2:=aB.keeps (A:=fun b=>ownB (.slice va j vc)≠some b) (fun _ h=>h);have hka:=(af.alloc (fun b=>ownB (.slice va j vc)≠some b) w1 (.cells #[.int .i64 (Tm.aH f sj l[j]).1.kind,.int .i64 (Tm.aH f sj l[j]).1.n,.string (Tm.aH f sj l[j]).1.s,.slice sa' (Tm.aH f sj l[j]).1.args.length eQ] 34)).trans hk2;have n1:ownB (.slice va j vc)≠some w.heap.size:=fun e=>by have :=(hlt2 _ e).1;omega
    have n2:ownB (.slice va j vc)≠some wr.heap.size:=fun e=>by have :=(hlt2 _ e).2;omega
    have n3:ownB (.slice va j vc)≠some (w.heap.size+1):=fun e=>by have :=(hlt2 _ e).1;omega
    have mK:=zh (bB xS.o hka n1);have xU:=zh (bB nD.o hka n3);have tV:=zh (aB.ch (rF.o.alloc (.cells #[.int .i64 (Tm.aH f sj l[j]).1.kind,.int .i64 (Tm.aH f sj l[j]).1.n,.string (Tm.aH f sj l[j]).1.s,.slice sa' (Tm.aH f sj l[j]).1.args.length eQ] 34)) (fun b hb=> .inr (by have :=(hlt2 b hb).1;omega)));have pK:=zh (HI.o.keeps _ _ _ _ mJ.o (hka.mono fun b _ hb e=>jW.o b e hb));have xV:Hd (∀b,ownB v2=some b->¬M2 b):=fun b hb hm=>by
     have h1:=aB.block;rcases h1 with h1|h1;·exact jW.o b (h1.symm.trans hb) hm
     ·have h2:=h1 b hb;have h3:=rG.o b hm;simp only[bQ]at h2;omega
    obtain⟨aY,aZ,hv2,zy⟩:=hown2.val;rw[show((Tm.aS f st1 (l.take j)).1++[(Tm.aH f sj l[j]).1]).length=j+1 by rw[bT,lY.o];rfl]at hv2;subst hv2;have hz2:=aB.size;have bA:=zh hown2;simp only[bQ]at hz2;obtain⟨y0,y1,y2,y3,yf⟩:=aU mK.o;refine⟨fun _ _ _ _=>?_,?_⟩;·obtain⟨q0,q1,q2,q3,q4⟩:=HQ.o;exact⟨hka.cell n1 q0,hka.cell n2 q1,hka.cell n2 q2,hka.cell n2 q3,hka.cell n2 q4⟩
    clear hown2 hka hk2;simp only[zP];refine aD (i:=7) (v:=?_) rfl (Or.inl ⟨by rfl,?_⟩) (fun h=>by omega) ?_;rotate_left;·(intro w' hw;clear hw;go_simp<;>with_reducible rfl)
    simp only[zP];refine aM (i:=8) (by kernel_rfl) (aF rfl (by rfl) ?_);go_simp;refine⟨fun k0 hk0 _ h12=>?_,fO (by kernel_rfl) ?_ _⟩
    ·rcases h12 with rfl|rfl;·exact absurd (show waits _ 8 1=true by kernel_rfl) (by rw[hk0];decide)
     ·exact absurd (show waits _ 8 2=true by kernel_rfl) (by rw[hk0];decide)
    have HB3:=zh (bG mK.o 3 (.slice aY (j+1) aZ));have hz3:(w2.setCell ⟨w.heap.size,3,none⟩ (.slice aY (j+1) aZ)).heap.size=w2.heap.size:=by simp
    have iH:=zh (af.setCell (fun b=>b≠w.heap.size) w2 ⟨w.heap.size,3,none⟩ (.slice aY (j+1) aZ) (by simp));clear aB;go_wp2_with fail;go_roundw;case rel=>
     have hnw:∀b,M2 b->b≠w.heap.size:=fun b hb e=>by
      rcases iI.o b hb with h|h;·have :=iT.o b h;omega
      ·omega
     refine⟨j+1,_,_,M2,by omega,by go_num,by omega,tV.o.setCell (.inr (by simp)) _,iI.o,HI.o.keeps _ _ _ _ pK.o (iH.o.mono fun b _ hb=>hnw b hb),bB xU.o iH.o (by omega),HB3.o,?_,xV.o,?_⟩;·rw[dX hlt,Tm.qy,<-fD.o]
     ·rw[dX hlt,Tm.qy,<-fD.o];exact bA.o.keeps Tm.aj iH.o (fun b hb=>by omega) (fun b hb=>by have :=(bA.o.lt b hb).1;omega)
    case measure=>simp[intOf];omega
   ·have :j=l.length:=by omega
    subst this;obtain⟨z0,z1,z2,z3,zf⟩:=aU pI.o;have hcs:=dH;try clear HB1 HB2 bU fC
    try clear x0 x1 x2 x3 xf
    go_wp2_with fail;refine dD (v:= .agg #[.int .i64 k,.int .i64 m,.string s,.slice va l.length vc]) (by simp[results,Tryz.results138,go_sem,hcs,z0,z1,z2,z3]) rfl ⟨[_,_,_,_],Mj,rfl,?_,fun b hb=>?_,?_,?_⟩;·refine Ch.setCell (Ch.setCell (Ch.setCell (Ch.setCell jV.o ?_ _) ?_ _) ?_ _) ?_ _<;>simp
    ·rcases dR.o b hb with h|h;·exact .inl h
     ·exact .inr (by omega)
    ·have hs2:=fD.o;rw[jd]at hs2;have h2:(Tm.aH f st1 (.mk k m s l)).2=sj:=by rw[Tm.aH,<-HM.o];exact hs2.symm
     rw[h2];have hnw:∀b,Mj b->b≠w.heap.size+1:=fun b hb e=>by
      rcases dR.o b hb with h|h;·have :=iT.o b h;omega
      ·omega
     refine HI.o.keeps _ _ _ _ jA.o (af.trans (af.trans (af.trans (af.setCell _ _ _ _ ?_) (af.setCell _ _ _ _ ?_)) (af.setCell _ _ _ _ ?_)) (af.setCell _ _ _ _ ?_))<;>exact fun h=>hnw _ h rfl
    ·have hO:=HO.o;rw[jd]at hO;have hsl2:au 4 Tm.rep (fun b=>w.heap.size+2<=b/\¬Mj b) wr (Tm.aS f st1 l).1 (.slice va l.length vc):=hO.sl' Tm.aj (by rw[Tm.qz];exact hlb) (fun b hb=>⟨by have :=(HO.o.lt b hb).1;omega,dE.o b hb⟩);rw[Tm.aH,<-HM.o];rw[Tm.gL];refine⟨hk,xR.o,hs,_,rfl,?_⟩;refine au.mono Tm.aj (by omega) (au.keeps Tm.aj hsl2 ?_) (fun b _ hb=>⟨by omega,hb.2⟩);refine af.trans (af.trans (af.trans (af.setCell _ _ _ _ ?_) (af.setCell _ _ _ _ ?_)) (af.setCell _ _ _ _ ?_)) (af.setCell _ _ _ _ ?_)<;>simp
theorem avW{σ:Type}{I:σ->(Nat->Prop)->World->Prop}{f:σ->Int->Int×σ}{sz:σ->Nat}{p5 p3:Addr}(hI:Cq I)(hsz:∀st n,sz (f st n).2<=sz st+1)(hc:abj I f sz p5 p3):∀t,abk I f sz p5 p3 t:=by intro t;induction t using Tm.induct with|h k n s l ih=>exact avV hI hsz hc k n s l ih
theorem avX(n:Int): -1099511627776<n.tmod 1099511627776/\n.tmod 1099511627776<1099511627776/\(n.tmod 1099511627776+1099511627776)%1099511627776=low n:=by
 unfold low;rcases acx 0 n with h|h;·rw[Int.tmod_eq_emod_of_nonneg h];omega
 ·obtain⟨m,rfl⟩:∃m,n= -m:=⟨-n,by omega⟩;rw[Int.neg_tmod,Int.tmod_eq_emod_of_nonneg (by omega)];omega
theorem ak4(n:Int)(hn:aA n)(w:World):Calls Tryz.prog 137 #[.int .i64 n] w fun e w'=>e= .returned (.int .i64 (low n))/\w=w':=by obtain⟨h1,h2,h3⟩:=avX n;have H3:=zh h3;clear h3;go_enter Tryz.func137,Tryz.ntmps137;go_wp2_with fail;go_ret;refine⟨?_,rfl⟩;show Ending.returned (.int .i64 ((n.tmod 1099511627776+1099511627776)%1099511627776))=_;rw[H3.o]
def abl(d:Int)(p5 p3:Addr)(_:Unit)(M:Nat->Prop)(w:World):Prop:=(∀b,M b↔(b=p5.block\/b=p3.block))/\w.cell? p5=some (.func (.func 137) #[] #[])/\w.cell? p3=some (.int .i64 d)
theorem ak5(d:Int)(p5 p3:Addr):Cq (abl d p5 p3):=by
 refine⟨fun st M w h b hb=>?_,fun st M w w' h hk=>?_⟩
 ·obtain⟨h1,h2,h3⟩:=h;rcases(h1 b).1 hb with rfl|rfl;·exact fK w _ h2
  ·exact fK w _ h3
 ·obtain⟨h1,h2,h3⟩:=h;refine⟨h1,?_,?_⟩;·rw[<-h2];exact Px (hk.block _ (fK w _ h2) ((h1 _).2 (.inl rfl)))
  ·rw[<-h3];exact Px (hk.block _ (fK w _ h3) ((h1 _).2 (.inr rfl)))
theorem avY(d:Int)(hd:aA d)(p5 p3:Addr):abj (abl d p5 p3) (fun st n=>(low n+low d,st)) (fun _=>0) p5 p3:=by
 intro st M w n hi _ hn;have HI:=zh hi;obtain⟨-,h2,h3⟩:=hi;have c1:=ak4 n hn;have c2:=ak4 d hd;have b1:=acI n;have b2:=acI d;have hwr:IntKind.i64.wrap (low n+low d)=low n+low d:=Cn _ ⟨by omega,by omega⟩;have gW:=zh c1;have iL:=zh c2;clear c1 c2;go_enter Tryz.func139,Tryz.ntmps139;go_wp2_with fail;refine iG (F:=fun k w'=>(k=0\/k=3\/k=4)->w'.cell? p5=some (.func (.func 137) #[] #[])/\w'.cell? p3=some (.int .i64 d)) (by kernel_rfl) ?_;refine aD (i:=0) (v:=?_) rfl (Or.inl ⟨by rfl,?_⟩) (fun _=>⟨h2,h3⟩) ?_;rotate_left;·(intro w' hw;obtain⟨q0,q1⟩:=hw (by omega);go_simp<;>with_reducible rfl)
 try simp only[zP]
 refine aD (i:=1) (v:=?_) rfl (Or.inl ⟨by rfl,?_⟩) (fun _=>⟨h2,h3⟩) ?_;rotate_left;·(intro w' hw;clear hw;go_simp<;>with_reducible rfl)
 try simp only[zP]
 refine aD (i:=3) (v:=?_) rfl (Or.inl ⟨by rfl,?_⟩) (fun _=>⟨h2,h3⟩) ?_;rotate_left;·(intro w' hw;obtain⟨q0,q1⟩:=hw (by omega);go_simp<;>with_reducible rfl)
 try simp only[zP]
 refine aD (i:=4) (v:=?_) rfl (Or.inl ⟨by rfl,?_⟩) (fun _=>⟨h2,h3⟩) ?_;rotate_left;·(intro w' hw;obtain⟨q0,q1⟩:=hw (by omega);go_simp<;>with_reducible rfl)
 try simp only[zP]
 refine aM (i:=2) (by kernel_rfl) (aF rfl (by rfl) ?_);go_simp;refine(gW.o _).mono ?_;rintro e w1⟨rfl,rfl⟩;refine⟨fun _ _ h=>h,?_⟩;try simp only[zP]
 refine aM (i:=5) (by kernel_rfl) (aF rfl (by rfl) ?_);go_simp;refine(iL.o _).mono ?_;rintro e w1⟨rfl,rfl⟩;refine⟨fun _ _ h=>h,?_⟩;try simp only[zP]
 refine aD (i:=6) (v:=?_) rfl (Or.inl ⟨by rfl,?_⟩) (fun h=>by omega) ?_;rotate_left;·(intro w' hw;clear hw;go_simp<;>with_reducible rfl)
 try simp only[zP]
 refine aM (i:=7) (by kernel_rfl) (aF rfl (by rfl) ?_);go_simp;refine⟨fun _ _ h=>h,fO (by kernel_rfl) ?_ _⟩;go_wp2_with fail;go_ret;exact⟨rfl,by unfold aA;omega,M,(Ch.refl M w).drew,fun b hb=> .inl hb,(ak5 d p5 p3).keeps _ _ _ _ HI.o (af.drew _ _)⟩
theorem avZ(g:Int->Int):∀(t:Tm)(u:Unit),t.aH (fun st n=>(g n,st)) u=(t.ren g,u):=by
 intro t;induction t using Tm.induct with
  |h k n s l ih=>
   intro u;have hL:∀(r:List Tm),(∀t∈r,t∈l)->Tm.aS (fun st n=>(g n,st)) u r=(Tm.qx g r,u):=by intro r;induction r with|nil=>intro _;rfl|cons x r ihr=>intro hm;rw[Tm.aS,ih x (hm x (nk ..)) u,ihr (fun t ht=>hm t (ni _ ht))];rfl
   have h1:=hL l (fun _ h=>h);by_cases e:k=0;·simp only[Tm.aH,Tm.num,e,if_true,Tm.ren,h1]
   ·simp only[Tm.aH,Tm.num,e,if_false,Tm.ren,h1]
theorem ak6(t:Tm)(d:Int)(hd:aA d)(ht:t.nodes<=4194304)(A:Nat->Prop)(w:World)(vs:List Value)(hv:Tm.rep A w t vs):Calls Tryz.prog 116 #[.agg vs.toArray,.int .i64 d] w (Pure w fun v w'=>∃us,v= .agg us.toArray/\Tm.rep (New w) w' (t.ren fun n=>low n+low d) us):=by
 obtain⟨sa,sc,rfl, -⟩:=Tm.dw hv;have HV:=zh hv;clear hv;go_enter Tryz.func116,Tryz.ntmps116;go_wp2_with fail;generalize hW:((((w.alloc (.cells #[.int .i64 t.kind,.int .i64 t.n,.string t.s,.slice sa t.args.length sc] 34)).alloc (.cells #[.int .i64 d] 3)).alloc (.cells #[.int .i64 0,.int .i64 0,.string {data:=#[]},.slice none 0 0] 34)).alloc (.cells #[.func (.func 137) #[] #[]] 141))=W;have hk:af (fun _=>True) w W:=by subst hW;exact(((af.alloc _ _ _).trans (af.alloc _ _ _)).trans (af.alloc _ _ _)).trans (af.alloc _ _ _)
 have GL:W.heap.size=w.heap.size+4:=by subst hW;simp
 have hb:Below w.heap.size w W:=by subst hW;exact eB (eB (eB (eB (zB _ _))))
 have q3:W.heap[w.heap.size+1+1]?=some (.cells #[.int .i64 0,.int .i64 0,.string .empty,.slice none 0 0] 34 (0,0)):=by subst hW;exact aX (Eg _ _ _ _).2.2 _
 have hinv:abl d ⟨w.heap.size+1+1+1,0,none⟩ ⟨w.heap.size+1,0,none⟩ () (fun b=>b=w.heap.size+1+1+1\/b=w.heap.size+1) W:=by
  refine⟨fun b=>Gi,?_,?_⟩;·subst hW;rw[bW (acD _ _ _ _ _).2.2.2];rfl
  ·subst hW;rw[bW (acD _ _ _ _ _).2.1];rfl
 have hrep:=Tm.aj.2.1 _ (fun b=>A b/\b<w.heap.size) _ _ _ HV.o (fun b hb h=>⟨h,hb⟩);have HR:=(avW (ak5 d _ _) (fun _ _=>by simp) (avY d hd _ _) t () _ (fun b=>A b/\b<w.heap.size) W _ hinv (by simpa using ht) (Tm.aj.1 _ _ _ _ _ hrep (hk.mono fun _ _ _=>trivial)) (fun b hb=>⟨by omega,by rintro(h|h)<;>omega⟩));rw[avZ]at HR;refine HR.mono ?_;rintro e w1⟨us,M',rfl,hch,hM', -,hr⟩;obtain⟨sa',eQ,rfl, -⟩:=Tm.dw hr;have q4:=(hch.block _ (aJ q3) (by rintro(h|h)<;>omega)).trans q3;obtain⟨y0,y1,y2,y3,yf⟩:=aU q4;have hcs:=dH;have HB:=zh hb;have bU:=zh hch;have HRR:=zh hr;clear hr hch hb hk hinv hrep HR q3 q4 hM';go_wp2_with fail;refine dD (v:= .agg #[.int .i64 (t.ren fun n=>low n+low d).kind,.int .i64 (t.ren fun n=>low n+low d).n,.string (t.ren fun n=>low n+low d).s,.slice sa' (t.ren fun n=>low n+low d).args.length eQ]) (by simp[results,Tryz.results116,go_sem,hcs,y0,y1,y2,y3]) rfl ⟨_,rfl,?_,[_,_,_,_],rfl,?_⟩;·have h1:Below w.heap.size w w1:=(((Ch.of_below (M:=fun _=>False) HB.o).trans bU.o (fun b hb=> .inr (by rcases hb with h|h<;>omega))).below (fun _ _ h=>h));refine bK (bK (bK (bK h1 ?_ _) ?_ _) ?_ _) ?_ _<;>simp<;>omega
 ·have h1:=Tm.aj.2.1 _ (fun b=>New w b/\b≠w.heap.size+1+1) _ _ _ HRR.o (fun b _ hb=>by simp only[New];omega);refine Tm.aj.2.1 _ _ _ _ _ (Tm.aj.1 _ _ _ _ _ h1 ?_) (fun b _ hb=>hb.1);refine af.trans (af.trans (af.trans (af.setCell _ _ _ _ ?_) (af.setCell _ _ _ _ ?_)) (af.setCell _ _ _ _ ?_)) (af.setCell _ _ _ _ ?_)<;>simp
def jl:Nat->List UInt8×Nat|0=>([33],0)|1=>([116,114,117,101],0)|2=>([102,97,105,108],0)|3=>([101,113],2)|4=>([108,101,115,115],2)|_=>([97,100,100],3)
theorem FZ(t:Tm):t.gF↔∃q,q<6/\t.s.toList=(jl q).1/\t.args.length=(jl q).2:=by
 constructor
 ·rintro(⟨h,h1|h1|h1⟩|⟨h,h1|h1⟩|⟨h,h1⟩);·exact⟨0,by omega,h1,h⟩
  ·exact⟨1,by omega,h1,h⟩
  ·exact⟨2,by omega,h1,h⟩
  ·exact⟨3,by omega,h1,h⟩
  ·exact⟨4,by omega,h1,h⟩
  ·exact⟨5,by omega,h1,h⟩
 ·rintro⟨q,hq,h1,h2⟩;match q,hq with|0,_=>exact .inl ⟨h2,.inl h1⟩|1,_=>exact .inl ⟨h2,.inr (.inl h1)⟩|2,_=>exact .inl ⟨h2,.inr (.inr h1)⟩|3,_=>exact .inr (.inl ⟨h2,.inl h1⟩)|4,_=>exact .inr (.inl ⟨h2,.inr h1⟩)|5,_=>exact .inr (.inr ⟨h2,h1⟩)
theorem ak7(t:Tm)(A:Nat->Prop)(w:World)(vs:List Value)(hv:Tm.rep A w t vs):Calls Tryz.prog 113 #[.agg vs.toArray] w (Pure w (uW t.gF)):=by
 obtain⟨sa,sc,rfl, -⟩:=Tm.dw hv;clear hv;go_enter Tryz.func113,Tryz.ntmps113;go_wp2_with fail;have HX0:=zh (aX (bJ w (.cells #[.int .i64 t.kind,.int .i64 t.n,.string t.s,.slice sa t.args.length sc] 34)) (.cells #[.string ⟨#[33,47,48]⟩,.string ⟨#[116,114,117,101,47,48]⟩,.string ⟨#[102,97,105,108,47,48]⟩,.string ⟨#[101,113,47,50]⟩,.string ⟨#[108,101,115,115,47,50]⟩,.string ⟨#[97,100,100,47,51]⟩] 9));have Ls:=zh (bJ (w.alloc (.cells #[.int .i64 t.kind,.int .i64 t.n,.string t.s,.slice sa t.args.length sc] 34)) (.cells #[.string ⟨#[33,47,48]⟩,.string ⟨#[116,114,117,101,47,48]⟩,.string ⟨#[102,97,105,108,47,48]⟩,.string ⟨#[101,113,47,50]⟩,.string ⟨#[108,101,115,115,47,50]⟩,.string ⟨#[97,100,100,47,51]⟩] 9));have HB0:=zh (((iF _ w).alloc (zL _) (.cells #[.int .i64 t.kind,.int .i64 t.n,.string t.s,.slice sa t.args.length sc] 34)).alloc (by simp) (.cells #[.string ⟨#[33,47,48]⟩,.string ⟨#[116,114,117,101,47,48]⟩,.string ⟨#[102,97,105,108,47,48]⟩,.string ⟨#[101,113,47,50]⟩,.string ⟨#[108,101,115,115,47,50]⟩,.string ⟨#[97,100,100,47,51]⟩] 9));have hz0:(w.alloc (.cells #[.int .i64 t.kind,.int .i64 t.n,.string t.s,.slice sa t.args.length sc] 34)).heap.size=w.heap.size+1:=by simp
 rw[hz0]at Ls;generalize(w.alloc (.cells #[.int .i64 t.kind,.int .i64 t.n,.string t.s,.slice sa t.args.length sc] 34)).alloc (.cells #[.string ⟨#[33,47,48]⟩,.string ⟨#[116,114,117,101,47,48]⟩,.string ⟨#[102,97,105,108,47,48]⟩,.string ⟨#[101,113,47,50]⟩,.string ⟨#[108,101,115,115,47,50]⟩,.string ⟨#[97,100,100,47,51]⟩] 9)=wa at HX0 Ls HB0 ⊢;clear hz0;go_loopw[8](fun i W=>∃j:Nat,j<=6/\i= .int .i64 (j:Int)/\Below wa.heap.size wa W/\∀q,q<j->¬(t.s.toList=(jl q).1/\t.args.length=(jl q).2))(fun i _=>6 - (intOf i).toNat);case atStart=>exact⟨0,by omega,rfl,zB _ _,fun q h=>absurd h (Az _)⟩
 case round=>
  obtain⟨j,hj,rfl,hb,hq⟩:=hrel;have HB:=zh hb;have HQ:=zh hq;obtain⟨x0,x1,x2,x3,xf⟩:=aU (aL HX0.o hb);have HY:=zh (aL Ls.o hb);clear hb hq;by_cases h6:j=6;·subst h6;go_wp2_with fail;go_ret;exact⟨_,rfl,HB0.o.trans (HB.o.mono HB0.o.size),_,rfl,⟨(fun h=>by cases h),fun h=>by obtain⟨q,h1,h2⟩:=(FZ t).1 h;exact absurd h2 (HQ.o q h1)⟩⟩
  by_cases h0:j=0
  ·subst h0;have c0:wr.cell? ⟨w.heap.size+1,0,none⟩=some (.string ⟨#[33,47,48]⟩):=(bW HY.o 0).trans rfl;by_cases e:t.s.toList=[33]
   ·have e':(t.s.toList==(ByteArray.extract ⟨#[33,47,48]⟩ 0 1).toList)=true:=by rw[show(ByteArray.extract ⟨#[33,47,48]⟩ 0 1).toList=[33]by decide+kernel];simpa using e
    by_cases e2:t.args.length=0
    ·have iy:=zh ((FZ t).2 ⟨0,by omega,e,e2⟩);have e2':((t.args.length:Int)==(((((⟨#[33,47,48]⟩:ByteArray)[2]'(by decide)).toNat:Int) - 48)%256))=true:=by rw[show(((((⟨#[33,47,48]⟩:ByteArray)[2]'(by decide)).toNat:Int) - 48)%256)=0 by decide+kernel];simp[e2]
     clear e e2;go_wp2_with fail;go_quiet(fail);go_wp2_with fail;go_ret;exact⟨_,rfl,(HB0.o.trans (HB.o.mono HB0.o.size)).trans ⟨rfl,rfl,rfl,zL _,fun _ _=>rfl⟩,_,rfl,⟨fun _=>iy.o,fun _=>rfl⟩⟩
    ·have jy:=zh (show ¬(t.s.toList=(jl 0).1/\t.args.length=(jl 0).2)from fun h=>e2 h.2);have e2':((t.args.length:Int)==(((((⟨#[33,47,48]⟩:ByteArray)[2]'(by decide)).toNat:Int) - 48)%256))=false:=by rw[show(((((⟨#[33,47,48]⟩:ByteArray)[2]'(by decide)).toNat:Int) - 48)%256)=0 by decide+kernel];simpa using fun h:(t.args.length:Int)=0=>e2 (by omega)
     clear e e2;go_wp2_with fail;go_quiet(fail);go_wp2_with fail;refine⟨⟨1,by omega,by go_num,HB.o.trans ⟨rfl,rfl,rfl,zL _,fun _ _=>rfl⟩,fun q hq=>?_⟩,by first|(simp[intOf];done)|(simp[intOf];omega)⟩;by_cases h:q=0;·subst h;exact jy.o
     ·exact HQ.o q (by omega)
   ·have jy:=zh (show ¬(t.s.toList=(jl 0).1/\t.args.length=(jl 0).2)from fun h=>e h.1);have e':(t.s.toList==(ByteArray.extract ⟨#[33,47,48]⟩ 0 1).toList)=false:=by rw[show(ByteArray.extract ⟨#[33,47,48]⟩ 0 1).toList=[33]by decide+kernel];simpa using e
    clear e;go_wp2_with fail;go_quiet(fail);go_wp2_with fail;refine⟨⟨1,by omega,by go_num,HB.o.trans ⟨rfl,rfl,rfl,zL _,fun _ _=>rfl⟩,fun q hq=>?_⟩,by first|(simp[intOf];done)|(simp[intOf];omega)⟩;by_cases h:q=0;·subst h;exact jy.o
    ·exact HQ.o q (by omega)
  by_cases h1:j=1
  ·subst h1;have c1:wr.cell? ⟨w.heap.size+1,1,none⟩=some (.string ⟨#[116,114,117,101,47,48]⟩):=(bW HY.o 1).trans rfl;by_cases e:t.s.toList=[116,114,117,101]
   ·have e':(t.s.toList==(ByteArray.extract ⟨#[116,114,117,101,47,48]⟩ 0 4).toList)=true:=by rw[show(ByteArray.extract ⟨#[116,114,117,101,47,48]⟩ 0 4).toList=[116,114,117,101]by decide+kernel];simpa using e
    by_cases e2:t.args.length=0
    ·have iy:=zh ((FZ t).2 ⟨1,by omega,e,e2⟩);have e2':((t.args.length:Int)==(((((⟨#[116,114,117,101,47,48]⟩:ByteArray)[5]'(by decide)).toNat:Int) - 48)%256))=true:=by rw[show(((((⟨#[116,114,117,101,47,48]⟩:ByteArray)[5]'(by decide)).toNat:Int) - 48)%256)=0 by decide+kernel];simp[e2]
     clear e e2;go_wp2_with fail;go_quiet(fail);go_wp2_with fail;go_ret;exact⟨_,rfl,(HB0.o.trans (HB.o.mono HB0.o.size)).trans ⟨rfl,rfl,rfl,zL _,fun _ _=>rfl⟩,_,rfl,⟨fun _=>iy.o,fun _=>rfl⟩⟩
    ·have jy:=zh (show ¬(t.s.toList=(jl 1).1/\t.args.length=(jl 1).2)from fun h=>e2 h.2);have e2':((t.args.length:Int)==(((((⟨#[116,114,117,101,47,48]⟩:ByteArray)[5]'(by decide)).toNat:Int) - 48)%256))=false:=by rw[show(((((⟨#[116,114,117,101,47,48]⟩:ByteArray)[5]'(by decide)).toNat:Int) - 48)%256)=0 by decide+kernel];simpa using fun h:(t.args.length:Int)=0=>e2 (by omega)
     clear e e2;go_wp2_with fail;go_quiet(fail);go_wp2_with fail;refine⟨⟨2,by omega,by go_num,HB.o.trans ⟨rfl,rfl,rfl,zL _,fun _ _=>rfl⟩,fun q hq=>?_⟩,by first|(simp[intOf];done)|(simp[intOf];omega)⟩;by_cases h:q=1;·subst h;exact jy.o
     ·exact HQ.o q (by omega)
   ·have jy:=zh (show ¬(t.s.toList=(jl 1).1/\t.args.length=(jl 1).2)from fun h=>e h.1);have e':(t.s.toList==(ByteArray.extract ⟨#[116,114,117,101,47,48]⟩ 0 4).toList)=false:=by rw[show(ByteArray.extract ⟨#[116,114,117,101,47,48]⟩ 0 4).toList=[116,114,117,101]by decide+kernel];simpa using e
    clear e;go_wp2_with fail;go_quiet(fail);go_wp2_with fail;refine⟨⟨2,by omega,by go_num,HB.o.trans ⟨rfl,rfl,rfl,zL _,fun _ _=>rfl⟩,fun q hq=>?_⟩,by first|(simp[intOf];done)|(simp[intOf];omega)⟩;by_cases h:q=1;·subst h;exact jy.o
    ·exact HQ.o q (by omega)
  by_cases h2:j=2
  ·subst h2;have c2:wr.cell? ⟨w.heap.size+1,2,none⟩=some (.string ⟨#[102,97,105,108,47,48]⟩):=(bW HY.o 2).trans rfl;by_cases e:t.s.toList=[102,97,105,108]
   ·have e':(t.s.toList==(ByteArray.extract ⟨#[102,97,105,108,47,48]⟩ 0 4).toList)=true:=by rw[show(ByteArray.extract ⟨#[102,97,105,108,47,48]⟩ 0 4).toList=[102,97,105,108]by decide+kernel];simpa using e
    by_cases e2:t.args.length=0
    ·have iy:=zh ((FZ t).2 ⟨2,by omega,e,e2⟩);have e2':((t.args.length:Int)==(((((⟨#[102,97,105,108,47,48]⟩:ByteArray)[5]'(by decide)).toNat:Int) - 48)%256))=true:=by rw[show(((((⟨#[102,97,105,108,47,48]⟩:ByteArray)[5]'(by decide)).toNat:Int) - 48)%256)=0 by decide+kernel];simp[e2]
     clear e e2;go_wp2_with fail;go_quiet(fail);go_wp2_with fail;go_ret;exact⟨_,rfl,(HB0.o.trans (HB.o.mono HB0.o.size)).trans ⟨rfl,rfl,rfl,zL _,fun _ _=>rfl⟩,_,rfl,⟨fun _=>iy.o,fun _=>rfl⟩⟩
    ·have jy:=zh (show ¬(t.s.toList=(jl 2).1/\t.args.length=(jl 2).2)from fun h=>e2 h.2);have e2':((t.args.length:Int)==(((((⟨#[102,97,105,108,47,48]⟩:ByteArray)[5]'(by decide)).toNat:Int) - 48)%256))=false:=by rw[show(((((⟨#[102,97,105,108,47,48]⟩:ByteArray)[5]'(by decide)).toNat:Int) - 48)%256)=0 by decide+kernel];simpa using fun h:(t.args.length:Int)=0=>e2 (by omega)
     clear e e2;go_wp2_with fail;go_quiet(fail);go_wp2_with fail;refine⟨⟨3,by omega,by go_num,HB.o.trans ⟨rfl,rfl,rfl,zL _,fun _ _=>rfl⟩,fun q hq=>?_⟩,by first|(simp[intOf];done)|(simp[intOf];omega)⟩;by_cases h:q=2;·subst h;exact jy.o
     ·exact HQ.o q (by omega)
   ·have jy:=zh (show ¬(t.s.toList=(jl 2).1/\t.args.length=(jl 2).2)from fun h=>e h.1);have e':(t.s.toList==(ByteArray.extract ⟨#[102,97,105,108,47,48]⟩ 0 4).toList)=false:=by rw[show(ByteArray.extract ⟨#[102,97,105,108,47,48]⟩ 0 4).toList=[102,97,105,108]by decide+kernel];simpa using e
    clear e;go_wp2_with fail;go_quiet(fail);go_wp2_with fail;refine⟨⟨3,by omega,by go_num,HB.o.trans ⟨rfl,rfl,rfl,zL _,fun _ _=>rfl⟩,fun q hq=>?_⟩,by first|(simp[intOf];done)|(simp[intOf];omega)⟩;by_cases h:q=2;·subst h;exact jy.o
    ·exact HQ.o q (by omega)
  by_cases h3:j=3
  ·subst h3;have c3:wr.cell? ⟨w.heap.size+1,3,none⟩=some (.string ⟨#[101,113,47,50]⟩):=(bW HY.o 3).trans rfl;by_cases e:t.s.toList=[101,113]
   ·have e':(t.s.toList==(ByteArray.extract ⟨#[101,113,47,50]⟩ 0 2).toList)=true:=by rw[show(ByteArray.extract ⟨#[101,113,47,50]⟩ 0 2).toList=[101,113]by decide+kernel];simpa using e
    by_cases e2:t.args.length=2
    ·have iy:=zh ((FZ t).2 ⟨3,by omega,e,e2⟩);have e2':((t.args.length:Int)==(((((⟨#[101,113,47,50]⟩:ByteArray)[3]'(by decide)).toNat:Int) - 48)%256))=true:=by rw[show(((((⟨#[101,113,47,50]⟩:ByteArray)[3]'(by decide)).toNat:Int) - 48)%256)=2 by decide+kernel];simp[e2]
     clear e e2;go_wp2_with fail;go_quiet(fail);go_wp2_with fail;go_ret;exact⟨_,rfl,(HB0.o.trans (HB.o.mono HB0.o.size)).trans ⟨rfl,rfl,rfl,zL _,fun _ _=>rfl⟩,_,rfl,⟨fun _=>iy.o,fun _=>rfl⟩⟩
    ·have jy:=zh (show ¬(t.s.toList=(jl 3).1/\t.args.length=(jl 3).2)from fun h=>e2 h.2);have e2':((t.args.length:Int)==(((((⟨#[101,113,47,50]⟩:ByteArray)[3]'(by decide)).toNat:Int) - 48)%256))=false:=by rw[show(((((⟨#[101,113,47,50]⟩:ByteArray)[3]'(by decide)).toNat:Int) - 48)%256)=2 by decide+kernel];simpa using fun h:(t.args.length:Int)=2=>e2 (by omega)
     clear e e2;go_wp2_with fail;go_quiet(fail);go_wp2_with fail;refine⟨⟨4,by omega,by go_num,HB.o.trans ⟨rfl,rfl,rfl,zL _,fun _ _=>rfl⟩,fun q hq=>?_⟩,by first|(simp[intOf];done)|(simp[intOf];omega)⟩;by_cases h:q=3;·subst h;exact jy.o
     ·exact HQ.o q (by omega)
   ·have jy:=zh (show ¬(t.s.toList=(jl 3).1/\t.args.length=(jl 3).2)from fun h=>e h.1);have e':(t.s.toList==(ByteArray.extract ⟨#[101,113,47,50]⟩ 0 2).toList)=false:=by rw[show(ByteArray.extract ⟨#[101,113,47,50]⟩ 0 2).toList=[101,113]by decide+kernel];simpa using e
    clear e;go_wp2_with fail;go_quiet(fail);go_wp2_with fail;refine⟨⟨4,by omega,by go_num,HB.o.trans ⟨rfl,rfl,rfl,zL _,fun _ _=>rfl⟩,fun q hq=>?_⟩,by first|(simp[intOf];done)|(simp[intOf];omega)⟩;by_cases h:q=3;·subst h;exact jy.o
    ·exact HQ.o q (by omega)
  by_cases h4:j=4
  ·subst h4;have c4:wr.cell? ⟨w.heap.size+1,4,none⟩=some (.string ⟨#[108,101,115,115,47,50]⟩):=(bW HY.o 4).trans rfl;by_cases e:t.s.toList=[108,101,115,115]
   ·have e':(t.s.toList==(ByteArray.extract ⟨#[108,101,115,115,47,50]⟩ 0 4).toList)=true:=by rw[show(ByteArray.extract ⟨#[108,101,115,115,47,50]⟩ 0 4).toList=[108,101,115,115]by decide+kernel];simpa using e
    by_cases e2:t.args.length=2
    ·have iy:=zh ((FZ t).2 ⟨4,by omega,e,e2⟩);have e2':((t.args.length:Int)==(((((⟨#[108,101,115,115,47,50]⟩:ByteArray)[5]'(by decide)).toNat:Int) - 48)%256))=true:=by rw[show(((((⟨#[108,101,115,115,47,50]⟩:ByteArray)[5]'(by decide)).toNat:Int) - 48)%256)=2 by decide+kernel];simp[e2]
     clear e e2;go_wp2_with fail;go_quiet(fail);go_wp2_with fail;go_ret;exact⟨_,rfl,(HB0.o.trans (HB.o.mono HB0.o.size)).trans ⟨rfl,rfl,rfl,zL _,fun _ _=>rfl⟩,_,rfl,⟨fun _=>iy.o,fun _=>rfl⟩⟩
    ·have jy:=zh (show ¬(t.s.toList=(jl 4).1/\t.args.length=(jl 4).2)from fun h=>e2 h.2);have e2':((t.args.length:Int)==(((((⟨#[108,101,115,115,47,50]⟩:ByteArray)[5]'(by decide)).toNat:Int) - 48)%256))=false:=by rw[show(((((⟨#[108,101,115,115,47,50]⟩:ByteArray)[5]'(by decide)).toNat:Int) - 48)%256)=2 by decide+kernel];simpa using fun h:(t.args.length:Int)=2=>e2 (by omega)
     clear e e2;go_wp2_with fail;go_quiet(fail);go_wp2_with fail;refine⟨⟨5,by omega,by go_num,HB.o.trans ⟨rfl,rfl,rfl,zL _,fun _ _=>rfl⟩,fun q hq=>?_⟩,by first|(simp[intOf];done)|(simp[intOf];omega)⟩;by_cases h:q=4;·subst h;exact jy.o
     ·exact HQ.o q (by omega)
   ·have jy:=zh (show ¬(t.s.toList=(jl 4).1/\t.args.length=(jl 4).2)from fun h=>e h.1);have e':(t.s.toList==(ByteArray.extract ⟨#[108,101,115,115,47,50]⟩ 0 4).toList)=false:=by rw[show(ByteArray.extract ⟨#[108,101,115,115,47,50]⟩ 0 4).toList=[108,101,115,115]by decide+kernel];simpa using e
    clear e;go_wp2_with fail;go_quiet(fail);go_wp2_with fail;refine⟨⟨5,by omega,by go_num,HB.o.trans ⟨rfl,rfl,rfl,zL _,fun _ _=>rfl⟩,fun q hq=>?_⟩,by first|(simp[intOf];done)|(simp[intOf];omega)⟩;by_cases h:q=4;·subst h;exact jy.o
    ·exact HQ.o q (by omega)
  by_cases h5:j=5
  ·subst h5;have c5:wr.cell? ⟨w.heap.size+1,5,none⟩=some (.string ⟨#[97,100,100,47,51]⟩):=(bW HY.o 5).trans rfl;by_cases e:t.s.toList=[97,100,100]
   ·have e':(t.s.toList==(ByteArray.extract ⟨#[97,100,100,47,51]⟩ 0 3).toList)=true:=by rw[show(ByteArray.extract ⟨#[97,100,100,47,51]⟩ 0 3).toList=[97,100,100]by decide+kernel];simpa using e
    by_cases e2:t.args.length=3
    ·have iy:=zh ((FZ t).2 ⟨5,by omega,e,e2⟩);have e2':((t.args.length:Int)==(((((⟨#[97,100,100,47,51]⟩:ByteArray)[4]'(by decide)).toNat:Int) - 48)%256))=true:=by rw[show(((((⟨#[97,100,100,47,51]⟩:ByteArray)[4]'(by decide)).toNat:Int) - 48)%256)=3 by decide+kernel];simp[e2]
     clear e e2;go_wp2_with fail;go_quiet(fail);go_wp2_with fail;go_ret;exact⟨_,rfl,(HB0.o.trans (HB.o.mono HB0.o.size)).trans ⟨rfl,rfl,rfl,zL _,fun _ _=>rfl⟩,_,rfl,⟨fun _=>iy.o,fun _=>rfl⟩⟩
    ·have jy:=zh (show ¬(t.s.toList=(jl 5).1/\t.args.length=(jl 5).2)from fun h=>e2 h.2);have e2':((t.args.length:Int)==(((((⟨#[97,100,100,47,51]⟩:ByteArray)[4]'(by decide)).toNat:Int) - 48)%256))=false:=by rw[show(((((⟨#[97,100,100,47,51]⟩:ByteArray)[4]'(by decide)).toNat:Int) - 48)%256)=3 by decide+kernel];simpa using fun h:(t.args.length:Int)=3=>e2 (by omega)
     clear e e2;go_wp2_with fail;go_quiet(fail);go_wp2_with fail;refine⟨⟨6,by omega,by go_num,HB.o.trans ⟨rfl,rfl,rfl,zL _,fun _ _=>rfl⟩,fun q hq=>?_⟩,by first|(simp[intOf];done)|(simp[intOf];omega)⟩;by_cases h:q=5;·subst h;exact jy.o
     ·exact HQ.o q (by omega)
   ·have jy:=zh (show ¬(t.s.toList=(jl 5).1/\t.args.length=(jl 5).2)from fun h=>e h.1);have e':(t.s.toList==(ByteArray.extract ⟨#[97,100,100,47,51]⟩ 0 3).toList)=false:=by rw[show(ByteArray.extract ⟨#[97,100,100,47,51]⟩ 0 3).toList=[97,100,100]by decide+kernel];simpa using e
    clear e;go_wp2_with fail;go_quiet(fail);go_wp2_with fail;refine⟨⟨6,by omega,by go_num,HB.o.trans ⟨rfl,rfl,rfl,zL _,fun _ _=>rfl⟩,fun q hq=>?_⟩,by first|(simp[intOf];done)|(simp[intOf];omega)⟩;by_cases h:q=5;·subst h;exact jy.o
    ·exact HQ.o q (by omega)
  omega
def abm(base:Nat)(t:Tm):Value->World->Prop:=fun v w=>∃us,v= .agg us.toArray/\Tm.rep (fun b=>base<=b) w t us
def abn(base:Nat)(l:List Tm):Value->World->Prop:=fun v w=>eP (fun b=>base<=b) w l v
theorem av0(base:Nat)(t:Tm):rT (abm base t):=fun v w w'⟨us,h1,h2⟩hb=>⟨us,h1,Tm.aj.1 _ _ _ _ _ h2 (af.ob hb)⟩
theorem av1(base:Nat)(l:List Tm):rT (abn base l):=fun v w w' h hb=>h.below hb
theorem av2(c:Cl)(A:Nat->Prop)(w:World)(vs:List Value)(hc:Cl.rep A w c vs):Calls Tryz.prog 38 #[.agg vs.toArray] w (Pure w fun v w'=>∃us,v= .agg us.toArray/\Cl.rep (New w) w' c us):=by
 obtain⟨h,l,v⟩:=c;obtain⟨pa,O4,pb,O5,rfl,hh,hb,hi⟩:=hc;simp only at hh hb hi;have HH:=zh hh;have Em:=zh hb;have HI:=zh hi;clear hh hb hi;go_enter Tryz.func38,Tryz.ntmps38;go_wp2_with fail;generalize hW:(w.alloc (.cells #[.int .i64 h.kind,.int .i64 h.n,.string h.s,.slice pa h.args.length O4,.slice pb l.length O5,.int .i64 v] 65)).alloc (.cells #[.int .i64 0,.int .i64 0,.string ⟨#[]⟩,.slice none 0 0,.slice none 0 0,.int .i64 0] 65)=W0;have O6:∀w',Below W0.heap.size W0 w'->Below w.heap.size w w'/\nz w' w.heap.size 0 [.int .i64 h.kind,.int .i64 h.n,.string h.s,.slice pa h.args.length O4]/\w'.cell? ⟨w.heap.size,4,none⟩=some (.slice pb l.length O5)/\w'.heap[w.heap.size]?=some (.cells #[.int .i64 h.kind,.int .i64 h.n,.string h.s,.slice pa h.args.length O4,.slice pb l.length O5,.int .i64 v] 65 (0,0))/\w'.heap[w.heap.size+1]?=some (.cells #[.int .i64 0,.int .i64 0,.string ⟨#[]⟩,.slice none 0 0,.slice none 0 0,.int .i64 0] 65 (0,0)):=by intro w' hb;subst hW;have h2:=je w (.cells #[.int .i64 h.kind,.int .i64 h.n,.string h.s,.slice pa h.args.length O4,.slice pb l.length O5,.int .i64 v] 65) (.cells #[.int .i64 0,.int .i64 0,.string ⟨#[]⟩,.slice none 0 0,.slice none 0 0,.int .i64 0] 65);have h3:=aL h2.1 hb;have h4:=aL h2.2 hb;exact⟨eB (eB (hb.mono (by simp))),by intro j u hj;match j,hj with|0,hj=>exact(bW h3 0).trans hj|1,hj=>exact(bW h3 1).trans hj|2,hj=>exact(bW h3 2).trans hj|3,hj=>exact(bW h3 3).trans hj|j+4,hj=>simp at hj,(bW h3 4).trans rfl,h3,h4⟩
 have dV:=zh O6;have hsz:W0.heap.size=w.heap.size+2:=by subst hW;simp
 have hsz':w.heap.size+2<=W0.heap.size:=by omega
 clear O6 hW hsz;refine Kk 7 (Inv:=fun w'=>Below W0.heap.size W0 w') (Po:=posts [aQ (.pointer (some ⟨w.heap.size,0,none⟩)),aQ (.agg #[.int .i64 h.kind,.int .i64 h.n,.string h.s,.slice pa h.args.length O4]),abm W0.heap.size h,aQ (.pointer (some ⟨w.heap.size,4,none⟩)),aQ (.slice pb l.length O5),abn W0.heap.size l,aQ (.pointer (some ⟨w.heap.size,0,none⟩))]) (Rl:=fun w w'=>Below w.heap.size w w') (by kernel_rfl) (by kernel_rfl) (by kernel_rfl) (by kernel_rfl) ((zB _ _).drew) ?_ ?_ ?_ ?_;·refine wK fun R hR=>?_;simp only[gK,uQ,pz]at hR;rcases hR with rfl|rfl|rfl|rfl|rfl|rfl|rfl<;>first|exact wJ _|exact EH|exact EI _|exact EJ _|exact EK _|exact EL _|exact EM _|exact EN _|exact EO _|exact CJ _ _|exact A7 _ _|exact av0 _ _|exact av1 _ _
 ·exact fun w1 w2 h h'=>h.trans (h'.mono h.size)
 ·intro i o ho f ac ww hinv hpo hdst hold;match i,ho with|0,ho=>obtain rfl:_=o:=zI ho;have t1:=hold 1 (by kernel_rfl);refine Or.inl ⟨aK rfl,?_⟩;clear hdst hpo hold ho hinv;unfold aI;go_simp;exact⟨rfl,zB _ _⟩|1,ho=>obtain rfl:_=o:=zI ho;have t3:=hdst 0 3 (by kernel_rfl) (by kernel_rfl);have p0:=hpo 0 (by kernel_rfl);refine Or.inl ⟨aK rfl,?_⟩;clear hdst hpo hold ho;rw[show f 0=_ from p0]at t3;obtain⟨-,q1,q2,q3, -⟩:=dV.o ww hinv;obtain⟨r0,r1,r2,r3,r4,r5,rf⟩:=fQ q3;clear q3;unfold aI;go_simp;exact⟨rfl,zB _ _⟩|2,ho=>obtain rfl:_=o:=zI ho;have t4:=hdst 1 4 (by kernel_rfl) (by kernel_rfl);have p1:=hpo 1 (by kernel_rfl);refine Or.inl ⟨aK rfl,?_⟩;clear hdst hpo hold ho;rw[show f 1=_ from p1]at t4;unfold aI;go_simp;refine(acG h A _ _ (Tm.aj.1 _ _ _ _ _ HH.o (af.ob (dV.o ww hinv).1))).mono ?_;rintro e w1⟨r,rfl,hb,us,rfl,hr⟩;exact⟨_,rfl,⟨us,rfl,Tm.aj.2.1 _ _ _ _ _ hr (fun b _ hb=>fM hinv.size hb)⟩,hb⟩|3,ho=>obtain rfl:_=o:=zI ho;have t1:=hold 1 (by kernel_rfl);refine Or.inl ⟨aK rfl,?_⟩;clear hdst hpo hold ho hinv;unfold aI;go_simp;exact⟨rfl,zB _ _⟩|4,ho=>obtain rfl:_=o:=zI ho;have t6:=hdst 3 6 (by kernel_rfl) (by kernel_rfl);have p3:=hpo 3 (by kernel_rfl);refine Or.inl ⟨aK rfl,?_⟩;clear hdst hpo hold ho;rw[show f 3=_ from p3]at t6;obtain⟨-,q1,q2,q3, -⟩:=dV.o ww hinv;obtain⟨r0,r1,r2,r3,r4,r5,rf⟩:=fQ q3;clear q3;unfold aI;go_simp;exact⟨rfl,zB _ _⟩|5,ho=>obtain rfl:_=o:=zI ho;have t7:=hdst 4 7 (by kernel_rfl) (by kernel_rfl);have p4:=hpo 4 (by kernel_rfl);refine Or.inl ⟨aK rfl,?_⟩;clear hdst hpo hold ho;rw[show f 4=_ from p4]at t7;unfold aI;go_simp;refine(acH l A _ _ (au.keeps Tm.aj Em.o (af.ob (dV.o ww hinv).1))).mono ?_;rintro e w1⟨r,rfl,hb,hr⟩;exact⟨_,rfl,au.mono Tm.aj (by omega) hr (fun b _ hb=>fM hinv.size hb),hb⟩|6,ho=>obtain rfl:_=o:=zI ho;have t1:=hold 1 (by kernel_rfl);refine Or.inl ⟨aK rfl,?_⟩;clear hdst hpo hold ho hinv;unfold aI;go_simp;exact⟨rfl,zB _ _⟩|i+7,ho=>simp at ho
 ·intro f ww hinv hpo;have p2:(abm W0.heap.size h) (f 2) ww:=hpo 2 (by decide);have p5:(abn W0.heap.size l) (f 5) ww:=hpo 5 (by decide);have p6:f 6= .pointer (some ⟨w.heap.size,0,none⟩):=hpo 6 (by decide);obtain⟨us,e2,hr⟩:=p2;obtain⟨a2,c2,b2,o2,e5, -⟩:=au.at p5;have HR2:=zh hr;have HR5:=zh p5;obtain⟨sa,sc,rfl, -⟩:=Tm.dw hr;obtain⟨b3,x0,x1,b4,b5⟩:=dV.o ww hinv;obtain⟨y0,y1,y2,y3,y4,y5,yf⟩:=fQ b4;obtain⟨z0,z1,z2,z3,z4,z5,zf⟩:=fQ b5;simp only[gY,uP,mE,xI,wC,xK];rw[e2,e5,p6];rw[e5]at HR5;have HBB:=zh b3;have hz:w.heap.size+2<=ww.heap.size:=by have :=hinv.size;omega
  have hcs:=dH;clear hr p5 e2 e5 p6 hinv hpo b3 x0 x1 b4 b5;refine qH (i:=7) (by kernel_rfl) (aF rfl (by rfl) ?_);go_simp;refine qH (i:=8) (by kernel_rfl) (aF rfl (by rfl) ?_);go_simp;refine qH (i:=9) (by kernel_rfl) (aF rfl (by rfl) ?_);go_simp;refine Co (by kernel_rfl) ?_ _;go_wp2_with fail;have bU:=zh (show Ch (fun b=>b=w.heap.size\/b=w.heap.size+1) ww (((((((((((ww.setCell ⟨w.heap.size,0,none⟩ (.int .i64 h.kind)).setCell ⟨w.heap.size,1,none⟩ (.int .i64 h.n)).setCell ⟨w.heap.size,2,none⟩ (.string h.s)).setCell ⟨w.heap.size,3,none⟩ (.slice sa h.args.length sc)).setCell ⟨w.heap.size,4,none⟩ (.slice a2 l.length c2)).setCell ⟨w.heap.size+1,0,none⟩ (.int .i64 h.kind)).setCell ⟨w.heap.size+1,1,none⟩ (.int .i64 h.n)).setCell ⟨w.heap.size+1,2,none⟩ (.string h.s)).setCell ⟨w.heap.size+1,3,none⟩ (.slice sa h.args.length sc)).setCell ⟨w.heap.size+1,4,none⟩ (.slice a2 l.length c2)).setCell ⟨w.heap.size+1,5,none⟩ (.int .i64 v))from((((((((((((((((((((((Ch.refl _ _).setCell (p:=⟨w.heap.size,0,none⟩) (Or.inl (Or.inl rfl)) (.int .i64 h.kind))).setCell (p:=⟨w.heap.size,1,none⟩) (Or.inl (Or.inl rfl)) (.int .i64 h.n))).setCell (p:=⟨w.heap.size,2,none⟩) (Or.inl (Or.inl rfl)) (.string h.s))).setCell (p:=⟨w.heap.size,3,none⟩) (Or.inl (Or.inl rfl)) (.slice sa h.args.length sc))).setCell (p:=⟨w.heap.size,4,none⟩) (Or.inl (Or.inl rfl)) (.slice a2 l.length c2))).setCell (p:=⟨w.heap.size+1,0,none⟩) (Or.inl (Or.inr rfl)) (.int .i64 h.kind))).setCell (p:=⟨w.heap.size+1,1,none⟩) (Or.inl (Or.inr rfl)) (.int .i64 h.n))).setCell (p:=⟨w.heap.size+1,2,none⟩) (Or.inl (Or.inr rfl)) (.string h.s))).setCell (p:=⟨w.heap.size+1,3,none⟩) (Or.inl (Or.inr rfl)) (.slice sa h.args.length sc))).setCell (p:=⟨w.heap.size+1,4,none⟩) (Or.inl (Or.inr rfl)) (.slice a2 l.length c2))).setCell (p:=⟨w.heap.size+1,5,none⟩) (Or.inl (Or.inr rfl)) (.int .i64 v)));refine dD (v:= .agg #[.int .i64 h.kind,.int .i64 h.n,.string h.s,.slice sa h.args.length sc,.slice a2 l.length c2,.int .i64 v]) (by simp[results,Tryz.results38,go_sem,hcs,z0,z1,z2,z3,z4,z5,zf,y0,y1,y2,y3,y4,y5,yf]) rfl ⟨_,rfl,?_,_,rfl,sa,sc,a2,c2,rfl,?_,?_,HI.o⟩;·exact HBB.o.trans ⟨bU.o.os,bU.o.tape,bU.o.output,bU.o.size,fun k hk=>bU.o.block k (by omega) (by omega)⟩
  ·have HK:=zh (bU.o.keeps (A:=fun b=>W0.heap.size<=b) (fun b _ h=>by omega));exact Tm.aj.2.1 _ _ _ _ _ (Tm.aj.1 _ _ _ _ _ HR2.o HK.o) (fun b _ hb=>fM (by omega) hb)
  ·have HK:=zh (bU.o.keeps (A:=fun b=>W0.heap.size<=b) (fun b _ h=>by omega));exact au.mono Tm.aj (by omega) (au.keeps Tm.aj HR5.o HK.o) (fun b _ hb=>fM (by omega) hb)
theorem ak9:nZ Tryz.prog 22 65 6 88:= .mk' (z:= .agg #[.int .i64 0,.int .i64 0,.string .empty,.slice none 0 0,.slice none 0 0,.int .i64 0]) Tryz.underlying22 (by kernel_rfl) rfl (by omega) (by omega)
theorem av4(l:List Cl)(A:Nat->Prop)(w:World)(v:Value)(hv:lW A w l v):Calls Tryz.prog 9 #[v] w (Pure w fun v' w'=>lW (New w) w' l v'):=by
 obtain⟨a,cap,b,off,rfl,hlc,hcm,hlb,ha,he⟩:=hv.at;have HE:=zh he;have HA:=zh ha;clear hv he ha;go_enter Tryz.func9,Tryz.ntmps9;go_wp2_with fail;go_loopw[3,8](fun v i wr=>∃k:Nat,k<=l.length/\i= .int .i64 k/\Below w.heap.size w wr/\aG wr w.heap.size 65 6 Cl.rep (New w) (l.take k) v)(fun _ i _=>l.length - (intOf i).toNat);case atStart=>exact⟨0,dn _,rfl,zB _ _,by simpa using aG.nil ..⟩
 case round=>
  obtain⟨k,hk,rfl,hb,hown⟩:=hrel;have hz:=hb.size;have HO:=zh hown;have HB:=zh hb;clear hown hb;by_cases hlt:k<l.length
  ·obtain⟨rfl,bC⟩:=HA.o (by omega);obtain⟨sa,sc,ba,bc,c0,c1,c2,c3,c4,c5,hr⟩:=GK HE.o bC (af.ob HB.o) hlt;have HC:=zh (av2 l[k] _ (wr.alloc _) _ (Cl.aj.1 _ _ _ _ _ hr (af.alloc _ _ (.cells (#[.int .i64 l[k].head.kind,.int .i64 l[k].head.n,.string l[k].head.s,.slice sa l[k].head.args.length sc,.slice ba l[k].body.length bc,.int .i64 l[k].vars]:Array Value) 65))));clear hr;go_wp2_with fail;refine(HC.o).mono ?_;rintro e w1⟨v,rfl,hb1,us,rfl,hr⟩;have hsz:=hb1.size;simp only[bQ]at hsz;have hr0:=hr;obtain⟨sa',eQ,ba',bc',rfl, -⟩:=hr0;have eT:=zh ((HO.o.alloc Cl.aj _).below Cl.aj hb1);have HN:=zh (JF Cl.aj HO.o (by simp) (A:=New w) (fun b hb=>by simp[New]at hb ⊢;omega) hr);have HL:=zh (show(l.take k).length<4194304/\w.heap.size<=w1.heap.size by simp;omega);have HB1:=zh ((HB.o.alloc hz _).trans (hb1.mono (by simp;omega)));clear hr hb1 HC;go_wp2_with(at_builtin;refine jf rfl (.tmp 12) (.tmp 15) 22 rfl w.heap.size 65 6 88 ak9 Cl.aj u3 (l.take k) rfl eT.o l[k] [_,_,_,_,_,_] rfl rfl HN.o HL.o ?_;intro v' w2 hown2 aB);go_roundw;case rel=>refine⟨k+1,by omega,by go_num,aB.below (HB1.o.alloc (by omega) _) (by simp;omega) (fun b hb=>(HO.o.lt b hb).1),?_⟩;rw[dX hlt];exact hown2
   case measure=>simp[intOf];omega
  ·have :k=l.length:=by omega
   subst this;go_wp2_with fail;go_ret;have hO:=HO.o;rw[jd]at hO;exact⟨_,rfl,HB.o,hO.sl Cl.aj hlb (fun b hb=>hb)⟩
def Pv.bY(p:Pv):Int:=p.vars+8*((p.fuel+(12 - p.out.length):Nat):Int)
structure jq (d e : Int) (p p' : Pv) : Prop where
  vars : p.vars ≤ p'.vars
  fuel : p'.fuel ≤ p.fuel
  out : p.out.length ≤ p'.out.length
  calls : p'.calls + p'.fuel ≤ p.calls + p.fuel
  bY : p'.bY ≤ p.bY + d
  on : p'.ended = false → p'.out.length ≤ 11 ∧ p'.bY ≤ p.bY + e
theorem jq.refl{p:Pv}(h:p.out.length<=11):jq 0 0 p p:=⟨kr _,zL _,zL _,zL _,by omega,fun _=>⟨h,by omega⟩⟩
theorem jq.put(p:Pv)(kind:Int)(e:Int):jq 0 e p (p.put kind):=⟨kr _,zL _,by simp[Pv.put],zL _,by simp[Pv.put,Pv.bY];omega,fun h=>by simp[Pv.put]at h⟩
theorem jq.mono{d e d' e':Int}{p p':Pv}(h:jq d e p p')(h1:d<=d')(h2:e<=e'):jq d' e' p p':=⟨h.vars,h.fuel,h.out,h.calls,by have :=h.bY;omega,fun x=>⟨(h.on x).1,by have :=(h.on x).2;omega⟩⟩
theorem jq.trans{a b d e:Int}{p p' p'':Pv}(h:jq a b p p')(hp:p'.ended=false)(h':jq d e p' p''):jq (b+d) (b+e) p p'':=⟨Int.le_trans h.vars h'.vars,fM h'.fuel h.fuel,fM h.out h'.out,fM h'.calls h.calls,by have :=h'.bY;have :=(h.on hp).2;omega,fun x=>⟨(h'.on x).1,by have :=(h'.on x).2;have :=(h.on hp).2;omega⟩⟩
def abo(f:Nat)(pr:List Td->Env->Pv->Int×Pv):Prop:=∀td E p,p.ended=false->p.out.length<=11->p.fuel<=f->jq 0 (-8) p (pr td E p).2
theorem abp{f:Nat}{pr:List Td->Env->Pv->Int×Pv}(h:abo f pr)(t:Tm)(rest:List Td)(E:Env)(call:Nat):∀(cs:List Cl)(p:Pv),(∀c∈cs,0<=c.vars/\c.vars<=8)->p.ended=false->p.out.length<=11->p.fuel<=f->jq 8 0 p (jH pr t rest E call cs p).2
 |[],p,_,hp,ho,hf=>(jq.refl ho).mono (by omega) (by omega)
 |c::cs,p,hc,hp,ho,hf=>by
  obtain⟨hc0,hc8⟩:=hc c (by simp);have hcs:∀c∈cs,0<=c.vars/\c.vars<=8:=fun x hx=>hc x (by simp[hx]);rw[jH];simp only;split;·exact(jq.put p 4 0).mono (by omega) (by omega)
  ·split;·exact abp h t rest E call cs p hcs hp ho hf
   ·have h1:=h (jG call p.vars c.body rest) (bM 400 [(dN c.head p.vars,t)] E).env {p with vars:=p.vars+c.vars} hp ho hf;generalize pr (jG call p.vars c.body rest) (bM 400 [(dN c.head p.vars,t)] E).env {p with vars:=p.vars+c.vars}=r at h1 ⊢;have h2:jq 8 0 p r.2:=⟨by have :=h1.vars;simp only at this;omega,h1.fuel,h1.out,h1.calls,by have :=h1.bY;simp only[Pv.bY]at this ⊢;omega,fun x=>⟨(h1.on x).1,by have :=(h1.on x).2;simp only[Pv.bY]at this ⊢;omega⟩⟩;split;·exact h2
    ·rename_i hne;have hne':r.2.ended=false:=by simpa using hne
     split;·exact h2
     ·split;·exact h2
      ·have h3:=abp h t rest E call cs r.2 hcs hne' (h2.on hne').1 (fM h2.fuel hf);exact(h2.trans hne' h3).mono (by omega) (by omega)
theorem av5{f:Nat}{pr:List Td->Env->Pv->Int×Pv}(h:abo f pr)(g:Td)(rest:List Td)(E:Env)(p:Pv)(hp:p.ended=false)(ho:p.out.length<=11)(hf:p.fuel<=f):jq 0 0 p (mi pr g rest E p).2:=by
 have up:∀E,jq 0 0 p (pr rest E p).2:=fun E=>(h rest E p hp ho hf).mono (by omega) (by omega);unfold mi;repeat' split
 all_goals first|exact up _|exact jq.refl ho|exact jq.put _ _ _|skip
 all_goals simp only
 all_goals repeat' split
 all_goals first|exact up _|exact jq.refl ho|exact jq.put _ _ _
theorem av6(q:Nat)(E:Env)(p:Pv)(hp:p.ended=false)(ho:p.out.length<=11):jq 0 (-8) p (yS q E p).2:=by
 unfold yS;split;·exact jq.put _ _ _
 ·simp only;split;·exact⟨kr _,zL _,by simp[Pv.put],zL _,by simp[Pv.put,Pv.bY];omega,fun h=>by simp[Pv.put]at h⟩
  ·rename_i l m hfl hlt;simp only[bT,jr]at hlt;refine⟨kr _,zL _,by simp,zL _,by simp[Pv.bY];omega,fun _=>⟨by simp;omega,by simp[Pv.bY];omega⟩⟩
theorem ala{P:List Cl}{t:Tm}{k:Nat}{c:Cl}(h:c∈gJ P t k):c∈P:=by unfold gJ at h;exact F7 (aci.1 h).1
theorem abq{P:List Cl}{q:Nat}(hP:∀c∈P,0<=c.vars/\c.vars<=8):∀(k f:Nat),f<k->abo f (dh P q k)
 |0,f,h=>absurd h (Az _)
 |k+1,f,h=>fun td E p hp ho hf=>by
  cases td with
   |nil=>rw[dh];exact av6 q E p hp ho
   |cons g rest=>
    rw[dh];split;·exact jq.put _ _ _
    ·rename_i hf0;have ih:=abq (q:=q) hP k (p.fuel - 1) (by omega);have h8:∀p':Pv,jq 8 0 {p with fuel:=p.fuel - 1} p'->jq 0 (-8) p p':=fun p' h=>⟨h.vars,by have :=h.fuel;simp only at this;omega,h.out,by have :=h.calls;simp only at this;omega,by have :=h.bY;simp only[Pv.bY]at this ⊢;omega,fun x=>⟨(h.on x).1,by have :=(h.on x).2;simp only[Pv.bY]at this ⊢;omega⟩⟩;simp only;split;·exact h8 _ ((av5 ih g rest E {p with fuel:=p.fuel - 1} hp ho (zL _)).mono (by omega) (by omega))
     ·split;·exact h8 _ ((jq.put _ _ 0).mono (by omega) (by omega))
      ·have h3:=abp ih g.t rest E (p.calls+1) (gJ P g.t 0) {p with fuel:=p.fuel - 1,calls:=p.calls+1} (fun c hc=>hP c (ala hc)) hp ho (zL _);exact⟨h3.vars,by have :=h3.fuel;simp only at this;omega,h3.out,by have :=h3.calls;simp only at this;omega,by have :=h3.bY;simp only[Pv.bY]at this ⊢;omega,fun x=>⟨(h3.on x).1,by have :=(h3.on x).2;simp only[Pv.bY]at this ⊢;omega⟩⟩
