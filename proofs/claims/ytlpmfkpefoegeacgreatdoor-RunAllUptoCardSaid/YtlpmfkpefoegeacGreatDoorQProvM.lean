import Derived.Test.YtlpmfkpefoegeacGreatDoorPMBack
import Derived.Test.YtlpmfkpefoegeacGreatDoorQTidy
namespace Go.Proofs.YtlpmfkpefoegeacGreatDoor
set_option maxRecDepth 99999
set_option maxHeartbeats 0
set_option linter.all false
open Go.RowKit
section
variable {base : Nat} {P : List Cl} {q g mb xb : Nat} {pv tv cv ov : Value} {s : Sv} {N : Int}
theorem auh{xb b o:Nat}{u:Value}{k:Int}{w:World}(h:kR xb k w)(hb:xb≠b):kR xb k (w.setCell ⟨b,o,none⟩ u):=(bH _ _ _ _ hb).trans h
theorem Tm.In.Nq{N:Int}{t:Tm}(h:t.In N):t.args.length<=4:=by cases h with|var=>simp[Tm.args]|atom=>simp[Tm.args]|int=>simp[Tm.args]|comp _ _ _ _ _ h3=>exact h3
end
def gz(A:Nat->Prop)(w:World):List (Int×Tm)->Value->Prop|[],v=>v= .pointer none|p::r,v=>∃b a cap rv,v= .pointer (some ⟨b,0,none⟩)/\A b/\w.heap[b]?=some (.cells #[.int .i64 p.1,.int .i64 p.2.kind,.int .i64 p.2.n,.string p.2.s,.slice a p.2.args.length cap,rv] 196 (0,0))/\Tm.rep A w p.2 [.int .i64 p.2.kind,.int .i64 p.2.n,.string p.2.s,.slice a p.2.args.length cap]/\gz A w r rv
theorem gz.keeps{A:Nat->Prop}{w w':World}:∀{l:List (Int×Tm)}{v:Value},gz A w l v->af A w w'->gz A w' l v|[],v,h,_=>h|p::r,v,h,hk=>by obtain⟨b,a,cap,rv,h1,h2,h3,h4,h5⟩:=h;exact⟨b,a,cap,rv,h1,h2,bB h3 hk h2,Tm.aj.1 _ _ _ _ _ h4 hk,gz.keeps h5 hk⟩
theorem gz.mono{A A':Nat->Prop}{w:World}:∀{l:List (Int×Tm)}{v:Value},gz A w l v->(∀b,b<w.heap.size->A b->A' b)->gz A' w l v|[],v,h,_=>h|p::r,v,h,hk=>by obtain⟨b,a,cap,rv,h1,h2,h3,h4,h5⟩:=h;exact⟨b,a,cap,rv,h1,hk b (aJ h3) h2,h3,Tm.aj.2.1 _ _ _ _ _ h4 hk,gz.mono h5 hk⟩
theorem gz.ptr{A:Nat->Prop}{w:World}{l:List (Int×Tm)}{v:Value}(h:gz A w l v):∃p,v= .pointer p:=by cases l with|nil=>exact⟨none,h⟩|cons g r=>obtain⟨b,_,_,_,rfl,_⟩:=h;exact⟨_,rfl⟩
theorem aui{E:Env}{N:Int}(hE:cz N E){pre r:List (Int×Tm)}(h:E.reverse=pre++r){n:Int}(hp:∀p∈pre,p.1≠n):(r=[]->jM E n=none)/\∀q r',r=q::r'->(q.1=n->jM E n=some q.2):=by
 have hm:∀p∈E,p∈pre\/p∈r:=fun p hp=>by have :p∈E.reverse:=Gc.2 hp;rw[h]at this;exact fE.1 this
 refine⟨fun e=>?_,fun q r' e hq=>?_⟩
 ·subst e;rw[Ka];intro p uk;rcases hm p uk with h1|h1;·exact hp p h1
  ·cases h1
 ·subst e;have hqE:q∈E:=by
   have :q∈E.reverse:=by rw[h];simp
   exact Gc.1 this
  cases hg:jM E n with
   |none=>exact absurd hq (Ka.1 hg q hqE)
   |some x=>
    have hx:=P8 hg;have :x=q.2:=by
     by_cases e:(n,x)=q;·rw[<-e]
     ·exfalso;have hpw:(E.map (·.1)).Nodup:=hE.nodup;obtain⟨i,hi,hie⟩:=ng.1 hx;obtain⟨j,hj,eH⟩:=ng.1 hqE;have hij:i=j:=by
       have h1:(E.map (·.1))[i]'(by simpa using hi)=n:=by simp[hie]
       have h2:(E.map (·.1))[j]'(by simpa using hj)=n:=by simp[eH,hq]
       exact(List.getElem_inj hpw).1 (h1.trans h2.symm)
      subst hij;exact e (hie.symm.trans eH)
    rw[this]
theorem FP{E:Env}{N:Int}(hE:cz N E)(t:Tm)(ht:t.In N)(A:Nat->Prop)(w:World)(ev:Value)(vs:List Value)(he:gz A w E.reverse ev)(hv:Tm.rep A w t vs):Calls Tryz.prog 136 #[ev,.agg vs.toArray] w (aoa A w (ax E t)):=by
 have HE:=zh hE;have HT:=zh ht;obtain⟨a,cap,rfl, -⟩:=Tm.dw hv;have HV:=zh (Tm.aj.2.1 _ (fun b=>A b/\b<w.heap.size) _ _ _ hv fun b hb hA=>⟨hA,hb⟩);have HQ:=zh (gz.mono (A':=fun b=>A b/\b<w.heap.size) he fun b hb hA=>⟨hA,hb⟩);obtain⟨ep,rfl⟩:=he.ptr;have hcs:=dH;clear hE ht hv he;go_enter Tryz.func136,Tryz.ntmps136;go_wp2_with fail;have HB0:=zh (((iF _ w).alloc (zL _) (.cells #[.int .i64 t.kind,.int .i64 t.n,.string t.s,.slice a t.args.length cap] 34)).alloc (by simp) (.cells #[.int .i64 0,.int .i64 0,.string .empty,.slice none 0 0] 34));have HX0:=zh (je w (.cells #[.int .i64 t.kind,.int .i64 t.n,.string t.s,.slice a t.args.length cap] 34) (.cells #[.int .i64 0,.int .i64 0,.string .empty,.slice none 0 0] 34));go_loopg[5]((t.n.toNat+1)*(E.length+1)+E.length+1)(fun gk x wr=>∃(t':Tm)(a':Option Addr)(cap':Nat)(pre r:List (Int×Tm)),Below w.heap.size w wr/\wr.heap[w.heap.size]?=some (.cells #[.int .i64 t'.kind,.int .i64 t'.n,.string t'.s,.slice a' t'.args.length cap'] 34 (0,0))/\wr.heap[w.heap.size+1]?=some (.cells #[.int .i64 0,.int .i64 0,.string .empty,.slice none 0 0] 34 (0,0))/\Tm.rep (fun b=>A b/\b<w.heap.size) wr t' [.int .i64 t'.kind,.int .i64 t'.n,.string t'.s,.slice a' t'.args.length cap']/\t'.In N/\ax E t'=ax E t/\E.reverse=pre++r/\(∀p∈pre,p.1≠t'.n)/\gz (fun b=>A b/\b<w.heap.size) wr r x/\(if t'.kind=0 then t'.n.toNat+1 else 0)*(E.length+1)+r.length<gk);case atStart=>
  exact⟨t,a,cap,[],E.reverse,HB0.o,HX0.o.1,HX0.o.2,Tm.aj.1 _ _ _ _ _ HV.o (af.ob HB0.o),HT.o,rfl,rfl,by simp,HQ.o.keeps (af.ob HB0.o),by
   rw[xJ];split;·omega
   ·omega⟩
 case round=>
  obtain⟨t',a',cap',pre,r,hb,hx,hy,hr,hin,hsl,hpr,hpn,hq,hk⟩:=hrel;have HB:=zh hb;have HX:=zh hx;have HY:=zh hy;have HR:=zh hr;have dM:=zh hin;have pM:=zh hsl;have qU:=zh hpr;have Nr:=zh hpn;have HK:=zh hk;have uJ:=zh hq;have hz:=aJ hy;have hz0:w.heap.size<wr.heap.size:=by omega
  obtain⟨x0,x1,x2,x3,xf⟩:=aU hx;obtain⟨y0,y1,y2,y3,yf⟩:=aU hy;have hgr:=fun n hp=>aui (n:=n) HE.o qU.o hp;have sO:=zh (hgr t'.n Nr.o);clear hb hx hy hr hin hsl hpr hpn hk hgr;cases r with
   |nil=>
    simp only[gz]at hq;subst hq;by_cases hkd:t'.kind=0
    ·have hno:=sO.o.1 rfl;have wX:=zh hno;clear hno hkd;go_wp2_with fail;refine dD (v:= .agg #[.int .i64 t'.kind,.int .i64 t'.n,.string t'.s,.slice a' t'.args.length cap']) (by simp[results,Tryz.results136,go_sem,hcs,x0,x1,x2,x3,y0,y1,y2,y3,hz0,hz];try rfl) rfl ?_;have hfin:ax E t=t':=by rw[<-pM.o];exact iA (.inr wX.o)
     refine⟨.agg #[.int .i64 t'.kind,.int .i64 t'.n,.string t'.s,.slice a' t'.args.length cap'],rfl,?_,[.int .i64 t'.kind,.int .i64 t'.n,.string t'.s,.slice a' t'.args.length cap'],rfl,?_⟩;·exact vz HB.o (by omega) _ _ _ _
     ·rw[hfin];exact Tm.aj.2.1 _ _ _ _ _ (Tm.aj.1 _ _ _ _ _ HR.o (wU (fun b=>A b/\b<w.heap.size) wr (g:=w.heap.size+1) (by omega) _ _ _ _)) (fun b _ hb=>hb.1)
    ·have FQ:=zh hkd;clear hkd;go_wp2_with fail;refine dD (v:= .agg #[.int .i64 t'.kind,.int .i64 t'.n,.string t'.s,.slice a' t'.args.length cap']) (by simp[results,Tryz.results136,go_sem,hcs,x0,x1,x2,x3,y0,y1,y2,y3,hz0,hz];try rfl) rfl ?_;have hfin:ax E t=t':=by rw[<-pM.o];exact iA (.inl FQ.o)
     refine⟨.agg #[.int .i64 t'.kind,.int .i64 t'.n,.string t'.s,.slice a' t'.args.length cap'],rfl,?_,[.int .i64 t'.kind,.int .i64 t'.n,.string t'.s,.slice a' t'.args.length cap'],rfl,?_⟩;·exact vz HB.o (by omega) _ _ _ _
     ·rw[hfin];exact Tm.aj.2.1 _ _ _ _ _ (Tm.aj.1 _ _ _ _ _ HR.o (wU (fun b=>A b/\b<w.heap.size) wr (g:=w.heap.size+1) (by omega) _ _ _ _)) (fun b _ hb=>hb.1)
   |cons q r'=>
    obtain⟨b,qa,qc,rv,rfl,bC,Ns,uG,FH⟩:=hq;obtain⟨rp,rfl⟩:=FH.ptr;by_cases hkd:t'.kind=0
    ·obtain⟨q0,q1,q2,q3,q4,q5,qf⟩:=fQ Ns;have FQ:=zh hkd;have Dz:=zh uG;have HQN:=zh FH;have ai0:q∈E:=by
      have :q∈E.reverse:=by rw[qU.o];simp
      exact Gc.1 this
     have aay:=zh ai0;clear Ns uG FH bC ai0;rw[hkd]at x0;clear hkd;by_cases hqe:q.1=t'.n
     ·have DV:=zh hqe;have hqd:(q.1==t'.n)=true:=by simpa using hqe
      clear hqe;go_wp2_with fail;go_quiet(fail);have oZ:=zh (show Below wr.heap.size wr (wr.drewN nq)from⟨rfl,rfl,rfl,zL _,fun _ _=>rfl⟩);have Tu:=zh (show(wr.drewN nq).heap[w.heap.size]?=_ from HX.o);have HYQ:=zh (show(wr.drewN nq).heap[w.heap.size+1]?=_ from HY.o);have Tv:=zh (show Below w.heap.size w (wr.drewN nq)from HB.o.trans (oZ.o.mono HB.o.size));have hkq:=af.ob (A:=fun _=>True) oZ.o;replace q0:=hkq.cell trivial q0;replace q1:=hkq.cell trivial q1;replace q2:=hkq.cell trivial q2;replace q3:=hkq.cell trivial q3;replace q4:=hkq.cell trivial q4;replace q5:=hkq.cell trivial q5;have auk:=zh (Tm.aj.1 _ _ _ _ _ Dz.o (af.ob oZ.o));generalize wr.drewN nq=W2 at*;clear x0 x1 x2 x3 xf y0 y1 y2 y3 yf hkq;obtain⟨x0,x1,x2,x3,xf⟩:=aU Tu.o;rw[FQ.o]at x0;go_wp2_with fail;go_roundg((if q.2.kind=0 then q.2.n.toNat+1 else 0)*(E.length+1)+E.reverse.length+1);case measure=>
       have h1:=HK.o;rw[ai FQ.o]at h1;simp only[cK]at h1;rw[xJ];by_cases hk2:q.2.kind=0
       ·rw[ai hk2];have h2:=HE.o.less q aay.o hk2;have h3:=(HE.o.tm q aay.o).n hk2;have h4:=DV.o;have h5:q.2.n.toNat+1<=t'.n.toNat:=by omega
        have h6:(q.2.n.toNat+1)*(E.length+1)+(E.length+1)<=(t'.n.toNat+1)*(E.length+1):=by have :=Pq (E.length+1) h5;rw[nY t'.n.toNat 1];omega
        omega
       ·rw[ag hk2];have h6:(E.length+1)<=(t'.n.toNat+1)*(E.length+1):=Nat.le_mul_of_pos_left _ (by omega);omega
      case rel=>have hK4:af (fun b=>A b/\b<w.heap.size) W2 ((((W2.setCell ⟨w.heap.size,0,none⟩ (.int .i64 q.2.kind)).setCell ⟨w.heap.size,1,none⟩ (.int .i64 q.2.n)).setCell ⟨w.heap.size,2,none⟩ (.string q.2.s)).setCell ⟨w.heap.size,3,none⟩ (.slice qa q.2.args.length qc)):=wU _ _ (by omega) _ _ _ _;refine⟨q.2,qa,qc,[],E.reverse,vz Tv.o (zL _) _ _ _ _,yD Tu.o,(Bf _ _ _ _ _ _ _ (by omega)).trans HYQ.o,Tm.aj.1 _ _ _ _ _ auk.o hK4,HE.o.tm q aay.o,?_,rfl,by simp,(HQ.o.keeps (af.ob Tv.o)).keeps hK4,Gb _⟩;rw[<-pM.o];exact(Qa HE.o dM.o FQ.o ((sO.o.2 q r' rfl) DV.o)).symm
     ·have DV:=zh hqe;have hqd:(q.1==t'.n)=false:=by simpa using hqe
      clear hqe;go_wp2_with fail;go_quiet(fail);have oZ:=zh (show Below wr.heap.size wr (wr.drewN nq)from⟨rfl,rfl,rfl,zL _,fun _ _=>rfl⟩);have Tu:=zh (show(wr.drewN nq).heap[w.heap.size]?=_ from HX.o);have HYQ:=zh (show(wr.drewN nq).heap[w.heap.size+1]?=_ from HY.o);have Tv:=zh (show Below w.heap.size w (wr.drewN nq)from HB.o.trans (oZ.o.mono HB.o.size));have hkq:=af.ob (A:=fun _=>True) oZ.o;replace q5:=hkq.cell trivial q5;have HR2:=zh (Tm.aj.1 _ _ _ _ _ HR.o (af.ob oZ.o));have aul:=zh (HQN.o.keeps (af.ob oZ.o));generalize wr.drewN nq=W2 at*;clear x0 x1 x2 x3 xf y0 y1 y2 y3 yf hkq q0 q1 q2 q3 q4;go_wp2_with fail;go_roundg(gk - 1);case measure=>have h1:=HK.o;omega
      case rel=>
       refine⟨t',a',cap',pre++[q],r',Tv.o,Tu.o,HYQ.o,HR2.o,dM.o,pM.o,by rw[qU.o];simp,fun p hp=>?_,aul.o,?_⟩
       ·rcases fE.1 hp with hp|hp;·exact Nr.o p hp
        ·simp only[gB]at hp;subst hp;exact DV.o
       ·have h1:=HK.o;simp only[cK]at h1;omega
    ·have FQ:=zh hkd;have aAp:(t'.kind==0)=false:=by simpa using hkd
     clear Ns uG FH;go_wp2_with fail;refine dD (v:= .agg #[.int .i64 t'.kind,.int .i64 t'.n,.string t'.s,.slice a' t'.args.length cap']) (by simp[results,Tryz.results136,go_sem,hcs,x0,x1,x2,x3,y0,y1,y2,y3,hz0,hz];try rfl) rfl ?_;have hfin:ax E t=t':=by rw[<-pM.o];exact iA (.inl FQ.o)
     refine⟨.agg #[.int .i64 t'.kind,.int .i64 t'.n,.string t'.s,.slice a' t'.args.length cap'],rfl,?_,[.int .i64 t'.kind,.int .i64 t'.n,.string t'.s,.slice a' t'.args.length cap'],rfl,?_⟩;·exact vz HB.o (by omega) _ _ _ _
     ·rw[hfin];exact Tm.aj.2.1 _ _ _ _ _ (Tm.aj.1 _ _ _ _ _ HR.o (wU (fun b=>A b/\b<w.heap.size) wr (g:=w.heap.size+1) (by omega) _ _ _ _)) (fun b _ hb=>hb.1)
def aum(xb:Nat)(w:World)(k:Nat)(res:Option (List Tm×Nat))(e:Ending)(w':World):Prop:=∃(us:List Value)(t:Tm)(k':Int),e= .returned (.agg us.toArray)/\Ch (fun b=>b=xb) w w'/\Tm.rep (fun b=>New w b) w' t us/\kR xb k' w'/\((res=none/\k'<0/\ -(4*(k:Int)+1)<=k')\/(res=some ([t],k'.toNat)/\0<=k'))
def Tw(xb:Nat)(E:Env)(N:Int)(k:Nat):Prop:=∀(t:Tm)(A:Nat->Prop)(w:World)(ev:Value)(vs:List Value),kR xb k w->¬A xb->t.In N->gz A w E.reverse ev->Tm.rep A w t vs->Calls Tryz.prog 134 #[ev,.agg vs.toArray,.pointer (some ⟨xb,0,none⟩)] w (aum xb w k (bL E k [t]))
section
variable {xb : Nat} {E : Env} {N : Int}
theorem aaA(k:Int)(hk:k<=0)(hk2: -100000<=k)(t:Tm)(A:Nat->Prop)(w:World)(ep:Option Addr)(vs:List Value)(hw:kR xb k w)(hv:Tm.rep A w t vs):Calls Tryz.prog 134 #[.pointer ep,.agg vs.toArray,.pointer (some ⟨xb,0,none⟩)] w (fun e w'=>e= .returned (.agg #[.int .i64 0,.int .i64 0,.string .empty,.slice none 0 0])/\Ch (fun b=>b=xb) w w'/\kR xb (k - 1) w'):=by
 obtain⟨a,cap,rfl, -⟩:=Tm.dw hv;obtain⟨x0,xf,xl⟩:=hw.cell;have HW:=zh hw;have hcs:=dH;have aun:xb<w.heap.size+1:=by omega
 obtain⟨k1,hk1⟩:∃k1,k1=k - 1:=⟨_,rfl⟩;have hneg':k - 1<0:=by omega
 have hwr:(IntKind.wrap .i64 (k - 1))=k - 1:=by rw[IntKind.wrap_i64];omega
 clear hv hw hk1;go_enter Tryz.func134,Tryz.ntmps134;go_wp2_with fail;refine dD (v:= .agg #[.int .i64 0,.int .i64 0,.string .empty,.slice none 0 0]) (by simp[results,Tryz.results134,go_sem,hcs];try rfl) rfl ?_;exact⟨rfl,((aee _ _ _ _).alloc _).alloc _,aX (aX (HW.o.set (k':=k - 1)) _) _⟩
theorem auo:Tw xb E N 0:=by intro t A w ev vs hw hA ht he hv;obtain⟨ep,rfl⟩:=he.ptr;refine(aaA 0 (kr _) (by omega) t A w ep vs hw hv).mono ?_;rintro e w'⟨rfl,hch,hw'⟩;rw[GM];exact⟨[.int .i64 0,.int .i64 0,.string .empty,.slice none 0 0],vv, -1,rfl,hch,yH _ _,(by simpa using hw'),.inl ⟨rfl,by omega,by omega⟩⟩
theorem aup(hE:cz N E)(k:Nat)(hk4:k<=200)(ih:∀m,m<=k->Tw xb E N m):Tw xb E N (k+1):=by
 intro t A w ev vs hw hAx ht he hvv;have HE:=zh hE;have HT:=zh ht;have IH:=zh ih;obtain⟨a,cap,rfl, -⟩:=Tm.dw hvv;have HV:=zh (Tm.aj.2.1 _ (fun b=>A b/\b<w.heap.size) _ _ _ hvv fun b hb h=>⟨h,hb⟩);have HQ:=zh (gz.mono (A':=fun b=>A b/\b<w.heap.size) he fun b hb h=>⟨h,hb⟩);obtain⟨ep,rfl⟩:=he.ptr;obtain⟨x0,xf,xl⟩:=hw.cell;have HW:=zh hw;have FJ:=zh hAx;have hcs:=dH;have hk0:(0:Int)<=(k:Int):=zN _;have aun:xb<w.heap.size+1:=by omega
 rw[show((k+1:Nat):Int)=(k:Int)+1 by omega]at x0;clear hE ht ih hvv hw he hAx;go_enter Tryz.func134,Tryz.ntmps134;go_wp2_with fail;have kS:=zh (je (w.setCell ⟨xb,0,none⟩ (.int .i64 (k:Int))) (.cells #[.int .i64 t.kind,.int .i64 t.n,.string t.s,.slice a t.args.length cap] 34) (.cells #[.int .i64 0,.int .i64 0,.string .empty,.slice none 0 0] 34));rw[qm]at kS;have gW:=zh (show Ch (fun b=>b=xb) w (((w.setCell ⟨xb,0,none⟩ (.int .i64 (k:Int))).alloc (.cells #[.int .i64 t.kind,.int .i64 t.n,.string t.s,.slice a t.args.length cap] 34)).alloc (.cells #[.int .i64 0,.int .i64 0,.string .empty,.slice none 0 0] 34))from((aee _ _ _ _).alloc _).alloc _);have HW1:=zh (show kR xb k (((w.setCell ⟨xb,0,none⟩ (.int .i64 (k:Int))).alloc (.cells #[.int .i64 t.kind,.int .i64 t.n,.string t.s,.slice a t.args.length cap] 34)).alloc (.cells #[.int .i64 0,.int .i64 0,.string .empty,.slice none 0 0] 34))from aX (aX (HW.o.set (k':=(k:Int))) _) _);have hW1:(((w.setCell ⟨xb,0,none⟩ (.int .i64 (k:Int))).alloc (.cells #[.int .i64 t.kind,.int .i64 t.n,.string t.s,.slice a t.args.length cap] 34)).alloc (.cells #[.int .i64 0,.int .i64 0,.string .empty,.slice none 0 0] 34)).heap.size=w.heap.size+2:=by simp
 generalize HWW:((w.setCell ⟨xb,0,none⟩ (.int .i64 (k:Int))).alloc (.cells #[.int .i64 t.kind,.int .i64 t.n,.string t.s,.slice a t.args.length cap] 34)).alloc (.cells _ 34)=W1;have e1:((w.setCell ⟨xb,0,none⟩ (.int .i64 (k:Int))).alloc (.cells #[.int .i64 t.kind,.int .i64 t.n,.string t.s,.slice a t.args.length cap] 34)).alloc (.cells #[.int .i64 0,.int .i64 0,.string .empty,.slice none 0 0] 34)=W1:=HWW;rw[e1]at kS gW HW1 hW1;clear e1 HWW;have qE:=zh (gW.o.keeps (A:=fun b=>A b/\b<w.heap.size) fun b _ hb e=>FJ.o (e▸hb.1));have Dx:=zh (Tm.aj.1 _ _ _ _ _ HV.o qE.o);have qg:=zh (HQ.o.keeps qE.o);refine(FP HE.o t HT.o _ W1 _ _ qg.o Dx.o).mono ?_;rintro e w2⟨r,rfl,hb2,us,rfl,hr⟩;have HLI:=zh (oz HE.o HT.o);have dM:=zh (apm E k t);generalize ax E t=x at*;obtain⟨xa,xc,rfl,hxk,hxn,hxs,aAq,auq,aAr,hsl⟩:=Tm.dw hr;have iL:=zh (gW.o.tb hb2);have HW2:=zh (show kR xb k w2 from aL HW1.o hb2);have uJ:=zh (qg.o.keeps (af.ob hb2));have HB2:=zh (aL kS.o.1 hb2);have HZ2:=zh (aL kS.o.2 hb2);obtain⟨y0,y1,y2,y3,yf⟩:=aU HB2.o;obtain⟨z0,z1,z2,z3,zf⟩:=aU HZ2.o;have hz2:w.heap.size+2<=w2.heap.size:=by have :=hb2.size;omega
 have pM:=zh hsl;have HI3:=zh (show aA x.kind/\aA x.n/\x.s.size<=1048576 from⟨hxk,hxn,hxs⟩);have hne:xb≠w.heap.size:=by omega
 have hne':w.heap.size≠xb:=by omega
 have aAs:w.heap.size<w2.heap.size:=by omega
 have La:w.heap.size+1<w2.heap.size:=by omega
 have aAt:xb<w2.heap.size:=by omega
 clear x0 xf hb2 hr hsl hxk hxn hxs kS HW1 gW Dx qg qE;have hK4:af (fun b=>b≠w.heap.size) w2 (((((w2.setCell ⟨w.heap.size,0,none⟩ (.int .i64 x.kind)).setCell ⟨w.heap.size,1,none⟩ (.int .i64 x.n)).setCell ⟨w.heap.size,2,none⟩ (.string x.s)).setCell ⟨w.heap.size,3,none⟩ (.slice xa x.args.length xc)).setCell ⟨w.heap.size,3,none⟩ (.slice none 0 0)):=(wU _ _ (fun h=>h rfl) _ _ _ _).trans (af.setCell _ _ _ _ (fun h=>h rfl));have wM:=zh (show Ch (fun b=>b=xb) w (((((w2.setCell ⟨w.heap.size,0,none⟩ (.int .i64 x.kind)).setCell ⟨w.heap.size,1,none⟩ (.int .i64 x.n)).setCell ⟨w.heap.size,2,none⟩ (.string x.s)).setCell ⟨w.heap.size,3,none⟩ (.slice xa x.args.length xc)).setCell ⟨w.heap.size,3,none⟩ (.slice none 0 0))from(((((iL.o.setCell (p:=⟨w.heap.size,0,none⟩) (.inr (zL _)) _).setCell (p:=⟨w.heap.size,1,none⟩) (.inr (zL _)) _).setCell (p:=⟨w.heap.size,2,none⟩) (.inr (zL _)) _).setCell (p:=⟨w.heap.size,3,none⟩) (.inr (zL _)) _).setCell (p:=⟨w.heap.size,3,none⟩) (.inr (zL _)) _));have HW3:=zh (show kR xb k (((((w2.setCell ⟨w.heap.size,0,none⟩ (.int .i64 x.kind)).setCell ⟨w.heap.size,1,none⟩ (.int .i64 x.n)).setCell ⟨w.heap.size,2,none⟩ (.string x.s)).setCell ⟨w.heap.size,3,none⟩ (.slice xa x.args.length xc)).setCell ⟨w.heap.size,3,none⟩ (.slice none 0 0))from bB HW2.o hK4 hne);have HZ3:=zh (bB HZ2.o hK4 (show w.heap.size+1≠w.heap.size by omega));have Xg:=zh (show(((((w2.setCell ⟨w.heap.size,0,none⟩ (.int .i64 x.kind)).setCell ⟨w.heap.size,1,none⟩ (.int .i64 x.n)).setCell ⟨w.heap.size,2,none⟩ (.string x.s)).setCell ⟨w.heap.size,3,none⟩ (.slice xa x.args.length xc)).setCell ⟨w.heap.size,3,none⟩ (.slice none 0 0)).heap[w.heap.size]?=some (.cells #[.int .i64 x.kind,.int .i64 x.n,.string x.s,.slice none 0 0] 34)from(bG (yD (v0:= .int .i64 x.kind) (v1:= .int .i64 x.n) (v2:= .string x.s) (v3:= .slice xa x.args.length xc) HB2.o) 3 _).trans rfl);have V5:=zh (show(((((w2.setCell ⟨w.heap.size,0,none⟩ (.int .i64 x.kind)).setCell ⟨w.heap.size,1,none⟩ (.int .i64 x.n)).setCell ⟨w.heap.size,2,none⟩ (.string x.s)).setCell ⟨w.heap.size,3,none⟩ (.slice xa x.args.length xc)).setCell ⟨w.heap.size,3,none⟩ (.slice none 0 0)).heap.size=w2.heap.size by simp);have HQ3:=zh (uJ.o.keeps (hK4.mono fun b _ hb=>by have :=hb.2;omega));have HK4:=zh hK4;clear hK4;unfold maxLen at auq;go_wp2_with fail;obtain⟨_,_,eb,eo,e9, -, -, -,sV,iC⟩:=pM.o.at;simp only[dC,dL]at e9;obtain⟨rfl,rfl⟩:=e9;have ED:=zh (iC.keeps Tm.aj (fun hne=>(sV (Vi.2 hne)).2) (HK4.o.mono fun b _ hb=>by have :=hb.2;omega));have FR:=zh sV;clear sV iC;generalize(((((w2.setCell ⟨w.heap.size,0,none⟩ (.int .i64 x.kind)).setCell ⟨w.heap.size,1,none⟩ (.int .i64 x.n)).setCell ⟨w.heap.size,2,none⟩ (.string x.s)).setCell ⟨w.heap.size,3,none⟩ (.slice xa x.args.length xc)).setCell ⟨w.heap.size,3,none⟩ (.slice none 0 0))=w3 at*;have HR1:=zh (show bL E (k+1) [t]=(match bL E k x.args with|none=>none|some (ts,w1)=>some ([.mk x.kind x.n x.s ts],w1))from dM.o);have aaC:x.args.length<=4:=HLI.o.Nq;clear y0 y1 y2 y3 yf z0 z1 z2 z3 zf;go_loopw[28](fun i wr=>∃(j:Nat)(m:Int)(ts:List Tm)(v:Value),j<=x.args.length/\i= .int .i64 (j:Int)/\m<=k/\ts.length=j/\((0<=m/\bL E k (x.args.take j)=some (ts,m.toNat))\/(m<0/\ -(4*(k:Int)+1) - (j:Int)+1<=m/\1<=j/\bL E k (x.args.take j)=none))/\kR xb m wr/\Ch (fun b=>b=xb\/b=w.heap.size\/w2.heap.size<=b) w3 wr/\wr.heap[w.heap.size+1]?=some (.cells #[.int .i64 0,.int .i64 0,.string .empty,.slice none 0 0] 34)/\wr.heap[w.heap.size]?=some (.cells #[.int .i64 x.kind,.int .i64 x.n,.string x.s,v] 34)/\aG wr w2.heap.size 34 4 Tm.rep (fun b=>w2.heap.size<=b) ts v/\w2.heap.size<=wr.heap.size)(fun i _=>x.args.length - (intOf i).toNat);case atStart=>exact⟨0,k,[],_,dn _,rfl,kr _,rfl,.inl ⟨hk0,by rw[mE,xW];simp⟩,HW3.o,Ch.refl _ _,HZ3.o,Xg.o,aG.nil ..,by have :=V5.o;omega⟩
 case round=>
  obtain⟨j,m,ts,v,hj,rfl,hm,htl,hst,hw,hch,hbz,hbo,hown,hsz⟩:=hrel;have HST:=zh hst;have QC:=zh htl;have HW4:=zh hw;have wN:=zh hch;have HBZ:=zh hbz;have CZ:=zh hbo;have HO:=zh hown;have WR:=zh (show Ch (fun b=>b=xb) w wr from wM.o.trans hch (fun b h=>h.elim .inl (fun e=> .inr (by omega))));have Ey:=zh (hch.keeps (A:=fun b=>A b/\b<w.heap.size) fun b _ hb e=>e.elim (fun e=>FJ.o (e▸hb.1)) (fun e=>by have :=hb.2;omega));obtain⟨va,vc,rfl,qG⟩:=hown.val;obtain⟨q0,qf,ql⟩:=hw.cell;obtain⟨z0,z1,z2,z3,zf⟩:=aU hbz;obtain⟨o0,o1,o2,o3,of⟩:=aU hbo;have QT:ts.length<=4:=by omega
  have aus:w.heap.size+1<wr.heap.size:=by omega
  have aut:w.heap.size<wr.heap.size:=by omega
  have hne1:w.heap.size+1≠xb:=by omega
  clear htl hst hw hch hbz hbo hown;by_cases hlt:j<x.args.length
  ·obtain⟨rfl,bC⟩:=FR.o (by omega);obtain⟨sa,sc,c0,c1,c2,c3,hr3⟩:=gq ED.o bC Ey.o hlt;have HA3:=zh (Tm.aj.2.1 _ (fun b=>A b/\b<w.heap.size) _ _ _ hr3 fun b _ h=>h);have HGI:=zh (HLI.o.arg (bO hlt));have ji:=zh (fun(m':Nat)(h:bL E k (x.args.take j)=some (ts,m'))=>afd E k x.args j hlt ts m' h);have uX:=zh (fun(h:bL E k (x.args.take j)=none)=>(show bL E k (x.args.take (j+1))=none by rw[dX hlt];exact afc E k _ _ h));have hlt':(j:Int)<(x.args.length:Int):=by omega
   have hj0:(0:Int)<=(j:Int):=zN _;obtain⟨y,hy⟩:∃y,y=x.args[j]:=⟨_,rfl⟩;rw[<-hy]at c0 c1 c2 c3 HA3 HGI ji;clear hr3 hy;go_wp2_with fail;obtain⟨W4,Am⟩:∃W4,W4=wr.alloc (.cells #[.int .i64 y.kind,.int .i64 y.n,.string y.s,.slice sa y.args.length sc] 34):=⟨_,rfl⟩;have bX:=zh (show Below wr.heap.size wr W4 by rw[Am];exact(zB _ _).alloc (zL _) _);have EX:=zh (show W4.heap[wr.heap.size]?=some (.cells #[.int .i64 y.kind,.int .i64 y.n,.string y.s,.slice sa y.args.length sc] 34 (0,0))by rw[Am];exact bJ _ _);have hs4:W4.heap.size=wr.heap.size+1:=by rw[Am];simp
   have E8:=zh (aL CZ.o bX.o);have ai7:=zh (show kR xb m W4 from aL HW4.o bX.o);have HA4:=zh (Tm.aj.1 _ _ _ _ _ HA3.o (af.ob bX.o));have HQ4:=zh ((HQ3.o.keeps Ey.o).keeps (af.ob bX.o));have auv:=zh (wN.o.tb bX.o);have iB:=zh (HO.o.keeps Tm.aj (af.ob (A:=fun _=>True) bX.o) (fun _ _=>trivial) (fun _ _=>trivial));have auw:=zh (aL HBZ.o bX.o);obtain⟨xi,hxi⟩:∃xi,xi=wr.heap.size:=⟨_,rfl⟩;rw[<-hxi]at EX;have aAu:xi<W4.heap.size:=by omega
   rw[<-Am,<-hxi];have aAv:wr.heap.size<=xi:=by omega
   clear hxi Am q0 qf z0 z1 z2 z3 zf o0 o1 o2 o3 of c0 c1 c2 c3;have hM1:W4.drew.cell? ⟨w.heap.size,3,none⟩=some (.slice va ts.length vc):=(aU (show W4.drew.heap[w.heap.size]?=_ from E8.o)).2.2.2.1;have hM2:=(show W4.drew.heap[xi]?=some (.cells #[.int .i64 y.kind,.int .i64 y.n,.string y.s,.slice sa y.args.length sc] 34 (0,0))from EX.o);go_wp2_with fail;refine iG (F:=fun k w'=>(k=1\/k=3)->w'.cell? ⟨w.heap.size,3,none⟩=some (.slice va ts.length vc)/\w'.heap[xi]?=some (.cells #[.int .i64 y.kind,.int .i64 y.n,.string y.s,.slice sa y.args.length sc] 34 (0,0))) (by kernel_rfl) ?_;refine aD (i:=0) (v:=?_) rfl (Or.inl ⟨by rfl,?_⟩) (fun _=>⟨hM1,hM2⟩) ?_;rotate_left;·(intro w' hw;clear hw;go_simp<;>with_reducible rfl)
   try simp only[zP]
   refine aD (i:=1) (v:=?_) rfl (Or.inl ⟨by rfl,?_⟩) (fun _=>⟨hM1,hM2⟩) ?_;rotate_left;·(intro w' hw;obtain⟨q0,q1⟩:=hw (by omega);clear hw;go_simp<;>with_reducible rfl)
   try simp only[zP]
   refine aD (i:=2) (v:=?_) rfl (Or.inl ⟨by rfl,?_⟩) (fun _=>⟨hM1,hM2⟩) ?_;rotate_left;·(intro w' hw;clear hw;go_simp<;>with_reducible rfl)
   try simp only[zP]
   refine aD (i:=3) (v:= .agg #[.int .i64 y.kind,.int .i64 y.n,.string y.s,.slice sa y.args.length sc]) rfl (Or.inl ⟨by rfl,?_⟩) (fun _=>⟨hM1,hM2⟩) ?_;·(intro w' hw;obtain⟨q0,q1⟩:=hw (by omega);obtain⟨f0,f1,f2,f3, -⟩:=aU q1;clear hw;go_simp)
   try simp only[zP]
   refine aD (i:=4) (v:=?_) rfl (Or.inl ⟨by rfl,?_⟩) (fun _=>⟨hM1,hM2⟩) ?_;rotate_left;·(intro w' hw;clear hw;go_simp<;>with_reducible rfl)
   try simp only[zP]
   refine aM (i:=5) (by kernel_rfl) (aF rfl (by rfl) ?_);go_simp;have IJ:Hd (Calls Tryz.prog 134 #[.pointer ep,.agg #[.int .i64 y.kind,.int .i64 y.n,.string y.s,.slice sa y.args.length sc],.pointer (some ⟨xb,0,none⟩)] W4.drew (fun e w5=>∃(us:List Value)(t':Tm)(k':Int),e= .returned (.agg us.toArray)/\Ch (fun b=>b=xb) W4.drew w5/\Tm.rep (fun b=>New W4.drew b) w5 t' us/\kR xb k' w5/\k'<=k/\((0<=k'/\bL E k (x.args.take (j+1))=some (ts++[t'],k'.toNat))\/(k'<0/\ -(4*(k:Int)+1) - ((j+1:Nat):Int)+1<=k'/\bL E k (x.args.take (j+1))=none)))):=by
    rcases HST.o with⟨hm0,hfl⟩|⟨hm0,hmb,hj1,hfl⟩
    ·obtain⟨m,rfl⟩:=dQ hm0;rw[dG]at hfl;refine zh ((IH.out m (by omega) y (fun b=>A b/\b<w.heap.size) W4.drew _ [_,_,_,_] ai7.o (fun h=>FJ.o h.1) HGI.o (HQ4.o.keeps (af.drew _ _)) (Tm.aj.1 _ _ _ _ _ HA4.o (af.drew _ _))).mono ?_);rintro e w5⟨us,t',k',rfl,bN,hr1,hl1,hres⟩;have hnx:=ji.o m hfl;rcases hres with⟨r1,r2,r3⟩|⟨r1,r2⟩;·exact⟨us,t',k',rfl,bN,hr1,hl1,by omega,.inr ⟨r2,by omega,by rw[hnx,r1]⟩⟩
     ·have hle:=(Qd E m _ _ _ r1).1;exact⟨us,t',k',rfl,bN,hr1,hl1,by omega,.inl ⟨r2,by rw[hnx,r1]⟩⟩
    ·refine zh ((aaA m (by omega) (by omega) y (fun b=>A b/\b<w.heap.size) W4.drew ep [_,_,_,_] ai7.o (Tm.aj.1 _ _ _ _ _ HA4.o (af.drew _ _))).mono ?_);rintro e w5⟨rfl,bN,hl1⟩;exact⟨[.int .i64 0,.int .i64 0,.string .empty,.slice none 0 0],vv,m - 1,rfl,bN,yH _ _,hl1,by omega,.inr ⟨by omega,by omega,uX.o hfl⟩⟩
   refine(IJ.o).mono ?_;rintro e w5⟨us,t',k',rfl,bN,hr1,hl1,hkk,hres⟩;obtain⟨sa',eQ,rfl, -⟩:=Tm.dw hr1;have hsz1:=bN.size;simp only[eZ]at hsz1;have hkg:af (fun b=>b≠xb) W4 w5:=(af.drew _ _).trans (bN.keeps (A:=fun b=>b≠xb) (fun b _ hb e=>hb e));have Ao:=iB.o.lt;have eT:=zh (iB.o.keeps Tm.aj hkg (fun b hb=>by omega) (fun b hb=>by have :=(Ao b hb).1;omega));have HN:=zh (JF Tm.aj iB.o (wc:=W4.drew) (zL _) (A:=fun b=>w2.heap.size<=b) (fun b hb=>by simp only[eZ]at hb;omega) hr1);have Ld:=zh (show ts.length<4194304/\w2.heap.size<=w5.heap.size by omega);have auy:=zh (show Ch (fun b=>b=xb\/b=w.heap.size\/w2.heap.size<=b) w3 w5 from(auv.o.drew).trans bN (fun _ h=> .inl (.inl h)));have ai9:=zh (bB E8.o hkg hne');have HY5:=zh (bB EX.o hkg (show xi≠xb by omega));have auA:=zh (bB auw.o hkg hne1);have HQQ:=zh (show w5.cell? ⟨w.heap.size,3,none⟩=some (.slice va ts.length vc)/\w5.heap[xi]?=some (.cells #[.int .i64 y.kind,.int .i64 y.n,.string y.s,.slice sa y.args.length sc] 34 (0,0))from⟨(aU ai9.o).2.2.2.1,HY5.o⟩);have Le:=zh hl1;have l7:=zh hres;have HKK:=zh hkk;clear hr1 hl1 hres bN hkg hkk;refine⟨fun _ _ _ _=>HQQ.o,?_⟩;refine aM (i:=6) (by kernel_rfl) (aF rfl (by rfl) ?_);go_simp;refine⟨fun _ _ _ _=>?_,?_⟩;·obtain⟨q0,q1⟩:=HQQ.o;exact⟨(af.alloc (fun _=>True) w5 _).cell trivial q0,aX q1 _⟩
   refine aM (i:=7) (by kernel_rfl) (aF rfl (by rfl) ?_);refine oh (.tmp 33) (.tmp 38) 23 rfl w2.heap.size 34 4 56 rz Tm.aj _ _ rfl eT.o t' [_,_,_,_] rfl rfl HN.o Ld.o ?_;intro v2 w6 hown2 aB;have hk2:=aB.keeps (A:=fun b=>ownB (.slice va ts.length vc)≠some b) (fun _ h=>h);have hka:=(af.alloc (fun b=>ownB (.slice va ts.length vc)≠some b) w5 (.cells #[.int .i64 t'.kind,.int .i64 t'.n,.string t'.s,.slice sa' t'.args.length eQ] 34)).trans hk2;have hno:∀b,b<w2.heap.size->ownB (.slice va ts.length vc)≠some b:=fun b hb e=>by have :=(Ao _ e).1;omega
   have hnx:ownB (.slice va ts.length vc)≠some xi:=fun e=>by have :=(HO.o.lt _ e).2;omega
   have aja:=zh (bB ai9.o hka (hno _ (by omega)));have auB:=zh (bB auA.o hka (hno _ (by omega)));have WT:=zh (show kR xb k' w6 from bB Le.o hka (hno _ (by omega)));have auC:=zh (aB.ch (auy.o.alloc _) (fun b hb=> .inl (.inr (.inr (by have :=(Ao b hb).1;omega)))));obtain⟨aY,aZ,hv2,zy⟩:=hown2.val;rw[show(ts++[t']).length=ts.length+1 by simp]at hv2;subst hv2;have hz2':=aB.size;have bA:=zh hown2;simp only[bQ]at hz2';refine⟨fun _ _ _ _=>?_,?_⟩;·obtain⟨q0,q1⟩:=HQQ.o;exact⟨hka.cell (hno _ (by omega)) q0,bB q1 hka hnx⟩
   clear hown2 hka hk2 aB;obtain⟨o0,o1,o2,o3,of⟩:=aU aja.o;try simp only[zP]
   refine aD (i:=8) (v:=?_) rfl (Or.inl ⟨by rfl,?_⟩) (fun h=>by omega) ?_;rotate_left;·(intro w' hw;clear hw;go_simp<;>with_reducible rfl)
   try simp only[zP]
   refine aM (i:=9) (by kernel_rfl) (aF rfl (by rfl) ?_);go_simp;refine⟨fun k0 hk0 _ h12=>?_,fO (by kernel_rfl) ?_ _⟩
   ·rcases h12 with rfl|rfl;·exact absurd (show waits _ 9 1=true by kernel_rfl) (by rw[hk0];decide)
    ·exact absurd (show waits _ 9 3=true by kernel_rfl) (by rw[hk0];decide)
   have nL:=zh (bG aja.o 3 (.slice aY (ts.length+1) aZ));have Ha:(w6.setCell ⟨w.heap.size,3,none⟩ (.slice aY (ts.length+1) aZ)).heap.size=w6.heap.size:=by simp
   have Fu:=zh (af.setCell (fun b=>b≠w.heap.size) w6 ⟨w.heap.size,3,none⟩ (.slice aY (ts.length+1) aZ) (by simp));have HL7:=zh (show kR xb k' (w6.setCell ⟨w.heap.size,3,none⟩ (.slice aY (ts.length+1) aZ))from bB WT.o Fu.o hne);have auE:=zh (bB auB.o Fu.o (by omega));have auF:=zh (auC.o.setCell (p:=⟨w.heap.size,3,none⟩) (.inl (.inr (.inl rfl))) (.slice aY (ts.length+1) aZ));have HO7:=zh (bA.o.keeps Tm.aj Fu.o (fun b hb=>by omega) (fun b hb=>by have :=(bA.o.lt b hb).1;omega));generalize w6.setCell ⟨w.heap.size,3,none⟩ (.slice aY (ts.length+1) aZ)=w7 at*;clear o0 o1 o2 o3 of;go_wp2_with fail;go_roundw;case rel=>
    refine⟨j+1,k',ts++[t'],_,by omega,by go_num,HKK.o,by have :=QC.o;simp;omega,?_,HL7.o,auF.o,auE.o,nL.o,HO7.o,by omega⟩;rcases l7.o with h|⟨h1,h2,h3⟩;·exact .inl h
    ·exact .inr ⟨h1,h2,by omega,h3⟩
   case measure=>simp[intOf];omega
  ·have hres:=zh (show((bL E (k+1) [t]=none/\m<0/\ -(4*((k+1:Nat):Int)+1)<=m)\/(bL E (k+1) [t]=some ([.mk x.kind x.n x.s ts],m.toNat)/\0<=m))by
    rcases HST.o with⟨h1,h2⟩|⟨h1,h2,h3,h4⟩;·rw[iZ (by omega)]at h2;exact .inr ⟨by rw[HR1.o,h2],h1⟩
    ·rw[iZ (by omega)]at h4;exact .inl ⟨by rw[HR1.o,h4],h1,by omega⟩);go_wp2_with fail;refine dD (v:= .agg #[.int .i64 x.kind,.int .i64 x.n,.string x.s,.slice va ts.length vc]) (by simp[results,Tryz.results134,go_sem,hcs,z0,z1,z2,z3,o0,o1,o2,o3,aus,aut];try rfl) rfl ?_;refine⟨[.int .i64 x.kind,.int .i64 x.n,.string x.s,.slice va ts.length vc],.mk x.kind x.n x.s ts,m,rfl,(by have h0:=WR.o;repeat(with_reducible first|exact h0|refine Ch.alloc ?_ _|refine Ch.setCell ?_ (.inr (by simp)) _)),?_,(by have h0:=HW4.o;repeat(with_reducible first|exact h0|refine aX ?_ _|refine auh ?_ (by omega))),hres.o⟩;rw[Tm.gL];refine⟨HI3.o.1,HI3.o.2.1,HI3.o.2.2,_,rfl,?_⟩;have hsl:=HO.o.sl Tm.aj (A:=fun b=>w2.heap.size<=b) (by omega) (fun b hb=>hb);refine au.mono Tm.aj (by omega) (au.keeps Tm.aj hsl ?_) (fun b _ hb=>by simp only[New]at*;omega);refine af.trans (af.trans (af.trans (af.setCell _ _ _ _ ?_) (af.setCell _ _ _ _ ?_)) (af.setCell _ _ _ _ ?_)) (af.setCell _ _ _ _ ?_)<;>(simp;omega)
theorem auG(hE:cz N E):∀k,k<=200->Tw xb E N k:=by intro k;induction k using Nat.strongRecOn with|_ k ih=>intro hk;cases k with|zero=>exact auo|succ k=>exact aup hE k (by omega) fun m hm=>ih m (by omega) (by omega)
end
def lU(A:Nat->Prop)(w:World):List Td->Value->Prop|[],v=>v= .pointer none|g::r,v=>∃b a cap rv,v= .pointer (some ⟨b,0,none⟩)/\A b/\w.heap[b]?=some (.cells #[.int .i64 g.t.kind,.int .i64 g.t.n,.string g.t.s,.slice a g.t.args.length cap,.int .i64 (g.call:Int),rv] 139 (0,0))/\Tm.rep A w g.t [.int .i64 g.t.kind,.int .i64 g.t.n,.string g.t.s,.slice a g.t.args.length cap]/\lU A w r rv
theorem lU.keeps{A:Nat->Prop}{w w':World}:∀{l:List Td}{v:Value},lU A w l v->af A w w'->lU A w' l v|[],v,h,_=>h|g::r,v,h,hk=>by obtain⟨b,a,cap,rv,h1,h2,h3,h4,h5⟩:=h;exact⟨b,a,cap,rv,h1,h2,bB h3 hk h2,Tm.aj.1 _ _ _ _ _ h4 hk,lU.keeps h5 hk⟩
theorem lU.mono{A A':Nat->Prop}{w:World}:∀{l:List Td}{v:Value},lU A w l v->(∀b,b<w.heap.size->A b->A' b)->lU A' w l v|[],v,h,_=>h|g::r,v,h,hk=>by obtain⟨b,a,cap,rv,h1,h2,h3,h4,h5⟩:=h;exact⟨b,a,cap,rv,h1,hk b (aJ h3) h2,h3,Tm.aj.2.1 _ _ _ _ _ h4 hk,lU.mono h5 hk⟩
theorem lU.ptr{A:Nat->Prop}{w:World}{l:List Td}{v:Value}(h:lU A w l v):∃p,v= .pointer p:=by cases l with|nil=>exact⟨none,h⟩|cons g r=>obtain⟨b,_,_,_,rfl,_⟩:=h;exact⟨_,rfl⟩
def PM(g:Nat)(ov:Value)(b:Nat):Prop:=b=g\/ownB ov=some b
def PA(g:Nat)(ov:Value)(b:Nat):Prop:=¬PM g ov b
structure kI (base : Nat) (P : List Cl) (q g : Nat) (pv ov : Value) (p : Pv) (w : World) : Prop where
  box : w.heap[g]? = some (.cells #[pv, .int .i64 (q : Int), .int .i64 (p.fuel : Int), .int .i64 p.vars, ov, .bool p.ended, .int .i64 (p.calls : Int)] 136 (0, 0))
  prog : lW (fun b => b < base) w P pv
  out : aG w base 42 2 yC (PA g ov) p.out ov
  bg : base ≤ g
  v0 : 0 ≤ p.vars
  v1 : p.vars ≤ 1000000
  fu : p.fuel ≤ 150
  qq : q ≤ 8
  cl : p.calls ≤ 1000000
  Ww : p.out.length ≤ 20
theorem mY{w:World}{g:Nat}{E:TypeId}{v0 v1 v2 v3 v4 v5 v6:Value}(h:w.heap[g]?=some (.cells #[v0,v1,v2,v3,v4,v5,v6] E (0,0))):w.cell? ⟨g,0,none⟩=some v0/\w.cell? ⟨g,1,none⟩=some v1/\w.cell? ⟨g,2,none⟩=some v2/\w.cell? ⟨g,3,none⟩=some v3/\w.cell? ⟨g,4,none⟩=some v4/\w.cell? ⟨g,5,none⟩=some v5/\w.cell? ⟨g,6,none⟩=some v6/\∀o,w.frozen? ⟨g,o,none⟩=false:=⟨(bW h 0).trans rfl,(bW h 1).trans rfl,(bW h 2).trans rfl,(bW h 3).trans rfl,(bW h 4).trans rfl,(bW h 5).trans rfl,(bW h 6).trans rfl,fun o=>by simp[World.frozen?,h]⟩
section
variable {base : Nat} {P : List Cl} {q g : Nat} {pv ov gI : Value} {p p' : Pv} {w w' : World}
theorem kI.og(h:kI base P q g pv ov p w):ownB ov≠some g:=fun e=>by obtain⟨c,hc⟩:=h.out.ty e;have :=yE h.box hc;exact absurd this (by decide)
theorem kI.lt(h:kI base P q g pv ov p w):g<w.heap.size/\base<=w.heap.size:=⟨aJ h.box,by have :=aJ h.box;have :=h.bg;omega⟩
theorem kI.vX(h:kI base P q g pv ov p w):∀b,PM g ov b->base<=b/\b<w.heap.size:=by
 rintro b(rfl|hb);·exact⟨h.bg,h.lt.1⟩
 ·exact h.out.lt b hb
theorem kI.vals(h:kI base P q g pv ov p w):∃pa pc oa oc,pv= .slice pa P.length pc/\ov= .slice oa p.out.length oc/\P.length<=pc/\pc<=maxLen/\p.out.length<=oc/\oc<=maxLen:=by obtain⟨pa,pc,_,_,rfl,p1,p2, -⟩:=au.at h.prog;obtain⟨oa,oc,rfl,o1,o2⟩:=aG.pO h.out;exact⟨pa,pc,oa,oc,rfl,rfl,p1,p2,o1,o2⟩
theorem kI.below(h:kI base P q g pv ov p w)(hb:Below w.heap.size w w'):kI base P q g pv ov p w':=by obtain⟨h1,h2,h3,h4,h5,h6,h7,h8,h9,h10⟩:=h;exact⟨aL h1 hb,au.keeps Cl.aj h2 (af.ob hb),h3.below nN hb,h4,h5,h6,h7,h8,h9,h10⟩
def dz(base:Nat)(P:List Cl)(q g:Nat)(pv ov:Value)(p':Pv)(w w':World):Prop:=∃gI,kI base P q g pv gI p' w'/\Ch (PM g ov) w w'/\(∀b,ownB gI=some b->ownB ov=some b\/w.heap.size<=b)
theorem dz.refl(h:kI base P q g pv ov p w):dz base P q g pv ov p w w:=⟨ov,h,Ch.refl _ _,fun b h=> .inl h⟩
theorem dz.trans{w'':World}(hch:Ch (PM g ov) w w')(ho:∀b,ownB gI=some b->ownB ov=some b\/w.heap.size<=b)(h:dz base P q g pv gI p' w' w''):dz base P q g pv ov p' w w'':=by
 obtain⟨o2,h1,h2,h3⟩:=h;have hs:=hch.size;refine⟨o2,h1,hch.trans h2 (fun b hb=>?_),fun b hb=>?_⟩
 ·rcases hb with hb|hb;·exact .inl (.inl hb)
  ·exact(ho b hb).imp .inr id
 ·exact(h3 b hb).elim (fun e=>ho b e) (fun e=> .inr (fM hs e))
theorem DW(hc:Ch (PM g ov) w w')(ho:∀b,ownB gI=some b->ownB ov=some b\/w.heap.size<=b):af (fun b=>PA g ov b/\b<w.heap.size) w w'/\∀b,(PA g ov b/\b<w.heap.size)->PA g gI b:=by
 refine⟨hc.keeps fun b _ hb e=>hb.1 e,fun b hb e=>?_⟩;rcases e with e|e;·exact hb.1 (.inl e)
 ·rcases ho b e with e|e;·exact hb.1 (.inr e)
  ·have :=hb.2;omega
theorem gz.move{l:List (Int×Tm)}{v:Value}(h:gz (PA g ov) w l v)(hc:Ch (PM g ov) w w')(ho:∀b,ownB gI=some b->ownB ov=some b\/w.heap.size<=b):gz (PA g gI) w' l v:=by obtain⟨h1,h2⟩:=DW hc ho;exact((h.mono (A':=fun b=>PA g ov b/\b<w.heap.size) fun b hb hA=>⟨hA,hb⟩).keeps h1).mono fun b _ hb=>h2 b hb
theorem lU.move{l:List Td}{v:Value}(h:lU (PA g ov) w l v)(hc:Ch (PM g ov) w w')(ho:∀b,ownB gI=some b->ownB ov=some b\/w.heap.size<=b):lU (PA g gI) w' l v:=by obtain⟨h1,h2⟩:=DW hc ho;exact((h.mono (A':=fun b=>PA g ov b/\b<w.heap.size) fun b hb hA=>⟨hA,hb⟩).keeps h1).mono fun b _ hb=>h2 b hb
theorem kI.tell{e:Ev}{jZ:Value}{w2:World}{cells:Array Value}(h:kI base P q g pv ov p w)(hsz:p.out.length+1<=20)(hown:aG w2 base 42 2 yC (PA g ov) (p.out++[e]) jZ)(hg:kK (w.alloc (.cells cells 42)) w2 ov jZ):dz base P q g pv ov {p with out:=p.out++[e]} w (w2.setCell ⟨g,4,none⟩ jZ):=by
 have Tx:=h.og;have hlt:=h.lt;have hog:∀b,ownB jZ=some b->ownB ov=some b\/w.heap.size<=b:=fun b hb=>by
  rcases hg.block with e|e;·exact .inl (e▸hb)
  ·have :=e b hb;simp only[bQ]at this;exact .inr (by omega)
 have hch:Ch (PM g ov) w (w2.setCell ⟨g,4,none⟩ jZ):=(hg.ch ((Ch.refl _ _).alloc _) (fun b hb=> .inl (.inr hb))).setCell (p:=⟨g,4,none⟩) (.inl (.inl rfl)) _;have hlb:=h.vX;have hB2:w2.heap[g]?=_:=(hg.grown.block g (by simp;omega) (fun e=>Tx e.symm)).trans (aX h.box _);refine⟨jZ,?_,hch,hog⟩;obtain⟨h1,h2,h3,h4,h5,h6,h7,h8,h9,h10⟩:=h;refine⟨(bG hB2 4 _).trans rfl,?_,?_,h4,h5,h6,h7,h8,h9,by simpa using hsz⟩;·exact au.keeps Cl.aj h2 (hch.keeps fun b hb hA e=>by have :=(hlb b e).1;omega)
 ·have oD:ownB jZ≠some g:=fun e=>by
   rcases hog g e with e|e;·exact Tx e
   ·omega
  refine(hown.keeps (B:=fun b=>b≠g) nN (af.setCell _ _ _ _ (fun h=>h rfl)) (fun b hb e=>hb (.inl e)) (fun b hb e=>oD (e▸hb))).mono' nN fun b hb hA hn=>fun hs=>?_;rcases hs with e|e;·exact hA (.inl e)
  ·exact hn e
theorem kI.set(h:kI base P q g pv ov p w)(o:Nat)(u:Value)(nK:(w.setCell ⟨g,o,none⟩ u).heap[g]?=some (.cells #[pv,.int .i64 (q:Int),.int .i64 (p'.fuel:Int),.int .i64 p'.vars,ov,.bool p'.ended,.int .i64 (p'.calls:Int)] 136 (0,0)))(hou:p'.out=p.out)(hv0:0<=p'.vars)(hv1:p'.vars<=1000000)(hf:p'.fuel<=150)(hcl:p'.calls<=1000000):dz base P q g pv ov p' w (w.setCell ⟨g,o,none⟩ u):=by have Tx:=h.og;have hlb:=h.vX;have hch:Ch (PM g ov) w (w.setCell ⟨g,o,none⟩ u):=(Ch.refl _ _).setCell (p:=⟨g,o,none⟩) (.inl (.inl rfl)) _;refine⟨ov,?_,hch,fun b h=> .inl h⟩;obtain⟨h1,h2,h3,h4,h5,h6,h7,h8,h9,h10⟩:=h;refine⟨nK,au.keeps Cl.aj h2 (hch.keeps fun b hb hA e=>by have :=(hlb b e).1;omega),?_,h4,hv0,hv1,hf,h8,hcl,by rw[hou];exact h10⟩;rw[hou];exact h3.keeps (B:=fun b=>b≠g) nN (af.setCell _ _ _ _ (fun h=>h rfl)) (fun b hb e=>hb (.inl e)) (fun b hb e=>Tx (e▸hb))
def auH(base:Nat)(P:List Cl)(q g:Nat)(pv ov:Value)(p':Pv)(w:World)(e:Ending)(w':World):Prop:=e= .returned (.int .i64 (-1))/\dz base P q g pv ov p' w w'
theorem vY(kind:Int)(hk:aA kind)(h:kI base P q g pv ov p w)(hsz:p.out.length+1<=20):Calls Tryz.prog 75 #[.pointer (some ⟨g,0,none⟩),.int .i64 kind] w (auH base P q g pv ov (p.put kind) w):=by have HU:=zh h;have HK:=zh hk;have lX:=zh hsz;have HOG:=zh h.og;obtain⟨pa,pc,oa,oc,rfl,rfl, -⟩:=h.vals;obtain⟨hl1,hl2⟩:=h.lt;obtain⟨b0,b1,b2,b3,b4,b5,b6,bf⟩:=mY h.box;have hcs:=dH;clear h hk;go_enter Tryz.func75,Tryz.ntmps75;go_wp2_with(at_builtin;go_must(refine jf rfl (.tmp 9) (.tmp 12) 24 rfl base 42 2 32 QI nN (A:=PA g (.slice oa p.out.length oc)) (.slice oa p.out.length oc) p.out rfl HU.o.out ⟨kind,[]⟩ [.int .i64 kind,.slice none 0 0] (by rfl) rfl ⟨_,rfl,au.nil ..,HK.o⟩ ⟨by omega,by omega⟩ ?_);go_must(intro v2 w2 hown aB;have hB2:=(aB.grown.block g (by simp;omega) (fun e=>HOG.o e.symm)).trans (aX HU.o.box _);obtain⟨aY,aZ,hv2,nI,rY⟩:=aG.pO hown;rw[show(p.out++[(⟨kind,[]⟩:Ev)]).length=p.out.length+1 by simp]at hv2;subst hv2;have bA:=zh hown;have HG2:=zh aB;obtain⟨k0,k1,k2,k3,k4,k5,k6,kf⟩:=mY hB2;clear hown aB hB2));go_ret;obtain⟨jZ,z1,z2,z3⟩:=HU.o.tell lX.o bA.o HG2.o;refine⟨rfl,dz.trans z2 z3 ?_⟩;exact z1.set (p':=p.put kind) 5 (.bool true) ((bG z1.box 5 _).trans rfl) rfl z1.v0 z1.v1 z1.fu z1.cl
end
def mZ(q:Nat):List Tm:=(List.range q).map fun i=>fw (i:Nat)
theorem aaG(q:Nat):(mZ q).length=q:=by simp[mZ]
theorem auJ{q j:Nat}(hj:j<(mZ q).length):(mZ q)[j]=fw (j:Nat):=by simp[mZ]
theorem ajb(A:Nat->Prop)(w:World)(n:Int)(hn:aA n):Tm.rep A w (fw n) [.int .i64 0,.int .i64 n,.string .empty,.slice none 0 0]:=Ht A w 0 n .empty (by unfold aA;omega) hn (by decide)
section
variable {base : Nat} {P : List Cl} {q g mb : Nat} {pv tv cv ov : Value} {s : Sv} {N : Int} {w : World}
end
def Ty(base:Nat)(P:List Cl)(q g:Nat)(pv ov:Value)(r:Int×Pv)(w:World)(e:Ending)(w':World):Prop:=e= .returned (.int .i64 r.1)/\dz base P q g pv ov r.2 w w'
section
variable {base : Nat} {P : List Cl} {q g : Nat} {pv ov : Value} {p : Pv} {N : Int} {E : Env} {w : World}
theorem auK(h:kI base P q g pv ov p w)(hE:cz N E)(ev:Value)(he:gz (PA g ov) w E.reverse ev)(hq:(q:Int)<=N)(hout:p.out.length+2<=13):Calls Tryz.prog 112 #[.pointer (some ⟨g,0,none⟩),ev] w (Ty base P q g pv ov (yS q E p) w):=by
 have HU:=zh h;have HE:=zh hE;have DV:=zh (gz.mono (A':=fun b=>PA g ov b/\b<w.heap.size) he fun b hb hA=>⟨hA,hb⟩);obtain⟨ep,rfl⟩:=he.ptr;have HQN:=zh hq;have ig:=zh hout;have hq8:=h.qq;obtain⟨hl1,hl2⟩:=h.lt;obtain⟨pa,pc,oa,oc,hpv,hov,aaH,nI,ajc,aaI⟩:=h.vals;subst hov;unfold maxLen at aaI;obtain⟨b0,b1,b2,b3,b4,b5,b6,bf⟩:=mY h.box;have MC:yS q E p=match bL E 200 (mZ q)with|none=>(-1,p.put 4)|some (l,_)=>if p.out.length+1≥12 then(-1,({p with out:=p.out++[⟨1,tidy l⟩]}:Pv).put 6)else(-1,{p with out:=p.out++[⟨1,tidy l⟩]}):=by unfold yS mZ;cases bL E 200 ((List.range q).map fun i=>fw (i:Nat))with|none=>rfl|some p=>simp only[bT,jr]
 have ME:=zh MC;clear h hE hq hout hpv aaH nI MC he;go_enter Tryz.func112,Tryz.ntmps112;go_wp2_with fail;obtain⟨W1,hW1⟩:∃W1,W1=w.alloc (.cells #[.int .i64 200] 3):=⟨_,rfl⟩;obtain⟨xb,hxb⟩:∃xb,xb=w.heap.size:=⟨_,rfl⟩;have auL:=zh (show kR xb 200 W1 by rw[hxb,hW1];exact bJ _ _);have HB1:=zh (show Below w.heap.size w W1 by rw[hW1];exact(zB _ _).alloc (zL _) _);have auM:=zh (HU.o.below HB1.o);have hs1:W1.heap.size=xb+1:=by rw[hW1,hxb];simp
 have Ah:w.heap.size<=xb:=by omega
 have aAw:xb<=w.heap.size:=by omega
 try rw[<-hW1]
 try rw[<-hxb]
 clear hW1 hxb b0 b1 b2 b3 b4 b5 b6 bf;obtain⟨b0,b1,b2,b3,b4,b5,b6,bf⟩:=mY auM.o.box;go_wp2_with fail;have HFU:=zh (fun k hk=>auG (xb:=xb) HE.o k hk);go_loopw[12,6](fun i v wr=>∃(j:Nat)(m:Int)(ts:List Tm),j<=q/\i= .int .i64 (j:Int)/\m<=200/\ts.length=j/\((0<=m/\bL E 200 ((mZ q).take j)=some (ts,m.toNat))\/(m<0/\ -801 - (j:Int)<=m/\bL E 200 ((mZ q).take j)=none))/\kR xb m wr/\Ch (fun b=>b=xb) W1 wr/\aG wr (xb+1) 34 4 Tm.rep (fun b=>xb+1<=b) ts v)(fun i _ _=>q - (intOf i).toNat);case atStart=>exact⟨0,200,[],dn _,rfl,kr _,rfl,.inl ⟨by omega,by rw[mE,xW];rfl⟩,auL.o,Ch.refl _ _,aG.nil ..⟩
 case round=>
  obtain⟨j,m,ts,hj,rfl,hm,htl,hst,hw,hch,hown⟩:=hrel;have HST:=zh hst;have QC:=zh htl;have KU:=zh hw;have bU:=zh hch;have HO:=zh hown;have fA:=zh (show Below w.heap.size w wr from((Ch.of_below (M:=fun b=>b=xb) HB1.o).trans hch (fun _ h=> .inl h)).below (fun k hk e=>by omega));have Jf:=zh (HU.o.below fA.o);have HQW:=zh (DV.o.keeps (af.ob fA.o));have hsz:=hch.size;obtain⟨va,vc,rfl,qG⟩:=hown.val;have QT:ts.length<=8:=by omega
  obtain⟨q0,qf,ql⟩:=hw.cell;clear htl hst hw hch hown b0 b1 b2 b3 b4 b5 b6 bf;obtain⟨b0,b1,b2,b3,b4,b5,b6,bf⟩:=mY Jf.o.box;by_cases hlt:j<q
  ·have hlt':(j:Int)<(q:Int):=by omega
   have hj0:(0:Int)<=(j:Int):=zN _;have Lg:=zh (show aA (j:Int)by unfold aA;omega);have hjl:j<(mZ q).length:=by rw[aaG];exact hlt
   have ji:=zh (fun(m':Nat)(h:bL E 200 ((mZ q).take j)=some (ts,m'))=>(show bL E 200 ((mZ q).take (j+1))=(match bL E m' [fw (j:Nat)]with|none=>none|some (rs,w2)=>some (ts++rs,w2))by rw[afd E 200 (mZ q) j hjl ts m' h,auJ];cases bL E m' [fw (j:Nat)]with|none=>rfl|some p=>rfl));have uX:=zh (fun(h:bL E 200 ((mZ q).take j)=none)=>(show bL E 200 ((mZ q).take (j+1))=none by rw[dX hjl];exact afc E 200 _ _ h));have dM:=zh (show(fw (j:Nat)).In N from .var _ (by omega) (by have :=HQN.o;omega));have IJ:Hd (Calls Tryz.prog 134 #[.pointer ep,.agg #[.int .i64 0,.int .i64 (j:Int),.string .empty,.slice none 0 0],.pointer (some ⟨xb,0,none⟩)] wr (fun e w5=>∃(us:List Value)(t':Tm)(k':Int),e= .returned (.agg us.toArray)/\Ch (fun b=>b=xb) wr w5/\Tm.rep (fun b=>New wr b) w5 t' us/\kR xb k' w5/\k'<=200/\((0<=k'/\bL E 200 ((mZ q).take (j+1))=some (ts++[t'],k'.toNat))\/(k'<0/\ -801 - ((j+1:Nat):Int)<=k'/\bL E 200 ((mZ q).take (j+1))=none)))):=by
    rcases HST.o with⟨hm0,hfl⟩|⟨hm0,hmb,hfl⟩
    ·obtain⟨m,rfl⟩:=dQ hm0;rw[dG]at hfl;refine zh ((HFU.o m (by omega) (fw (j:Nat)) (fun b=>PA g (.slice oa p.out.length oc) b/\b<w.heap.size) wr _ [_,_,_,_] KU.o (fun h=>by have :=h.2;omega) dM.o HQW.o (ajb _ _ _ Lg.o)).mono ?_);rintro e w5⟨us,t',k',rfl,bN,hr1,hl1,hres⟩;have hnx:=ji.o m hfl;rcases hres with⟨r1,r2,r3⟩|⟨r1,r2⟩;·exact⟨us,t',k',rfl,bN,hr1,hl1,by omega,.inr ⟨r2,by omega,by rw[hnx,r1]⟩⟩
     ·have hle:=(Qd E m _ _ _ r1).1;exact⟨us,t',k',rfl,bN,hr1,hl1,by omega,.inl ⟨r2,by rw[hnx,r1]⟩⟩
    ·refine zh ((aaA m (by omega) (by omega) (fw (j:Nat)) (fun _=>True) wr ep [_,_,_,_] KU.o (ajb _ _ _ Lg.o)).mono ?_);rintro e w5⟨rfl,bN,hl1⟩;exact⟨[.int .i64 0,.int .i64 0,.string .empty,.slice none 0 0],vv,m - 1,rfl,bN,yH _ _,hl1,by omega,.inr ⟨by omega,by omega,uX.o hfl⟩⟩
   clear q0 qf;go_wp2_with fail;refine(IJ.o).mono ?_;rintro e w5⟨us,t',k',rfl,bN,hr1,hl1,hkk,hres⟩;obtain⟨sa',eQ,rfl, -⟩:=Tm.dw hr1;have hsz1:=bN.size;have hkg:af (fun b=>b≠xb) wr w5:=bN.keeps (A:=fun b=>b≠xb) (fun b _ hb e=>hb e);have Ao:=HO.o.lt;have eT:=zh (HO.o.keeps Tm.aj hkg (fun b hb=>by omega) (fun b hb=>by have :=(Ao b hb).1;omega));have HN:=zh (JF Tm.aj HO.o (wc:=wr) (zL _) (A:=fun b=>xb+1<=b) (fun b hb=>by omega) hr1);have Ld:=zh (show ts.length<4194304/\xb+1<=w5.heap.size by omega);have Aa:=zh (show Ch (fun b=>b=xb) W1 w5 from bU.o.trans bN (fun _ h=> .inl h));have Le:=zh hl1;have l7:=zh hres;have HKK:=zh hkk;have ajd:=zh Ao;clear hr1 hl1 hres bN hkg Ao hkk;go_wp2_with(at_builtin;go_must(refine jf rfl (.tmp 15) (.tmp 20) 23 rfl (xb+1) 34 4 56 rz Tm.aj (A:=fun b=>xb+1<=b) _ _ rfl eT.o t' [_,_,_,_] rfl rfl HN.o Ld.o ?_);go_must(intro v2 w6 hown2 aB;obtain⟨aY,aZ,hv2,zy⟩:=hown2.val;rw[show(ts++[t']).length=ts.length+1 by simp]at hv2;subst hv2;have bA:=zh hown2;have HG2:=zh aB;clear hown2 aB));have II:=zh (HG2.o.ch (Aa.o.alloc _) (fun b hb=> .inr (by have :=(ajd.o b hb).1;omega)));have HL6:=zh (show kR xb k' _ from bB Le.o ((af.alloc (fun b=>ownB (.slice va ts.length vc)≠some b) w5 _).trans (HG2.o.keeps (A:=fun b=>ownB (.slice va ts.length vc)≠some b) (fun _ h=>h))) (fun e=>by have :=(ajd.o _ e).1;omega));go_roundw;case rel=>exact⟨j+1,k',ts++[t'],by omega,by go_num,HKK.o,by have :=QC.o;simp;omega,l7.o,HL6.o,II.o,bA.o⟩
   case measure=>simp[intOf];omega
  ·have Qv:=zh (show(0<=m/\bL E 200 (mZ q)=some (ts,m.toNat))\/(m<0/\bL E 200 (mZ q)=none)by
    rcases HST.o with⟨h1,h2⟩|⟨h1,h2,h3⟩;·rw[iZ (by rw[aaG];omega)]at h2;exact .inl ⟨h1,h2⟩
    ·rw[iZ (by rw[aaG];omega)]at h3;exact .inr ⟨h1,h3⟩);have aje:=zh (show Ch (PM g (.slice oa p.out.length oc)) w wr from Ch.of_below fA.o);by_cases Jg:m<0
   ·have hres:=zh (show yS q E p=(-1,p.put 4)by
     rcases Qv.o with⟨h1,h2⟩|⟨h1,h2⟩;·omega
     ·rw[ME.o,h2]);have hmd:decide (m<0)=true:=by simpa using Jg
    go_wp2_with fail;refine(vY 4 (by unfold aA;omega) Jf.o (by have :=ig.o;omega)).mono ?_;rintro e W9⟨rfl,hst⟩;have auQ:=zh (dz.trans aje.o (fun b h=> .inl h) hst);clear hst;go_wp2_with fail;go_ret;rw[hres.o];exact⟨rfl,auQ.o⟩
   have hmd:decide (m<0)=false:=by simpa using Jg
   have hm0:(0:Int)<=m:=by omega
   have hfl:=zh (show bL E 200 (mZ q)=some (ts,m.toNat)by
    rcases Qv.o with⟨h1,h2⟩|⟨h1,h2⟩;·exact h2
    ·omega);have MI:=zh (show yS q E p=if p.out.length+1≥12 then(-1,({p with out:=p.out++[⟨1,tidy ts⟩]}:Pv).put 6)else(-1,{p with out:=p.out++[⟨1,tidy ts⟩]})by rw[ME.o,hfl.out]);clear Jg;have BG:=zh (HO.o.sl Tm.aj (A:=fun b=>xb+1<=b) (by omega) (fun b hb=>hb));have hnd:=zh (show Tm.bq ts<=4194304 by have :=aqs _ _ _ _ _ hfl.out;omega);have hM1:wr.drew.cell? ⟨g,4,none⟩=some (.slice oa p.out.length oc):=(mY (show wr.drew.heap[g]?=_ from Jf.o.box)).2.2.2.2.1;go_wp2_with fail;refine iG (F:=fun k w'=>k=4->w'.cell? ⟨g,4,none⟩=some (.slice oa p.out.length oc)) (by kernel_rfl) ?_;refine aD (i:=0) (v:=?_) rfl (Or.inl ⟨by rfl,?_⟩) (fun _=>hM1) ?_;rotate_left;·(intro w' hw;clear hw;go_simp<;>with_reducible rfl)
   try simp only[zP]
   refine aD (i:=1) (v:=?_) rfl (Or.inl ⟨by rfl,?_⟩) (fun _=>hM1) ?_;rotate_left;·(intro w' hw;clear hw;go_simp<;>with_reducible rfl)
   try simp only[zP]
   refine aD (i:=2) (v:=?_) rfl (Or.inl ⟨by rfl,?_⟩) (fun _=>hM1) ?_;rotate_left;·(intro w' hw;clear hw;go_simp<;>with_reducible rfl)
   try simp only[zP]
   refine aD (i:=3) (v:=?_) rfl (Or.inl ⟨by rfl,?_⟩) (fun _=>hM1) ?_;rotate_left;·(intro w' hw;clear hw;go_simp<;>with_reducible rfl)
   try simp only[zP]
   refine aD (i:=4) (v:=?_) rfl (Or.inl ⟨by rfl,?_⟩) (fun _=>hM1) ?_;rotate_left;·(intro w' hw;have q0:=hw rfl;clear hw;go_simp<;>with_reducible rfl)
   try simp only[zP]
   refine aD (i:=5) (v:=?_) rfl (Or.inl ⟨by rfl,?_⟩) (fun _=>hM1) ?_;rotate_left;·(intro w' hw;clear hw;go_simp<;>with_reducible rfl)
   try simp only[zP]
   refine aM (i:=6) (by kernel_rfl) (aF rfl (by rfl) ?_);go_simp;refine(amZ ts hnd.out (fun b=>xb+1<=b) wr.drew _ (au.keeps Tm.aj BG.o (af.drew _ _))).mono ?_;rintro e w5⟨lv,rfl,hb5,hlv⟩;have dF:=zh (show Below wr.heap.size wr w5 from((iF _ wr).drew).trans hb5);have Zj:=zh (show eP (New wr.drew) w5 (tidy ts) lv from hlv);obtain⟨la,lc, -, -,Zk, -⟩:=au.at hlv;subst Zk;have FT:=zh (Jf.o.below dF.o);have Zl:=zh FT.o.out;have oO:=hb5.size;simp only[eZ]at oO;have BH:=zh (show w5.cell? ⟨g,4,none⟩=some (.slice oa p.out.length oc)from(mY FT.o.box).2.2.2.2.1);clear hb5 hlv;refine⟨fun _ _ _ _=>BH.out,?_⟩;try simp only[zP]
   refine aD (i:=7) (v:=?_) rfl (Or.inl ⟨by rfl,?_⟩) (fun _=>BH.out) ?_;rotate_left;·(intro w' hw;clear hw;go_simp<;>with_reducible rfl)
   try simp only[zP]
   refine aM (i:=8) (by kernel_rfl) (aF rfl (by rfl) ?_);go_simp;refine⟨fun _ _ _ _=>(af.alloc (fun _=>True) w5 _).cell trivial BH.out,?_⟩;try simp only[zP]
   refine aM (i:=9) (by kernel_rfl) (aF rfl (by rfl) ?_);refine oh (.tmp 31) (.tmp 35) 24 rfl base 42 2 32 QI nN (A:=PA g (.slice oa p.out.length oc)) (.slice oa p.out.length oc) p.out rfl Zl.o ⟨1,tidy ts⟩ [.int .i64 1,.slice la (tidy ts).length lc] rfl rfl ⟨_,rfl,au.mono Tm.aj (by omega) Zj.o (fun b _ hb=>⟨fun hs=>by have h1:=(Jf.o.vX b hs).2;have h2:wr.drew.heap.size<=b:=hb;simp only[eZ]at h2;omega,fun e=>by have h1:=(Jf.o.out.lt b e).2;have h2:wr.drew.heap.size<=b:=hb;simp only[eZ]at h2;omega⟩),show aA 1 by unfold aA;omega⟩ ⟨by have :=ig.o;omega,by have :=FT.o.lt;omega⟩ ?_;intro v2 w6 hown2 aB;have hog:ownB (.slice oa p.out.length oc)≠some g:=FT.o.og;have DF:=zh (show w6.heap[g]?=_ from(aB.grown.block g (by simp;omega) (fun e=>FT.o.og e.symm)).trans (aX FT.o.box _));obtain⟨aY,aZ,hv2,nI,rY⟩:=aG.pO hown2;rw[show(p.out++[(⟨1,tidy ts⟩:Ev)]).length=p.out.length+1 by simp]at hv2;subst hv2;have MJ:=zh (FT.o.tell (by have :=ig.o;omega) hown2 aB);refine⟨fun _ _ _ _=>?_,?_⟩;·exact(aB.keeps (A:=fun b=>ownB (.slice oa p.out.length oc)≠some b) (fun _ h=>h)).cell hog ((af.alloc (fun _=>True) w5 _).cell trivial BH.out)
   clear hown2 aB b0 b1 b2 b3 b4 b5 b6 bf;obtain⟨b0,b1,b2,b3,b4,b5,b6,bf⟩:=mY DF.o;try simp only[zP]
   refine aD (i:=10) (v:=?_) rfl (Or.inl ⟨by rfl,?_⟩) (fun h=>by omega) ?_;rotate_left;·(intro w' hw;clear hw;go_simp<;>with_reducible rfl)
   try simp only[zP]
   refine aD (i:=11) (v:=?_) rfl (Or.inl ⟨by rfl,?_⟩) (fun h=>by omega) ?_;rotate_left;·(intro w' hw;clear hw;go_simp<;>with_reducible rfl)
   try simp only[zP]
   refine aM (i:=12) (by kernel_rfl) (aF rfl (by rfl) ?_);go_simp;refine⟨fun k0 hk0 _ h12=>?_,fO (by kernel_rfl) ?_ _⟩;·subst h12;exact absurd (show waits _ 12 4=true by kernel_rfl) (by rw[hk0];decide)
   clear b0 b1 b2 b3 b4 b5 b6 bf;generalize w6.setCell ⟨g,4,none⟩ (.slice aY (p.out.length+1) aZ)=w7 at*;obtain⟨o7,Tz,yY,ajf⟩:=MJ.o;have ajg:=zh Tz;have Af:=zh (fun(s':Pv)(w':World)(hh:dz base P q g pv o7 s' w7 w')=>(dz.trans aje.o (fun b h=> .inl h) (dz.trans (Ch.of_below dF.o) (fun b h=> .inl h) (dz.trans yY ajf hh)):dz base P q g pv (.slice oa p.out.length oc) s' w w'));obtain⟨_,_,o7a,o7c, -,Sn, -⟩:=Tz.vals;subst Sn;obtain⟨b0,b1,b2,b3,b4,b5,b6,bf⟩:=mY Tz.box;simp only[bT,jr]at b4;have arq:p.out.length<=11:=by have :=ig.o;omega
   clear Tz yY ajf;by_cases h12:p.out.length+1≥12
   ·have hres:=zh (MI.o.trans (ai h12));have hle:p.out.length=11:=by omega
    rw[hle]at b4;go_wp2_with fail;refine(vY 6 (by unfold aA;omega) ajg.o (by simp;omega)).mono ?_;rintro e W9⟨rfl,hst⟩;have HST:=zh (Af.o _ _ hst);clear hst;go_wp2_with fail;go_ret;rw[hres.o];exact⟨rfl,HST.o⟩
   ·have hres:=zh (MI.o.trans (ag h12));go_wp2_with fail;go_ret;rw[hres.o];exact⟨rfl,Af.o _ _ (dz.refl ajg.o)⟩
end
theorem ajh{size:Nat}:∀(vals:List (List Value))(k:Nat),(∀(i:Nat)(vs:List Value),vals[i]?=some vs->vs.length=size)->(vals.flatten).take (k*size)=(vals.take k).flatten|[],k,_=>by simp|v::r,0,_=>by simp|v::r,k+1,h=>by have h0:=h 0 v rfl;rw[PE,uP,PE,List.take_append,h0,iZ (by rw[h0,nY];omega),show(k+1)*size - size=k*size by rw[nY];omega,ajh r k (fun i vs hi=>h (i+1) vs (by simpa using hi))]
theorem aG.take{α:Type}{w:World}{base:Nat}{E:TypeId}{size:Nat}{R:(Nat->Prop)->World->α->List Value->Prop}{A:Nat->Prop}{xs:List α}{a:Option Addr}{cap:Nat}(h:aG w base E size R A xs (.slice a xs.length cap)){k:Nat}(hk:k<=xs.length):aG w base E size R A (xs.take k) (.slice a k cap):=by
 obtain⟨vals,hl,ho,he⟩:=h;have bI:ownB (.slice a k cap)=ownB (.slice a xs.length cap):=by cases a<;>rfl
 have hlk:(xs.take k).length=k:=by rw[eY];omega
 have hsz:∀(i:Nat)(vs:List Value),vals[i]?=some vs->vs.length=size:=fun i vs hv=>by
  have hi:i<xs.length:=by have :=(gT.1 hv).1;omega
  exact(he i _ vs (aT hi) hv).1
 refine⟨vals.take k,by rw[eY,eY];omega,?_,fun i x vs hx hv=>?_⟩
 ·rw[hlk,<-ajh vals k hsz];refine⟨by rw[eY,PQ vals hsz];exact Gd (Pq _ (by omega)),?_⟩;rcases ho.2 with⟨h1,a',h2⟩|⟨g,c,cur,h2,hc,hb,hgg,hnc,hcm,hcs,htake⟩;·simp only[dC]at h2;obtain⟨rfl, -,rfl⟩:=h2;exact .inl ⟨by omega,a,by rw[show k=0 by omega]⟩
  ·simp only[dC,dL]at h2;obtain⟨rfl,rfl⟩:=h2;refine .inr ⟨g,cap,cur,rfl,hc,hb,hgg,by omega,hcm,hcs,?_⟩;rw[<-htake,Vo,Gd (Pq _ hk)]
 ·have hi:i<k:=by have :=(gT.1 hx).1;omega
  rw[qj hi]at hx hv;rw[bI];exact he i x vs hx hv
section
variable {base : Nat} {P : List Cl} {q g mb xb : Nat} {pv tv cv ov : Value} {s : Sv} {w : World}
end
theorem aG.row{α:Type}{w:World}{base:Nat}{E:TypeId}{size:Nat}{R:(Nat->Prop)->World->α->List Value->Prop}{A:Nat->Prop}{xs:List α}{a:Option Addr}{cap:Nat}(h:aG w base E size R A xs (.slice a xs.length cap))(hs:0<size){i:Nat}(hi:i<xs.length):∃b vs,a=some ⟨b,0,none⟩/\vs.length=size/\R (fun b=>A b/\ownB (.slice a xs.length cap)≠some b) w xs[i] vs/\(∀j u,vs[j]?=some u->w.cell? ⟨b,i*size+j,none⟩=some u)/\b<w.heap.size/\xs.length<=cap/\ownB (.slice a xs.length cap)=some b:=by
 obtain⟨vals,hl,ho,he⟩:=h;have hsz:∀(i:Nat)(vs:List Value),vals[i]?=some vs->vs.length=size:=fun i vs hv=>by
  have hi:i<xs.length:=by have :=(gT.1 hv).1;omega
  exact(he i _ vs (aT hi) hv).1
 have hv:=aT (l:=vals) (i:=i) (by omega);obtain⟨h1,h2⟩:=he i _ _ (aT hi) hv;have hcl:=@Own.cells w base E size _ xs.length vals.flatten ho;rcases ho.2 with⟨h3,a',h4⟩|⟨g,c,cur,h4,hc,hb,hgg,hnc,hcm,hcs,htake⟩;·omega
 ·simp only[dC,dL]at h4;obtain⟨rfl,rfl⟩:=h4;refine⟨g,vals[i],rfl,h1,h2,fun j u hj=>?_,aJ hgg,hnc,by simp[ownB,Av.1 hc]⟩;have hjl:j<size:=by have :=(gT.1 hj).1;omega
  exact hcl rfl hc _ u (by rw[Ei vals hsz i j _ hv hjl];exact hj)
section
variable {base : Nat} {P : List Cl} {q g mb : Nat} {pv tv cv ov : Value} {s : Sv} {w : World}
end
section
variable {P : Program} {ops : Array Oper} {Q : Exit → Act → World → Prop}
def TA(ops:Array Oper)(L:Nat):Bool:=decide (L<=ops.size)&&(List.range ops.size).all fun i=>decide (i<L)||(List.range L).all fun k=>waits ops i k||(List.range L).any fun j=>decide (k<j)&&waits ops j k
def TB(ops:Array Oper)(listed:Array Bool):Prop:=∀m k,listed.getD m false=true->waits ops m k=true->listed.getD k false=true
theorem TB.set{ops:Array Oper}{listed:Array Bool}(h:TB ops listed){i:Nat}(hi:∀k,waits ops i k=true->listed.getD k false=true):TB ops (listed.setIfInBounds i true):=by
 have up:∀k,listed.getD k false=true->(listed.setIfInBounds i true).getD k false=true:=fun k hk=>by
  by_cases e:i=k
  ·subst e;simp only[D9]at hk ⊢;by_cases hl:i<listed.size;·rw[Cg hl];rfl
   ·rw[Ck (by omega)]at hk;simp at hk
  ·rw[ry false e];exact hk
 intro m k hm hw;by_cases e:i=m;·subst e;exact up k (hi k hw)
 ·rw[ry false e]at hm;exact up k (h m k hm hw)
theorem auR{L:Nat}{ia:Nat}{D:Nat->Value->Value->World->Prop}{ps:Nat->Bool}{a0:Act}{Inv:World->Prop}{Po:Nat->Value->World->Prop}{Rl:World->World->Prop}(hia:ia<L/\ps ia=false)(hpD:∀p v u w,ps p=true->D p v u w)(aaK:∀i v u w w',D i v u w->Rl w w'->D i v u w')(ht:TA ops L=true)(hap:Io ops L ps=true)(hQ:∀c(a:Act)t w,Q (.panic c) ⟨t,a.defers⟩ w->Q (.panic c) a w)(hd:CE ops L a0.tmps.size=true)(hst:∀i v w w',Po i v w->Rl w w'->Po i v w')(hinv:∀w w',Inv w->Rl w w'->Inv w')(yJ:∀i o,i<L->ps i=true->ops[i]?=some o->∀(f:Nat->Value)(a:Act)(w:World),Inv w->(∀k,waits ops i k=true->Po k (f k) w)->(∀k s,waits ops i k=true->bF ops k=some s->a.tmps[s]?=some (f k))->(∀s,rP ops L s=true->a.tmps[s]?=a0.tmps[s]?)->∃v,Yields P ops o v a/\Po i v w)(hop:∀i,i<L->ps i=false->∀(f:Nat->Value)(a:Act)(w:World),Inv w->(∀k,waits ops i k=true->Po k (f k) w)->(∀k s,waits ops i k=true->bF ops k=some s->a.tmps[s]?=some (f k))->(∀s,rP ops L s=true->a.tmps[s]?=a0.tmps[s]?)->wpOp P ops Q i (fun a' w'=>∃v,a'=a.put (bF ops i) v/\Po i v w'/\Rl w w'/\(i≠ia->∀u,Po ia u w->(∀k,waits ops i k=true->k≠ia->D k (f k) u w)->D i v u w')/\(i=ia->∀k u,Po k u w->D k u v w')) a w)(hend:∀(f:Nat->Value)(w:World),Inv w->(∀i,i<L->Po i (f i) w)->(∀i,i<L->i≠ia->D i (f i) (f ia) w)->wpAny P .any ops Q (ops.size - L) (List.replicate L true++List.replicate (ops.size - L) false).toArray ⟨gY f 0 (ops.toList.take L) a0.tmps,a0.defers⟩ w)(hbk:uZ ops=true):∀(fuel:Nat)(f:Nat->Value)(listed:Array Bool)(a:Act)(w:World),listed.size=ops.size->(listed.toList.filter (· ==false)).length=fuel->Inv w->CF ops L Po a0 f listed a w->(listed.getD ia false=true->∀k,k≠ia->listed.getD k false=true->D k (f k) (f ia) w)->TB ops listed->wpAny P .any ops Q fuel listed a w:=by
 obtain⟨hlt,xY⟩:=VP hd;unfold TA at ht;simp only[rq,Ed,qo,ko,Gf,List.any_eq_true]at ht;obtain⟨hL,Kj⟩:=ht;unfold Io at hap;simp only[rq]at hap;obtain⟨hsel,hap⟩:=hap;have close:∀(fuel:Nat)(f:Nat->Value)(listed:Array Bool)(a:Act)(w:World),listed.size=ops.size->(listed.toList.filter (· ==false)).length=fuel->Inv w->CF ops L Po a0 f listed a w->(listed.getD ia false=true->∀k,k≠ia->listed.getD k false=true->D k (f k) (f ia) w)->(∀k,k<L->listed.getD k false=true)->wpAny P .any ops Q fuel listed a w:=by
  intro fuel f listed a w hls hn hw hc hP hall;have hl:listed=(List.replicate L true++List.replicate (ops.size - L) false).toArray:=by
   apply Array.ext;·simp;omega
   ·intro i h1 h2;have h3:listed.getD i false=listed[i]:=by simp[Array.getD,h1]
    by_cases hi:i<L;·have h4:=hall i hi;rw[h3]at h4;rw[h4];simp only[Pw];rw[Eb (by simpa using hi)];simp
    ·have h4:listed[i]=false:=by cases hx:listed[i]with|false=>rfl|true=>exact absurd (hc.front i (by rw[h3];exact hx)) hi
     rw[h4];simp only[Pw];rw[Ea (by simp;omega)];simp
  have hf:fuel=ops.size - L:=by rw[<-hn,hl];simp
  have :a=⟨gY f 0 (ops.toList.take L) a0.tmps,a0.defers⟩:=by
   obtain⟨t,d⟩:=a;have h1:=hc.defers;have h2:=hc.size;simp only at h1 h2;subst h1;congr 1;refine ab4 fun s=>?_;have hto:∀(k:Nat)(o:Oper),(ops.toList.take L)[k]?=some o->k<L/\ops[k]?=some o:=fun k o hk=>by have hkl:=(gT.1 hk).1;simp only[eY]at hkl;rw[qj (by omega),mr]at hk;exact⟨by omega,hk⟩
   by_cases hs:s<a0.tmps.size
   ·have hg:=Ki f s (ops.toList.take L) 0 a0.tmps hs;by_cases he:∃k,k<L/\bF ops k=some s
    ·obtain⟨k,jB,hk⟩:=he;have hkl:=Ep hk;have e1:=(hc.new k jB (hall k jB)).2 s hk;simp only at e1;rw[e1];have hko:ops[k]?=some ops[k]:=pg hkl;have hkd:ops[k].dst=some s:=by unfold bF at hk;rw[hko]at hk;simpa using hk
     rw[hg.2 k ops[k] (by rw[qj jB,mr];exact hko) hkd (fun j o' hj hd'=>by obtain⟨Er,hj'⟩:=hto j o' hj;exact xY j k s Er jB hk (by unfold bF;rw[hj'];simpa using hd'))];simp
    ·rw[hg.1 (fun k o hk hd'=>by obtain⟨jB,hk'⟩:=hto k o hk;exact he ⟨k,jB,by unfold bF;rw[hk'];simpa using hd'⟩)];exact hc.old s (fun k hkl hk=>he ⟨k,hc.front k hkl,hk⟩)
   ·rw[Ck (by omega),Ck (by rw[Kh];omega)]
  rw[this,hl,hf];exact hend f w hw (fun i hi=>(hc.new i hi (hall i hi)).1) (fun i hi hn=>hP (hall _ hia.1) i hn (hall i hi))
 intro fuel;induction fuel with
  |zero=>
   intro f listed a w hls hn hw hc hP hC;refine close 0 f listed a w hls hn hw hc hP fun k hk=>?_;have h0:listed.toList.filter (· ==false)=[]:=Pn.1 hn;rw[Ve]at h0;have h1:k<listed.size:=by omega
   have h3:=h0 listed[k] (by simp);simp[Array.getD,h1];simpa using h3
  |succ fuel ih=>
   intro f listed a w hls hn hw hc hP hC;by_cases hall:∀k,k<L->listed.getD k false=true;·exact close _ f listed a w hls hn hw hc hP hall
   have step:∀(i:Nat)(v:Value)(w':World),i<L->listed.getD i false=false->Po i v w'->(∀k u,Po k u w->Po k u w')->CF ops L Po a0 (fun k=>if k=i then v else f k) (listed.setIfInBounds i true) (a.put (bF ops i) v) w':=by
    intro i v w' lZ hif hp hr;have hset:∀k,(listed.setIfInBounds i true).getD k false=true->k=i\/(k≠i/\listed.getD k false=true):=fun k hk=>by
     by_cases hki:k=i;·exact .inl hki
     ·refine .inr ⟨hki,?_⟩;rwa[ry false (tO hki)]at hk
    refine⟨?_,?_,fun s hs=>?_,fun k hk hl=>?_,fun k hk=>?_⟩;·unfold Act.put;split<;>exact hc.defers
    ·unfold Act.put;split<;>simp[hc.size]
    ·have h1:bF ops i≠some s:=hs i (by rw[D9,Cg (by omega)];rfl);rw[show(a.put (bF ops i) v).tmps[s]?=a.tmps[s]? by unfold Act.put;cases hdi:bF ops i with|none=>rfl|some d=>simp only;rw[Ci (by rintro rfl;exact h1 hdi)]];refine hc.old s fun k hk=>hs k ?_;by_cases hki:i=k;·subst hki;rw[hif]at hk;cases hk
     ·rwa[ry false hki]
    ·rcases hset k hl with rfl|⟨hki,hk2⟩;·simp only[if_true];refine⟨hp,fun s hs=>?_⟩;unfold Act.put;rw[hs];simp only;rw[Cg (by rw[hc.size];exact hlt k s hk hs)]
     ·simp only[ag hki];obtain⟨h1,h2⟩:=hc.new k hk hk2;refine⟨hr k _ h1,fun s hs=>?_⟩;unfold Act.put;cases hdi:bF ops i with|none=>exact h2 s hs|some d=>simp only;rw[Ci (by rintro rfl;exact hki (xY k i _ hk lZ hdi hs))];exact h2 s hs
    ·rcases hset k hk with rfl|⟨_,hk2⟩;·exact lZ
     ·exact hc.front k hk2
   have count:∀i,i<L->listed.getD i false=false->((listed.setIfInBounds i true).toList.filter (· ==false)).length=fuel:=by
    intro i lZ hif;have h2:listed.toList[i]?=some false:=by
     have h3:i<listed.size:=by omega
     simp only[Array.getD,h3,AB]at hif;rw[mr,pg h3];exact congrArg some hif
    have h4:∀(l:List Bool)(i:Nat),l[i]?=some false->((l.set i true).filter (· ==false)).length+1=(l.filter (· ==false)).length:=by intro l;induction l with|nil=>intro i h;simp at h|cons b r ihr=>intro i h;cases i with|zero=>simp only[uO,dm]at h;subst h;simp|succ i=>have :=ihr i (by simpa using h);cases b<;>simp_all
    have h5:=h4 _ _ h2;rw[Va];omega
   have known:∀i oi,ops[i]?=some oi->(∀e∈oi.after,Region.binds .any e=true->listed.getD e.on false=true)->∀k,waits ops i k=true->listed.getD k false=true:=by intro i oi hoi rO k hk;simp only[waits,hoi,pq,nW]at hk;obtain⟨e,he,hb⟩:=Jv.1 hk;simp only[rq,xN]at hb;rw[<-hb.2];exact rO e he hb.1
   have Fj:∀i,i<ops.size->listed.getD i true=false->listed.getD i false=false:=fun i hi nE=>by
    have :i<listed.size:=by omega
    simp only[Array.getD,this,AB]at nE ⊢;exact nE
   by_cases hA:∃p,p<L/\ps p=true/\p∈Region.ready .any ops listed
   ·obtain⟨p,Bt,hps,hrd⟩:=hA;obtain⟨nE,oi,hoi,rO⟩:=mem_ready.1 hrd;have hpl:p<ops.size:=(wB.1 hoi).1;have hif:=Fj p hpl nE;have hw1:=known p oi hoi rO;obtain⟨v,hy,hpo⟩:=yJ p oi Bt hps hoi f a w hw (fun k hk=>(hc.new k (hc.front k (hw1 k hk)) (hw1 k hk)).1) (fun k s hk hs=>(hc.new k (hc.front k (hw1 k hk)) (hw1 k hk)).2 s hs) (fun s hs=>hc.old s fun k hk hks=>by unfold rP at hs;simp only[qo,ko,Gh]at hs;exact hs k (hc.front k hk) hks);have hd':bF ops p=oi.dst:=by simp[bF,hoi]
    refine wpAny_first hoi (al0 hsel) (fun c a w h=>by unfold Act.put at h;split at h<;>first|exact hQ c a _ w h|exact h) fuel listed a w (fun j oj hoj hjp hjun hnw=>?_) hrd hy ?_
    ·have h1:=qo.1 hap p (ko.2 Bt);simp only[hps,acs,acu,qo,ko]at h1;have h2:=h1 j (wB.1 hoj).1;simp only[Gf,xN]at h2;rcases h2 with((h2|h2)|h2)|h2;·exact absurd h2 hjp
     ·exfalso;simp only[waits,hoj,pq,nW]at h2;obtain⟨e,he,hb⟩:=Jv.1 h2;simp only[rq,xN]at hb;exact hnw e he hb.1 hb.2
     ·exfalso;have h3:=hw1 j h2;have h4:=Fj j (wB.1 hoj).1 hjun;rw[h4]at h3;cases h3
     ·rw[hoi,hoj]at h2;exact h2
    ·rw[<-hd'];exact ih (fun k=>if k=p then v else f k) _ _ _ (by simpa using hls) (count p Bt hif) hw (step p v w Bt hif hpo (fun k u h=>h)) (fun h1 k hk h2=>by
      have n2:ia≠p:=fun e=>by rw[<-e,hia.2]at hps;cases hps
      rw[ry false (tO n2)]at h1;simp only[ag n2];by_cases e:k=p;·subst e;exact hpD _ _ _ _ hps
      ·rw[ry false (tO e)]at h2;simp only[ag e];exact hP h1 k hk h2) (hC.set hw1)
   refine⟨fun hr=>?_,fun i hi=>?_⟩;·exfalso;refine hall fun k hk=>?_;exact Qf hbk listed hls hr k (by omega)
   obtain⟨nE,oi,hoi,rO⟩:=mem_ready.1 hi;have hil:i<ops.size:=(wB.1 hoi).1;have hw1:=known i oi hoi rO;have hif:=Fj i hil nE;have lZ:i<L:=by
    refine F6 fun hge=>hall ?_;have key:∀n k,L - k=n->k<L->listed.getD k false=true:=by
     intro n;induction n using Nat.strongRecOn with
      |_ n ihn=>
       intro k hn hk;rcases Kj i hil with h1|h1;·exact absurd h1 hge
       ·rcases h1 k hk with h2|⟨j,hj,h2⟩;·exact hw1 k h2
        ·obtain⟨h3,h4⟩:=h2;exact hC j k (ihn (L - j) (by omega) j rfl hj) h4
    exact fun k hk=>key _ k rfl hk
   have XP:ps i=false:=by cases hps:ps i with|false=>rfl|true=>exact absurd ⟨i,lZ,hps,hi⟩ hA
   refine PN ?_ (hop i lZ XP f a w hw (fun k hk=>(hc.new k (hc.front k (hw1 k hk)) (hw1 k hk)).1) (fun k s hk hs=>(hc.new k (hc.front k (hw1 k hk)) (hw1 k hk)).2 s hs) (fun s hs=>hc.old s fun k hk hks=>by unfold rP at hs;simp only[qo,ko,Gh]at hs;exact hs k (hc.front k hk) hks));rintro a' w'⟨v,rfl,hp,hr,hD1,hD2⟩;exact ih (fun k=>if k=i then v else f k) _ _ _ (by simpa using hls) (count i lZ hif) (hinv _ _ hw hr) (step i v w' lZ hif hp (fun k u h=>hst k u _ _ h hr)) (fun h1 k hk h2=>by
    by_cases e1:ia=i;·have n2:k≠i:=fun e=>hk (e.trans e1.symm);rw[ry false (tO n2)]at h2;simp only[ai e1,ag n2];exact hD2 e1.symm k _ (hc.new k (hc.front k h2) h2).1
    ·rw[ry false (tO e1)]at h1;by_cases e2:k=i;·simp only[ai e2,ag e1];rw[e2];exact hD1 (tO e1) _ (hc.new ia hia.1 h1).1 (fun k' hw hk'=>hP h1 k' hk' (hw1 k' hw))
     ·rw[ry false (tO e2)]at h2;simp only[ag e1,ag e2];exact aaK _ _ _ _ _ (hP h1 k hk h2) hr) (hC.set hw1)
theorem aaL{id:Nat}(L:Nat)(ps:Nat->Bool)(ia:Nat){D:Nat->Value->Value->World->Prop}{a0:Act}{w0:World}{Inv:World->Prop}{Po:Nat->Value->World->Prop}{Rl:World->World->Prop}(hm:P.follows .mixedOrders=true)(hia:ia<L/\ps ia=false)(hpD:∀p v u w,ps p=true->D p v u w)(aaK:∀i v u w w',D i v u w->Rl w w'->D i v u w')(ht:TA ops L=true)(hap:Io ops L ps=true)(hQ:∀c(a:Act)t w,Q (.panic c) ⟨t,a.defers⟩ w->Q (.panic c) a w)(hd:CE ops L a0.tmps.size=true)(hbk:uZ ops=true)(h0:Inv w0.drew)(hst:∀i v w w',Po i v w->Rl w w'->Po i v w')(hinv:∀w w',Inv w->Rl w w'->Inv w')(yJ:∀i o,(ops.toList.take L)[i]?=some o->ps i=true->∀(f:Nat->Value)(a:Act)(w:World),Inv w->(∀k,waits ops i k=true->Po k (f k) w)->(∀k s,waits ops i k=true->bF ops k=some s->a.tmps[s]?=some (f k))->(∀s,rP ops L s=true->a.tmps[s]?=a0.tmps[s]?)->∃v,Yields P ops o v a/\Po i v w)(hop:∀i o,(ops.toList.take L)[i]?=some o->ps i=false->∀(f:Nat->Value)(a:Act)(w:World),Inv w->(∀k,waits ops i k=true->Po k (f k) w)->(∀k s,waits ops i k=true->bF ops k=some s->a.tmps[s]?=some (f k))->(∀s,rP ops L s=true->a.tmps[s]?=a0.tmps[s]?)->(Region.wanted o (yielded ops a.tmps)=true/\aI P a.eval o w (fun v w'=>Po i v w'/\Rl w w'/\(i≠ia->∀u,Po ia u w->(∀k,waits ops i k=true->k≠ia->D k (f k) u w)->D i v u w')/\(i=ia->∀k u,Po k u w->D k u v w')))\/(Region.wanted o (yielded ops a.tmps)=false/\Po i undef w/\Rl w w/\i≠ia/\∀u,Po ia u w->D i undef u w))(hend:∀(f:Nat->Value)(w:World),Inv w->(∀i,i<L->Po i (f i) w)->(∀i,i<L->i≠ia->D i (f i) (f ia) w)->wpAny P .any ops Q (ops.size - L) (List.replicate L true++List.replicate (ops.size - L) false).toArray ⟨gY f 0 (ops.toList.take L) a0.tmps,a0.defers⟩ w):(Code.region id ops true).wp P Q a0 w0:=by
 have hno:∀k,(Array.replicate ops.size false).getD k false=false:=fun k=>by simp only[D9,abX];split<;>rfl
 have hL:L<=ops.size:=by have ht2:=ht;unfold TA at ht2;simp only[rq,Ed]at ht2;exact ht2.1
 refine Vp hm (auR hia hpD aaK ht hap hQ hd hst hinv (fun i o hi hps ho f a w h1 h2 h3 h4=>yJ i o (by rw[qj hi,mr];exact ho) hps f a w h1 h2 h3 h4) (fun i hi hps f a w h1 h2 h3 h4=>?_) hend hbk ops.size (fun _=>undef) (Array.replicate ops.size false) a0 w0.drew (by simp) ?_ h0 ⟨rfl,rfl,fun _ _=>rfl,fun k _ hk=>?_,fun k hk=>?_⟩ (fun h1 _ _ _=>by rw[hno]at h1;cases h1) (fun m k h1 _=>by rw[hno]at h1;cases h1))
 ·have hil:i<ops.size:=by omega
  exact Qg (pg hil) ((hop i _ (by rw[qj hi,mr,pg hil]) hps f a w h1 h2 h3 h4).imp (fun h=>h) (fun h=>⟨h.1,h.2.1,h.2.2.1,fun _ u hu _=>h.2.2.2.2 u hu,fun e=>absurd e h.2.2.2.1⟩))
 ·simp
 ·rw[hno]at hk;cases hk
 ·rw[hno]at hk;cases hk
end
def pairT(A:Nat->Prop)(w:World)(p:Tm×Tm)(vs:List Value):Prop:=∃us FU,vs=us++FU/\Tm.rep A w p.1 us/\Tm.rep A w p.2 FU
theorem BR:iq pairT:=by
 refine⟨fun A w w' p vs h hk=>?_,fun A A' w p vs h hA=>?_,fun A w p vs h=>?_⟩;·obtain⟨us,FU,e,h1,h2⟩:=h;exact⟨us,FU,e,Tm.aj.1 _ _ _ _ _ h1 hk,Tm.aj.1 _ _ _ _ _ h2 hk⟩
 ·obtain⟨us,FU,e,h1,h2⟩:=h;exact⟨us,FU,e,Tm.aj.2.1 _ _ _ _ _ h1 hA,Tm.aj.2.1 _ _ _ _ _ h2 hA⟩
 ·obtain⟨us,FU,rfl,h1,h2⟩:=h;intro u hu;rcases fE.1 hu with hu|hu;·exact Tm.aj.2.2 _ _ _ _ h1 u hu
  ·exact Tm.aj.2.2 _ _ _ _ h2 u hu
theorem auT:nZ Tryz.prog 194 193 8 112:= .mk' (z:= .agg #[.int .i64 0,.int .i64 0,.string .empty,.slice none 0 0,.int .i64 0,.int .i64 0,.string .empty,.slice none 0 0]) Tryz.underlying194 (by kernel_rfl) rfl (by omega) (by omega)
def aji(A:Nat->Prop)(w:World)(u:US)(e:Ending)(w':World):Prop:=∃ev,e= .returned (.tuple #[ev,.bool u.ok,.int .i64 u.work])/\Below w.heap.size w w'/\gz (fun b=>A b\/w.heap.size<=b) w' u.env.reverse ev
def vZ(A:Nat->Prop)(t:Tm):Value->World->Prop:=fun v w=>∃us,v= .agg us.toArray/\Tm.rep A w t us
theorem aaM(A:Nat->Prop)(t:Tm):rT (vZ A t):=fun v w w'⟨us,e,h⟩hb=>⟨us,e,Tm.aj.1 _ _ _ _ _ h (af.ob hb)⟩
def nV(base:Nat):Value->World->Prop:=fun v w=>∃g,v= .pointer (some ⟨g,0,none⟩)/\base<=g/\w.heap[g]?=some (.cells #[.int .i64 0,.int .i64 0,.string .empty,.slice none 0 0] 34 (0,0))
theorem aaN(base:Nat):rT (nV base):=fun v w w'⟨g,e,h1,h2⟩hb=>⟨g,e,h1,aL h2 hb⟩
theorem TC{w:World}{g:Nat}{E:TypeId}{v0 v1 v2 v3 v4 v5 v6 v7:Value}(h:w.heap[g]?=some (.cells #[v0,v1,v2,v3,v4,v5,v6,v7] E (0,0))):w.cell? ⟨g,0,none⟩=some v0/\w.cell? ⟨g,1,none⟩=some v1/\w.cell? ⟨g,2,none⟩=some v2/\w.cell? ⟨g,3,none⟩=some v3/\w.cell? ⟨g,4,none⟩=some v4/\w.cell? ⟨g,5,none⟩=some v5/\w.cell? ⟨g,6,none⟩=some v6/\w.cell? ⟨g,7,none⟩=some v7/\∀o,w.frozen? ⟨g,o,none⟩=false:=⟨(bW h 0).trans rfl,(bW h 1).trans rfl,(bW h 2).trans rfl,(bW h 3).trans rfl,(bW h 4).trans rfl,(bW h 5).trans rfl,(bW h 6).trans rfl,(bW h 7).trans rfl,fun o=>by simp[World.frozen?,h]⟩
theorem ajj{α:Type}{R:(Nat->Prop)->World->α->List Value->Prop}(hR:iq R){A:Nat->Prop}{w:World}{x:α}{us:List Value}{size:Nat}{E:TypeId}(hx:R (fun b=>A b/\b≠w.heap.size) w x us)(hl:us.length=size)(base:Nat)(hb:base<=w.heap.size):aG (w.alloc (.cells us.toArray E)) base E size R A [x] (.slice (some ⟨w.heap.size,0,none⟩) 1 1):=by refine⟨[us],rfl,⟨by simp[hl],.inr ⟨w.heap.size,1,us.toArray,rfl,by omega,hb,acp _ _,by simp,by simp[maxLen],by simp[hl],by simp[<-hl]⟩⟩,fun i y vs hy hv=>?_⟩;cases i with|zero=>simp only[uO,dm]at hy hv;subst hy hv;exact⟨hl,hR.1 _ _ _ _ _ (hR.2.1 _ _ _ _ _ hx (fun b hb hb2=>⟨hb2.1,by simp[ownB];exact fun e=>hb2.2 e.symm⟩)) (af.alloc _ _ _)⟩|succ i=>simp at hy
theorem Tm.TD{A:Nat->Prop}{w:World}{t:Tm}{a:Option Addr}{cap:Nat}(h:Tm.rep A w t [.int .i64 t.kind,.int .i64 t.n,.string t.s,.slice a t.args.length cap]):au 4 Tm.rep A w t.args (.slice a t.args.length cap):=by obtain⟨_,_,e, -, -, -, -, -, -,h8⟩:=Tm.dw h;simp only[tL,dL,lF]at e;rw[e];exact h8
theorem auU(A:Nat->Prop)(w:World)(n:Int)(hn:aA n):Tm.rep A w (fw n) [.int .i64 0,.int .i64 n,.string .empty,.slice none 0 0]:=Ht A w 0 n .empty (by unfold aA;omega) hn (by decide)
theorem ajk(k:Nat)(a b:Tm)(r:List (Tm×Tm))(E:Env):bM (k+1) ((a,b)::r) E=if(ax E a).kind=0/\(ax E b).kind=0 then(if(ax E a).n=(ax E b).n then bM k r E else bM k r (E++[(max (ax E a).n (ax E b).n,fw (min (ax E a).n (ax E b).n))]))else if(ax E a).kind=0\/(ax E b).kind=0 then(if(fq E (if(ax E b).kind=0 then(ax E b).n else(ax E a).n) k [if(ax E b).kind=0 then ax E a else ax E b]).1=true\/(fq E (if(ax E b).kind=0 then(ax E b).n else(ax E a).n) k [if(ax E b).kind=0 then ax E a else ax E b]).2<0 then⟨false,E,(fq E (if(ax E b).kind=0 then(ax E b).n else(ax E a).n) k [if(ax E b).kind=0 then ax E a else ax E b]).2⟩else bM (min k (fq E (if(ax E b).kind=0 then(ax E b).n else(ax E a).n) k [if(ax E b).kind=0 then ax E a else ax E b]).2.toNat) r (E++[(if(ax E b).kind=0 then(ax E b).n else(ax E a).n,if(ax E b).kind=0 then ax E a else ax E b)]))else if ¬((ax E a).kind=(ax E b).kind/\(ax E a).n=(ax E b).n/\(ax E a).s=(ax E b).s/\(ax E a).args.length=(ax E b).args.length)then⟨false,E,k⟩else bM k ((ax E a).args.zip (ax E b).args++r) E:=by rw[bM]
def BS:Code->List Code| .loop c=>c::BS c| .seq a b=>BS a++BS b| .block _ c=>BS c| .scope c=>BS c| .cond _ a b=>BS a++BS b|_=>[]
noncomputable def auV:Code:=((Tryz.f115.body.map BS).bind (·[1]?)).getD .skip
noncomputable def auW:Code:=((Tryz.f115.body.map BS).bind (·[3]?)).getD .skip
