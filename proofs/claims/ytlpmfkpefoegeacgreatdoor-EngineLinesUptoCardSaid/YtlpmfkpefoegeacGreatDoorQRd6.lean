import Derived.Test.YtlpmfkpefoegeacGreatDoorQRd4
import Derived.Test.YtlpmfkpefoegeacGreatDoorQTwo
namespace Go.Proofs.YtlpmfkpefoegeacGreatDoor
set_option maxRecDepth 99999
set_option maxHeartbeats 0
set_option linter.all false
open Go.RowKit
def VG(w:World)(vv lC:Value):Prop:=∀b,ownB lC=some b->ownB vv=some b\/w.heap.size<=b
section
variable {B base g : Nat} {vv lC : Value} {r r' : Rd} {w w' : World}
theorem bW.keeps(h:bW B base g vv r w)(hk:ag (fun b=>b<B\/aU g vv b) w w'):bW B base g vv r w':=⟨dE h.box hk (.inr (.inl rfl)),h.vars.kept fun k e=>hk.block k (h.vars.lt k e).2 (.inr (.inr e)),h.tab.keeps (hk.mono fun b _ hb=> .inl hb),⟨h.bg.1,h.bg.2.1,dM h.bg.2.2 hk.size⟩,h.len⟩
theorem bW.CZ(h:bW B base g vv r w):∀b,aU g vv b->b<w.heap.size:=by
 rintro b(rfl|e);·exact h.lt.1
 ·exact(h.vars.lt b e).2
theorem bW.other(h:bW B base g vv r w){b o:Nat}{u:Value}(hb:¬aU g vv b)(hB:B<=b):bW B base g vv r (w.setCell ⟨b,o,none⟩ u):=h.keeps (ag.setCell _ _ _ _ (fun e=>by
 rcases e with e|e;·simp only at e;omega
 ·exact hb e))
theorem VG.refl(w:World)(vv:Value):VG w vv vv:=fun b h=> .inl h
theorem VG.trans{v2:Value}(h:VG w vv lC)(h':VG w' lC v2)(hs:w.heap.size<=w'.heap.size):VG w vv v2:=fun b hb=>by
 rcases h' b hb with e|e;·exact h b e
 ·exact .inr (dM hs e)
theorem VG.rm(h:VG w vv lC):∀b,aU g lC b->aU g vv b\/w.heap.size<=b:=by
 rintro b(e|e);·exact .inl (.inl e)
 ·exact(h b e).imp .inr id
theorem bW.ai8{nm:Str}{v2:Value}{w2:World}{cells:Array Value}(h:bW B base g vv r w)(hroom:r.s.length+r.vars.length+1<=2000)(hown:YT w2 base (r.vars++[nm]) v2)(hg:iX (w.alloc (.cells cells 9)) w2 vv v2):bW B base g v2 {r with vars:=r.vars++[nm]} (w2.setCell ⟨g,1,none⟩ v2)/\Ch (aU g vv) w (w2.setCell ⟨g,1,none⟩ v2)/\VG w vv v2:=by
 have hap:=h.apart;have hlt:=h.lt;have hog:VG w vv v2:=fun b hb=>by
  rcases hg.block with e|e;·exact .inl (e▸hb)
  ·have :=e b hb;simp only[bF]at this;exact .inr (by omega)
 have hch:Ch (aU g vv) w (w2.setCell ⟨g,1,none⟩ v2):=(hg.ch ((Ch.refl _ _).alloc _) (fun b hb=> .inl (.inr hb))).setCell (p:=⟨g,1,none⟩) (.inl (.inl rfl)) _;have hB2:w2.heap[g]?=_:=(hg.grown.block g (by simp;omega) (fun e=>hap e.symm)).trans (aX h.box _);refine⟨⟨(bI hB2 1 _).trans rfl,hown.kept fun k hk=>bC _ _ _ _ (fun e=>?_),h.tab.keeps (hch.keeps fun b hb hA e=>?_),⟨h.bg.1,h.bg.2.1,dM h.bg.2.2 hch.size⟩,?_⟩,hch,hog⟩
 ·simp only at e;subst e;rcases hog _ hk with e|e;·exact hap e
  ·omega
 ·rcases e with rfl|e;·have :=h.bg;omega
  ·have :=(h.vars.lt b e).1;have :=h.bg;omega
 ·simp only[bA,dW];omega
end
theorem ai9{l:List Str}{k:Nat}{x:Str}(hk:k<l.length)(hx:l[k]=x)(hn:∀i(hi:i<k),l[i]'(by omega)≠x):x∈l/\l.idxOf x=k:=by refine⟨hx▸bZ hk,?_⟩;induction l generalizing k with|nil=>simp at hk|cons y l ih=>cases k with|zero=>simp only[yx]at hx;subst hx;simp|succ k=>have h0:=hn 0 (by omega);simp only[yx]at h0;rw[agF,show(y==x)=false from tY.2 h0];simp only[cond_false,Nat.add_right_cancel_iff];exact ih (by simpa using hk) (by simpa using hx) (fun i hi=>by have :=hn (i+1) (by omega);simpa using this)
theorem aja{w:World}{g:Nat}{E:TypeId}{v0 v1 v2:Value}(h:w.heap[g]?=some (.cells #[v0,v1,v2] E (0,0))):w.cell? ⟨g,0,none⟩=some v0/\w.cell? ⟨g,1,none⟩=some v1/\w.cell? ⟨g,2,none⟩=some v2/\∀o,w.frozen? ⟨g,o,none⟩=false:=⟨(dw h 0).trans rfl,(dw h 1).trans rfl,(dw h 2).trans rfl,fun o=>by simp[World.frozen?,h]⟩
def rY(B base g:Nat)(vv:Value)(x:Tm×Rd)(w:World)(e:Ending)(w':World):Prop:=∃us lC,e= .returned (.agg us.toArray)/\bW B base g lC x.2 w'/\Ch (aU g vv) w w'/\VG w vv lC/\Tm.rep (fun b=>w.heap.size<=b/\¬aU g lC b) w' x.1 us
theorem ajb:gz (vF qF QS):=yI QT
section
variable {B base g : Nat} {vv : Value} {r : Rd} {w : World}
def C8(r:Rd)(nm:Str):Tm×Rd:=(.mk 0 (CB r.vars nm).1 ⟨#[]⟩ [],{r with vars:=(CB r.vars nm).2})
theorem ajc(nm:Str)(hnm:nm.length<=2000)(h:bW B base g vv r w)(hroom:r.s.length+r.vars.length+1<=2000):Calls Tryz.prog 87 #[.pointer (some ⟨g,0,none⟩),.string (bs nm)] w (rY B base g vv (C8 r nm) w):=by
 have HU:=zh h;have HR:=zh hroom;have rO:=zh hnm;obtain⟨b0,b1,b2,bf⟩:=h.cells;have hgl:=h.lt.1;obtain⟨va,vc,hv,hvl,mM⟩:=h.vars.val;have hlen:r.vars.length<=2000:=by omega
 subst hv;unfold maxLen at mM;clear h hroom hnm;go_enter Tryz.func87,Tryz.ntmps87;go_wp2_with fail;obtain⟨W1,hW1⟩:∃W1,W1=w.alloc (.cells #[.int .i64 0,.int .i64 0,.string ⟨#[]⟩,.slice none 0 0] 34):=⟨_,rfl⟩;have HB1:=zh (show Below w.heap.size w W1 by rw[hW1];exact(zB _ _).alloc (zL _) _);have bR:=zh (show W1.heap[w.heap.size]?=some (.cells #[.int .i64 0,.int .i64 0,.string ⟨#[]⟩,.slice none 0 0] 34 (0,0))by rw[hW1];exact bV _ _);have HI1:=zh (HU.o.below HB1.o);rw[<-hW1];have HZ1:=zh (show W1.heap.size=w.heap.size+1 by rw[hW1];simp);clear hW1 b0 b1 b2 bf;obtain⟨b0,b1,b2,bf⟩:=HI1.o.cells;have ZR:=HI1.o.lt.1;have hxl:=aD bR.o;obtain⟨x0,x1,x2,x3,xf⟩:=aW bR.o;have hcs:=dz;go_loopw[12](fun i wr=>∃k:Nat,k<=r.vars.length/\i= .int .i64 (k:Int)/\(∀i(hi:i<r.vars.length),i<k->r.vars[i]≠nm)/\wr=W1)(fun i _=>r.vars.length - (intOf i).toNat);case atStart=>exact⟨0,dD _,rfl,fun i hi h=>by omega,rfl⟩
 case round=>
  obtain⟨k,hk,rfl,hno,rfl⟩:=hrel;have lJ:=zh hno;have hk0:(0:Int)<=(k:Int):=zN _;clear hno;by_cases hlt:k<r.vars.length
  ·have hlt':(k:Int)<(r.vars.length:Int):=by omega
   obtain⟨gb,cap,yY, -, -, -,bX,hfz,lK,hgb,hcell⟩:=af.at vK HI1.o.vars (by omega);simp only[eX,fH]at yY;obtain⟨rfl,rfl⟩:=yY;have hc:=hcell k hlt 0 _ rfl;rw[yF,qz]at hc;clear hcell hfz;by_cases he:r.vars[k]=nm
   ·have hE:((bs r.vars[k]).toList==(bs nm).toList)=true:=by rw[he];simp
    have ZT:=zh (ai9 hlt he (fun i hi=>lJ.o i (by omega) hi));clear he;go_wp2_with fail;refine cK (v:= .agg #[.int .i64 0,.int .i64 (k:Int),.string ⟨#[]⟩,.slice none 0 0]) (by simp[results,Tryz.results87,go_sem,hcs,x0,x1,x2,x3];try rfl) rfl ?_;have hv:C8 r nm=(.mk 0 (k:Int) ⟨#[]⟩ [],r):=by unfold C8 CB;rw[ah ZT.o.1,ZT.o.2]
    rw[hv];have hni:¬aU g (.slice (some ⟨gb,0,none⟩) r.vars.length vc) w.heap.size:=fun e=>by have :=HU.o.CZ _ e;omega
    have hBx:B<=w.heap.size:=by have :=HU.o.bg;omega
    have pQ:au (k:Int):=by unfold au;omega
    exact⟨[_,_,_,_],_,rfl,(((HI1.o.other hni hBx).other hni hBx).other hni hBx).other hni hBx,((((Ch.of_below HB1.o).setCell (p:=⟨w.heap.size,0,none⟩) (.inr (zL _)) _).setCell (p:=⟨w.heap.size,1,none⟩) (.inr (zL _)) _).setCell (p:=⟨w.heap.size,2,none⟩) (.inr (zL _)) _).setCell (p:=⟨w.heap.size,3,none⟩) (.inr (zL _)) _,VG.refl _ _,Tm.gT.2 ⟨by unfold au;omega,pQ,by simp[ByteArray.size],_,rfl,aj.nil ..⟩⟩
   ·have hE:((bs r.vars[k]).toList==(bs nm).toList)=false:=by rw[jE,jE];simpa using he
    have HE:=zh he;clear he;go_wp2_with fail;go_roundw;case rel=>
     exact⟨k+1,by omega,by go_num,fun i hi h=>by
      by_cases hik:i=k;·subst hik;exact HE.o
      ·exact lJ.o i hi (by omega),by first|rfl|trivial⟩
    case measure=>simp[intOf];omega
  ·have hke:k=r.vars.length:=by omega
   subst hke;have y8:=zh HI1.o.apart;have ajd:=zh (show nm∉r.vars from fun hm=>by obtain⟨i,hi,he⟩:=Es hm;exact lJ.o i hi hi he);clear hk hlt lJ;go_wp2_with(at_builtin;go_must(refine iH rfl (.tmp 27) (.tmp 29) 45 rfl base 9 1 16 Iu ajb (A:=fun _=>True) (.slice va r.vars.length vc) r.vars rfl (af.eZ vK HI1.o.vars _) nm [.string (bs nm)] (by rfl) rfl ⟨by have :=rO.o;unfold QS;omega,rfl⟩ ⟨by omega,HI1.o.bg.2.2⟩ ?_);go_must(intro v2 w2 hown az;have hB2:=(az.grown.block g (by simp;omega) (fun e=>y8.o e.symm)).trans (aX HI1.o.box _);have hX2:=(az.grown.block w.heap.size (by simp;omega) (fun e=>by have :=(HI1.o.vars.lt _ e.symm).1;have :=HU.o.bg;have :=HU.o.lt;have :=(HU.o.vars.lt _ e.symm).2;omega)).trans (aX bR.o _);obtain⟨bN,bO,hv2,qK,qL⟩:=aI.j5 hown;rw[show(r.vars++[nm]).length=r.vars.length+1 by simp]at hv2;subst hv2;have bE:=zh hown;have HG2:=zh az;obtain⟨k0,k1,k2,kf⟩:=aja hB2;obtain⟨y0,y1,y2,y3,yf⟩:=aW hX2;have ZU:=aD hB2;have ZV:=aD hX2;clear hown az hB2 hX2));refine cK (v:= .agg #[.int .i64 0,.int .i64 (r.vars.length:Int),.string ⟨#[]⟩,.slice none 0 0]) (by simp[results,Tryz.results87,go_sem,hcs,y0,y1,y2,y3,k1,ZU,ZV,show ¬g=w.heap.size by omega];try omega) rfl ?_;have hv:C8 r nm=(.mk 0 (r.vars.length:Int) ⟨#[]⟩ [],{r with vars:=r.vars++[nm]}):=by unfold C8 CB;rw[ae ajd.o]
   rw[hv];obtain⟨p1,p2,p3⟩:=HI1.o.ai8 HR.o (af.eB bE.o) HG2.o;have hni:¬aU g (.slice bN (r.vars.length+1) bO) w.heap.size:=fun e=>by
    rcases e with e|e;·have :=HU.o.lt.1;omega
    ·rcases p3 _ e with e|e;·have :=(HU.o.vars.lt _ e).2;omega
     ·have :=HZ1.o;omega
   have hBx:B<=w.heap.size:=by have :=HU.o.bg;omega
   have pQ:au (r.vars.length:Int):=by unfold au;omega
   have hch:Ch (aU g (.slice va r.vars.length vc)) w _:=(Ch.of_below HB1.o).trans p2 (fun b hb=> .inl hb);exact⟨[_,_,_,_],_,rfl,(((p1.other hni hBx).other hni hBx).other hni hBx).other hni hBx,(((hch.setCell (p:=⟨w.heap.size,0,none⟩) (.inr (zL _)) _).setCell (p:=⟨w.heap.size,1,none⟩) (.inr (zL _)) _).setCell (p:=⟨w.heap.size,2,none⟩) (.inr (zL _)) _).setCell (p:=⟨w.heap.size,3,none⟩) (.inr (zL _)) _,fun b hb=>(p3 b hb).imp id (fun e=>by have :=HZ1.o;omega),Tm.gT.2 ⟨by unfold au;omega,pQ,by simp[ByteArray.size],_,rfl,aj.nil ..⟩⟩
end
abbrev y9:Obj:= .cells #[.int .i64 0,.int .i64 0,.string ⟨#[]⟩,.slice none 0 0] 34
section
variable {B base g : Nat} {vv v1 : Value} {r r1 r2 : Rd} {w w1 w2 : World}
theorem Bg(h:bW B base g vv r w)(hs:gG B base g vv r1 (w.alloc y9) w1):∃v1,bW B base g v1 r1 w1/\Ch (aU g vv) w w1/\VG w vv v1/\w1.heap[w.heap.size]?=some (.cells #[.int .i64 0,.int .i64 0,.string ⟨#[]⟩,.slice none 0 0] 34 (0,0))/\w.heap.size<w1.heap.size/\¬aU g v1 w.heap.size:=by
 obtain⟨v1,h1,h2,h3⟩:=hs;have hn:¬aU g vv w.heap.size:=fun e=>by have :=h.CZ _ e;omega
 refine⟨v1,h1,((Ch.refl _ _).alloc _).trans h2 (fun b hb=> .inl hb),fun b hb=>(h3 b hb).imp id (fun e=>by simp only[bF]at e;omega),(h2.block _ (by simp) hn).trans (bV _ _),by have :=h2.size;simp only[bF]at this;omega,fun e=>?_⟩;rcases e with e|e;·have :=h.lt.1;omega
 ·rcases h3 _ e with e|e;·have :=(h.vars.lt _ e).2;omega
  ·simp only[bF]at e;omega
theorem nJ{x:Nat}{o:Obj}(hs:gG B base g v1 r2 w1 w2)(hx:w1.heap[x]?=some o)(hn:¬aU g v1 x):∃v2,bW B base g v2 r2 w2/\Ch (aU g v1) w1 w2/\VG w1 v1 v2/\w2.heap[x]?=some o/\¬aU g v2 x:=by
 obtain⟨v2,h1,h2,h3⟩:=hs;have hl:=aD hx;refine⟨v2,h1,h2,h3,(h2.block x hl hn).trans hx,fun e=>?_⟩;rcases VG.rm h3 x e with e|e;·exact hn e
 ·omega
theorem kS{v2:Value}(hc1:Ch (aU g vv) w w1)(hv1:VG w vv v1)(hc2:Ch (aU g v1) w1 w2)(hv2:VG w1 v1 v2):Ch (aU g vv) w w2/\VG w vv v2:=⟨hc1.trans hc2 (VG.rm hv1),hv1.trans hv2 hc1.size⟩
theorem uA{t:Tm}{a0 a1 a2 a3:Value}{v2:Value}(h:bW B base g v2 r2 w2)(hch:Ch (aU g vv) w w2)(ZW:VG w vv v2)(hn:¬aU g v2 w.heap.size)(hB:B<=w.heap.size)(hrep:Tm.rep (fun b=>(w.heap.size<=b/\¬aU g v2 b)/\b≠w.heap.size) w2 t [a0,a1,a2,a3]):rY B base g vv (t,r2) w (.returned (.agg #[a0,a1,a2,a3])) ((((w2.setCell ⟨w.heap.size,0,none⟩ a0).setCell ⟨w.heap.size,1,none⟩ a1).setCell ⟨w.heap.size,2,none⟩ a2).setCell ⟨w.heap.size,3,none⟩ a3):=by have hk:ag (fun b=>(w.heap.size<=b/\¬aU g v2 b)/\b≠w.heap.size) w2 ((((w2.setCell ⟨w.heap.size,0,none⟩ a0).setCell ⟨w.heap.size,1,none⟩ a1).setCell ⟨w.heap.size,2,none⟩ a2).setCell ⟨w.heap.size,3,none⟩ a3):=(((ag.setCell _ _ _ _ (by simp)).trans (ag.setCell _ _ _ _ (by simp))).trans (ag.setCell _ _ _ _ (by simp))).trans (ag.setCell _ _ _ _ (by simp));exact⟨[a0,a1,a2,a3],v2,rfl,(((h.other hn hB).other hn hB).other hn hB).other hn hB,(((hch.setCell (p:=⟨w.heap.size,0,none⟩) (.inr (zL _)) _).setCell (p:=⟨w.heap.size,1,none⟩) (.inr (zL _)) _).setCell (p:=⟨w.heap.size,2,none⟩) (.inr (zL _)) _).setCell (p:=⟨w.heap.size,3,none⟩) (.inr (zL _)) _,ZW,Tm.aA.2.1 _ _ _ _ _ (Tm.aA.1 _ _ _ _ _ hrep hk) fun b _ hb=>hb.1⟩
theorem zb{A:Nat->Prop}{w:World}{k n:Int}{s:ByteArray}(hk:au k)(hn:au n)(hs:s.size<=1048576):Tm.rep A w (.mk k n s []) [.int .i64 k,.int .i64 n,.string s,.slice none 0 0]:=Tm.gT.2 ⟨hk,hn,hs,_,rfl,aj.nil ..⟩
theorem uB:au 0:=by unfold au;omega
theorem ZX:au 1:=by unfold au;omega
theorem MI:au 2:=by unfold au;omega
theorem ZY:au 3:=by unfold au;omega
theorem aje(d:Int)(hd:24<d)(h:bW B base g vv r w):Calls Tryz.prog 50 #[.pointer (some ⟨g,0,none⟩),.int .i64 d] w (rY B base g vv (uh,r.space.kill) w):=by
 have HU:=zh h;have dV:=zh (qN (h.below ((zB _ _).alloc (zL _) y9)));have hBx:B<=w.heap.size:=by have :=h.bg;omega
 have hcs:=dz;have f1:decide (24<d)=true:=by simpa using hd
 clear hd h;go_enter Tryz.func50,Tryz.ntmps50;go_wp2_with fail;refine dV.o.mono ?_;rintro e w1⟨rfl,hst⟩;obtain⟨v1,h1,c1,g1,x1,hz1,n1⟩:=Bg HU.o hst;have HI:=zh h1;have bD:=zh c1;have HV:=zh g1;have HX:=zh x1;have HN:=zh n1;obtain⟨b0,b1,b2,bf⟩:=h1.cells;have hgx:¬g=w.heap.size:=fun e=>n1 (.inl e.symm);obtain⟨x0,x1,x2,x3,xf⟩:=aW x1;have e0:r.space.s=bQ r.s:=rfl;have e2:r.space.bad=r.bad:=rfl;rw[e0]at b0;rw[e2]at b2;clear hst h1 c1 g1 n1 e0 e2;go_wp2_with fail;refine cK (v:= .agg #[.int .i64 0,.int .i64 0,.string ⟨#[]⟩,.slice none 0 0]) (by simp[results,Tryz.results50,go_sem,hcs,x0,x1,x2,x3,hgx];try rfl) rfl ?_;obtain⟨v2,k1,k2,k3,k4,k5⟩:=nJ (HI.o.xz true) HX.o HN.o;obtain⟨k6,k7⟩:=kS bD.o HV.o k2 k3;exact uA k1 k6 k7 k5 hBx (zb uB uB (by simp[ByteArray.size]))
theorem ajf(d:Int)(hd:d<=24)(hb:r.bad=true)(h:bW B base g vv r w):Calls Tryz.prog 50 #[.pointer (some ⟨g,0,none⟩),.int .i64 d] w (rY B base g vv (uh,r.space.kill) w):=by
 have HU:=zh h;have dV:=zh (qN (h.below ((zB _ _).alloc (zL _) y9)));have hBx:B<=w.heap.size:=by have :=h.bg;omega
 have hcs:=dz;have f1:decide (24<d)=false:=by simp;omega
 have HB:=zh hb;clear hd hb h;go_enter Tryz.func50,Tryz.ntmps50;go_wp2_with fail;refine dV.o.mono ?_;rintro e w1⟨rfl,hst⟩;obtain⟨v1,h1,c1,g1,x1,hz1,n1⟩:=Bg HU.o hst;have HI:=zh h1;have bD:=zh c1;have HV:=zh g1;have HX:=zh x1;have HN:=zh n1;obtain⟨b0,b1,b2,bf⟩:=h1.cells;have hgx:¬g=w.heap.size:=fun e=>n1 (.inl e.symm);obtain⟨x0,x1,x2,x3,xf⟩:=aW x1;have e0:r.space.s=bQ r.s:=rfl;have e2:r.space.bad=r.bad:=rfl;rw[e0]at b0;rw[e2]at b2;clear hst h1 c1 g1 n1 e0 e2;rw[HB.o]at b2;go_wp2_with fail;refine cK (v:= .agg #[.int .i64 0,.int .i64 0,.string ⟨#[]⟩,.slice none 0 0]) (by simp[results,Tryz.results50,go_sem,hcs,x0,x1,x2,x3,hgx];try rfl) rfl ?_;obtain⟨v2,k1,k2,k3,k4,k5⟩:=nJ (HI.o.xz true) HX.o HN.o;obtain⟨k6,k7⟩:=kS bD.o HV.o k2 k3;exact uA k1 k6 k7 k5 hBx (zb uB uB (by simp[ByteArray.size]))
theorem ajg(d:Int)(hd:d<=24)(hb:r.bad=false)(hs:bQ r.s=[])(h:bW B base g vv r w):Calls Tryz.prog 50 #[.pointer (some ⟨g,0,none⟩),.int .i64 d] w (rY B base g vv (uh,r.space.kill) w):=by
 have HU:=zh h;have dV:=zh (qN (h.below ((zB _ _).alloc (zL _) y9)));have hBx:B<=w.heap.size:=by have :=h.bg;omega
 have hcs:=dz;have f1:decide (24<d)=false:=by simp;omega
 have HB:=zh hb;have HS:=zh hs;obtain⟨t1,t2⟩:=MC;clear hd hb hs h;go_enter Tryz.func50,Tryz.ntmps50;go_wp2_with fail;refine dV.o.mono ?_;rintro e w1⟨rfl,hst⟩;obtain⟨v1,h1,c1,g1,x1,hz1,n1⟩:=Bg HU.o hst;have HI:=zh h1;have bD:=zh c1;have HV:=zh g1;have HX:=zh x1;have HN:=zh n1;obtain⟨b0,b1,b2,bf⟩:=h1.cells;have hgx:¬g=w.heap.size:=fun e=>n1 (.inl e.symm);obtain⟨x0,x1,x2,x3,xf⟩:=aW x1;have e0:r.space.s=bQ r.s:=rfl;have e2:r.space.bad=r.bad:=rfl;rw[e0]at b0;rw[e2]at b2;clear hst h1 c1 g1 n1 e0 e2;rw[HB.o]at b2;rw[HS.o]at b0;go_wp2_with fail;refine cK (v:= .agg #[.int .i64 0,.int .i64 0,.string ⟨#[]⟩,.slice none 0 0]) (by simp[results,Tryz.results50,go_sem,hcs,x0,x1,x2,x3,hgx];try rfl) rfl ?_;obtain⟨v2,k1,k2,k3,k4,k5⟩:=nJ (HI.o.xz true) HX.o HN.o;obtain⟨k6,k7⟩:=kS bD.o HV.o k2 k3;exact uA k1 k6 k7 k5 hBx (zb uB uB (by simp[ByteArray.size]))
theorem ajh(d:Int)(hd:d<=24)(c:UInt8)(rest:Str)(hb:r.bad=false)(hs:bQ r.s=c::rest)(hc:65<=(c.toNat:Int)/\(c.toNat:Int)<=90)(h:bW B base g vv r w):Calls Tryz.prog 50 #[.pointer (some ⟨g,0,none⟩),.int .i64 d] w (rY B base g vv (C8 {r with s:=(c::rest).drop (dn (c::rest))} ((c::rest).take (dn (c::rest)))) w):=by
 have HU:=zh h;have dV:=zh (qN (h.below ((zB _ _).alloc (zL _) y9)));have hBx:B<=w.heap.size:=by have :=h.bg;omega
 have hcs:=dz;have f1:decide (24<d)=false:=by simp;omega
 have HB:=zh hb;have HS:=zh hs;obtain⟨S,hS⟩:∃S,S=bs (c::rest):=⟨_,rfl⟩;have lH:=zh hS;have t1:S.toList.isEmpty=false:=by rw[hS,jE];rfl
 have t2:¬S.toList=[]:=by rw[hS,jE];simp
 have t3:0<S.size:=by rw[hS,dY];simp
 have hg0:S[0]=c:=by subst hS;exact Fb c rest t3
 obtain⟨hc1,hc2⟩:=hc;have f2:decide ((65:Int)<=(S[0].toNat:Int))=true:=by rw[hg0];exact kJ (by omega)
 have f3:decide ((S[0].toNat:Int)<=(90:Int))=true:=by rw[hg0];exact kJ (by omega)
 have hwp:1<=dn (c::rest):=by rw[Qx,ah (by simp[CW.2 ⟨hc1,hc2⟩])];omega
 have HWP:=zh hwp;clear hc1 hc2 hwp hd hb hs hS hg0 h;go_enter Tryz.func50,Tryz.ntmps50;go_wp2_with fail;refine dV.o.mono ?_;rintro e w1⟨rfl,hst⟩;obtain⟨v1,h1,c1,g1,x1,hz1,n1⟩:=Bg HU.o hst;have HI:=zh h1;have bD:=zh c1;have HV:=zh g1;have HX:=zh x1;have HN:=zh n1;obtain⟨b0,b1,b2,bf⟩:=h1.cells;have hgx:¬g=w.heap.size:=fun e=>n1 (.inl e.symm);obtain⟨x0,x1,x2,x3,xf⟩:=aW x1;have e0:r.space.s=bQ r.s:=rfl;have e2:r.space.bad=r.bad:=rfl;rw[e0]at b0;rw[e2]at b2;clear hst h1 c1 g1 n1 e0 e2;rw[HB.o]at b2;rw[HS.o,<-lH.o]at b0;go_wp2_with fail;have HW:=zh (ZL (c::rest) (by rw[<-HS.o];exact Hu r.s) HI.o);refine HW.o.mono ?_;rintro e w2⟨rfl,eU⟩;obtain⟨v2,k1,k2,k3,k4,k5⟩:=nJ eU HX.o HN.o;have HI2:=zh k1;have dK:=zh (kS bD.o HV.o k2 k3);have bG:=zh k4;have nA:=zh k5;have hl:=HI.o.len;have e0:r.space.s=c::rest:=HS.o;rw[e0]at hl;have hwl:=IP (Nat.le_refl (dn (c::rest)));have HL:=zh hl;have HWL:=zh hwl;clear eU k1 k2 k3 k4 k5 hl hwl e0 b0 b1 b2 bf x0 x1 x2 x3 xf HW;go_wp2_with fail;refine(ajc ((c::rest).take (dn (c::rest))) (by have :=HL.o;rw[dS];omega) HI2.o (by have :=HL.o;have :=HWP.o;have :=HWL.o;show((c::rest).drop (dn (c::rest))).length+r.vars.length+1<=2000;rw[Av];have e:r.space.vars.length=r.vars.length:=rfl;omega)).mono ?_;rintro e w3⟨us,v3,rfl,k1,k2,k3,k4⟩;obtain⟨-, -, -,va,rfl,hsl⟩:=Tm.gT.1 k4;obtain⟨ua,uc, -, -,rfl, -⟩:=hsl.at;clear hsl;have HI3:=zh k1;have lG:=zh (kS dK.o.1 dK.o.2 k2 k3);have HR3:=zh k4;have hzz:w.heap.size<w2.heap.size:=aD bG.o;have hx3:=(k2.block _ hzz nA.o).trans bG.o;have Fg:¬aU g v3 w.heap.size:=fun e=>(VG.rm k3 _ e).elim nA.o (fun e=>by omega);have HN3:=zh Fg;obtain⟨x0,x1,x2,x3,xf⟩:=aW hx3;clear k1 k2 k3 k4 hx3 Fg;go_wp2_with fail;refine cK (v:= .agg #[.int .i64 0,.int .i64 (CB r.space.vars ((c::rest).take (dn (c::rest)))).1,.string ⟨#[]⟩,.slice ua 0 uc]) (by simp[results,Tryz.results50,go_sem,hcs,x0,x1,x2,x3,hgx];try rfl) rfl ?_;refine uA HI3.o lG.o.1 lG.o.2 HN3.o hBx ?_;exact Tm.aA.2.1 _ _ _ _ _ HR3.o fun b _ hb=>⟨⟨by omega,hb.2⟩,fun e=>by omega⟩
theorem ajl(d:Int)(hd:d<=24)(c:UInt8)(rest:Str)(hb:r.bad=false)(hs:bQ r.s=c::rest)(hc:(c.toNat:Int)=33)(h:bW B base g vv r w):Calls Tryz.prog 50 #[.pointer (some ⟨g,0,none⟩),.int .i64 d] w (rY B base g vv (.mk 1 0 (bs [33]) [],{r with s:=rest}) w):=by
 have HU:=zh h;have dV:=zh (qN (h.below ((zB _ _).alloc (zL _) y9)));have hBx:B<=w.heap.size:=by have :=h.bg;omega
 have hcs:=dz;have f1:decide (24<d)=false:=by simp;omega
 have HB:=zh hb;have HS:=zh hs;obtain⟨S,hS⟩:∃S,S=bs (c::rest):=⟨_,rfl⟩;have lH:=zh hS;have t1:S.toList.isEmpty=false:=by rw[hS,jE];rfl
 have t2:¬S.toList=[]:=by rw[hS,jE];simp
 have t3:0<S.size:=by rw[hS,dY];simp
 have hg0:S[0]=c:=by subst hS;exact Fb c rest t3
 have f2:decide ((65:Int)<=(S[0].toNat:Int))=false:=by rw[hg0];exact decide_eq_false (by omega)
 have f4:((S[0].toNat:Int)==(33:Int))=true:=by rw[hg0];rw[rG];omega
 clear hc hd hb hs hS hg0 h;go_enter Tryz.func50,Tryz.ntmps50;go_wp2_with fail;refine dV.o.mono ?_;rintro e w1⟨rfl,hst⟩;obtain⟨v1,h1,c1,g1,x1,hz1,n1⟩:=Bg HU.o hst;have HI:=zh h1;have bD:=zh c1;have HV:=zh g1;have HX:=zh x1;have HN:=zh n1;obtain⟨b0,b1,b2,bf⟩:=h1.cells;have hgx:¬g=w.heap.size:=fun e=>n1 (.inl e.symm);obtain⟨x0,x1,x2,x3,xf⟩:=aW x1;have e0:r.space.s=bQ r.s:=rfl;have e2:r.space.bad=r.bad:=rfl;rw[e0]at b0;rw[e2]at b2;clear hst h1 c1 g1 n1 e0 e2;rw[HB.o]at b2;rw[HS.o,<-lH.o]at b0;go_wp2_with fail;have hx:S.extract 1 S.size=bs rest:=by rw[lH.o];exact IL c rest
 rw[hx];obtain⟨v2,k1,k2,k3,k4,k5⟩:=nJ (HI.o.AZ rest (by rw[show r.space.s=c::rest from HS.o];simp)) HX.o HN.o;obtain⟨k6,k7⟩:=kS bD.o HV.o k2 k3;refine cK (v:= .agg #[.int .i64 1,.int .i64 0,.string ⟨#[33]⟩,.slice none 0 0]) (by simp[results,Tryz.results50,go_sem,hcs,x0,x1,x2,x3,hgx];try rfl) rfl ?_;exact uA k1 k6 k7 k5 hBx (zb ZX uB (by simp[ByteArray.size,bs]))
def rZ(r:Rd)(c:UInt8)(rest:Str):Tm×Rd:=match uz (c::rest)with|some k=>(.mk 2 k ⟨#[]⟩ [],{r with s:=(c::rest).drop (dN (c::rest))})|none=>(.mk 2 0 ⟨#[]⟩ [],{r with s:=c::rest,bad:=true})
theorem ZZ{s:Str}{k:Int}(h:some k=uz s): -1099511627776<=k/\k<=1099511627776:=by
 rw[Rz]at h;unfold AU at h;split at h
 ·split at h;·rename_i h2;simp only[cZ]at h;subst h;exact h2.2
  ·cases h
 ·cases h
theorem ajm(d:Int)(hd:d<=24)(c:UInt8)(rest:Str)(hb:r.bad=false)(hs:bQ r.s=c::rest)(hc:(c.toNat:Int)=45)(h:bW B base g vv r w):Calls Tryz.prog 50 #[.pointer (some ⟨g,0,none⟩),.int .i64 d] w (rY B base g vv (rZ r c rest) w):=by
 have HU:=zh h;have dV:=zh (qN (h.below ((zB _ _).alloc (zL _) y9)));have hBx:B<=w.heap.size:=by have :=h.bg;omega
 have hcs:=dz;have f1:decide (24<d)=false:=by simp;omega
 have HB:=zh hb;have HS:=zh hs;obtain⟨S,hS⟩:∃S,S=bs (c::rest):=⟨_,rfl⟩;have lH:=zh hS;have t1:S.toList.isEmpty=false:=by rw[hS,jE];rfl
 have t2:¬S.toList=[]:=by rw[hS,jE];simp
 have t3:0<S.size:=by rw[hS,dY];simp
 have hg0:S[0]=c:=by subst hS;exact Fb c rest t3
 have f2:decide ((65:Int)<=(S[0].toNat:Int))=false:=by rw[hg0];exact decide_eq_false (by omega)
 have f4:((S[0].toNat:Int)==(33:Int))=false:=by rw[hg0];rw[tY];omega
 have f5:((S[0].toNat:Int)==(45:Int))=true:=by rw[hg0];rw[rG];omega
 have A9:=zh (show c=45\/jX c=true from .inl (Lt.1 (by have e45:(45:UInt8).toNat=45:=rfl;omega)));clear hc hd hb hs hS hg0 h;go_enter Tryz.func50,Tryz.ntmps50;go_wp2_with fail;refine dV.o.mono ?_;rintro e w1⟨rfl,hst⟩;obtain⟨v1,h1,c1,g1,x1,hz1,n1⟩:=Bg HU.o hst;have HI:=zh h1;have bD:=zh c1;have HV:=zh g1;have HX:=zh x1;have HN:=zh n1;obtain⟨b0,b1,b2,bf⟩:=h1.cells;have hgx:¬g=w.heap.size:=fun e=>n1 (.inl e.symm);obtain⟨x0,x1,x2,x3,xf⟩:=aW x1;have e0:r.space.s=bQ r.s:=rfl;have e2:r.space.bad=r.bad:=rfl;rw[e0]at b0;rw[e2]at b2;clear hst h1 c1 g1 n1 e0 e2;rw[HB.o]at b2;rw[HS.o,<-lH.o]at b0;go_wp2_with fail;have RD:=zh (ZO c rest A9.o (by rw[<-HS.o];exact Hu r.s) HI.o);refine RD.o.mono ?_;intro e w2 hp;unfold Bf at hp;cases ho:uz (c::rest)with
  |none=>rw[ho]at hp;obtain⟨rfl,eU⟩:=hp;have jy:=zh (show rZ r c rest=(.mk 2 0 ⟨#[]⟩ [],{r with s:=c::rest,bad:=true})by unfold rZ;rw[ho]);clear ho;obtain⟨v2,k1,k2,k3,k4,k5⟩:=nJ eU HX.o HN.o;have HI2:=zh k1;have dK:=zh (kS bD.o HV.o k2 k3);have bG:=zh k4;have nA:=zh k5;obtain⟨b0,b1,b2,bf⟩:=k1.cells;obtain⟨x0,x1,x2,x3,xf⟩:=aW k4;have e9:(⟨c::rest,r.space.vars,r.space.bad⟩:Rd).bad=false:=HB.o;rw[e9]at b2;clear eU k1 k2 k3 k4 k5 e9;go_wp2_with fail;obtain⟨v3,k1,k2,k3,k4,k5⟩:=nJ (HI2.o.xz true) bG.o nA.o;obtain⟨k6,k7⟩:=kS dK.o.1 dK.o.2 k2 k3;rw[jy.o];refine cK (v:= .agg #[.int .i64 2,.int .i64 0,.string ⟨#[]⟩,.slice none 0 0]) (by simp[results,Tryz.results50,go_sem,hcs,x0,x1,x2,x3,hgx];try rfl) rfl ?_;exact uA k1 k6 k7 k5 hBx (zb MI uB (by simp[ByteArray.size]))
  |some k=>
   rw[ho]at hp;obtain⟨rfl,eU⟩:=hp;have jy:=zh (show rZ r c rest=(.mk 2 k ⟨#[]⟩ [],{r with s:=(c::rest).drop (dN (c::rest))})by unfold rZ;rw[ho]);have HO:=zh ho.symm;clear ho;obtain⟨v2,k1,k2,k3,k4,k5⟩:=nJ eU HX.o HN.o;have HI2:=zh k1;have dK:=zh (kS bD.o HV.o k2 k3);have bG:=zh k4;have nA:=zh k5;obtain⟨b0,b1,b2,bf⟩:=k1.cells;obtain⟨x0,x1,x2,x3,xf⟩:=aW k4;have e9:(⟨(c::rest).drop (dN (c::rest)),r.space.vars,r.space.bad⟩:Rd).bad=false:=HB.o;rw[e9]at b2;have hkb:=ZZ HO.o;clear eU k1 k2 k3 k4 k5 e9;go_wp2_with fail;obtain⟨v3,k1,k2,k3,k4,k5⟩:=nJ (HI2.o.xz false) bG.o nA.o;obtain⟨k6,k7⟩:=kS dK.o.1 dK.o.2 k2 k3;rw[jy.o];have e8:(⟨(c::rest).drop (dN (c::rest)),r.space.vars,false⟩:Rd)={r with s:=(c::rest).drop (dN (c::rest))}:=by rw[<-HB.o];rfl
   rw[<-e8];refine cK (v:= .agg #[.int .i64 2,.int .i64 k,.string ⟨#[]⟩,.slice none 0 0]) (by simp[results,Tryz.results50,go_sem,hcs,x0,x1,x2,x3,hgx];try rfl) rfl ?_;exact uA k1 k6 k7 k5 hBx (zb MI (by unfold au;omega) (by simp[ByteArray.size]))
theorem ajn(d:Int)(hd:d<=24)(c:UInt8)(rest:Str)(hb:r.bad=false)(hs:bQ r.s=c::rest)(hc:48<=(c.toNat:Int)/\(c.toNat:Int)<=57)(h:bW B base g vv r w):Calls Tryz.prog 50 #[.pointer (some ⟨g,0,none⟩),.int .i64 d] w (rY B base g vv (rZ r c rest) w):=by
 have HU:=zh h;have dV:=zh (qN (h.below ((zB _ _).alloc (zL _) y9)));have hBx:B<=w.heap.size:=by have :=h.bg;omega
 have hcs:=dz;have f1:decide (24<d)=false:=by simp;omega
 have HB:=zh hb;have HS:=zh hs;obtain⟨S,hS⟩:∃S,S=bs (c::rest):=⟨_,rfl⟩;have lH:=zh hS;have t1:S.toList.isEmpty=false:=by rw[hS,jE];rfl
 have t2:¬S.toList=[]:=by rw[hS,jE];simp
 have t3:0<S.size:=by rw[hS,dY];simp
 have hg0:S[0]=c:=by subst hS;exact Fb c rest t3
 obtain⟨hc1,hc2⟩:=hc;have f2:decide ((65:Int)<=(S[0].toNat:Int))=false:=by rw[hg0];exact decide_eq_false (by omega)
 have f4:((S[0].toNat:Int)==(33:Int))=false:=by rw[hg0];rw[tY];omega
 have f5:((S[0].toNat:Int)==(45:Int))=false:=by rw[hg0];rw[tY];omega
 have f6:decide ((48:Int)<=(S[0].toNat:Int))=true:=by rw[hg0];exact kJ (by omega)
 have f7:decide ((S[0].toNat:Int)<=(57:Int))=true:=by rw[hg0];exact kJ (by omega)
 have A9:=zh (show c=45\/jX c=true from .inr (IQ.2 ⟨hc1,hc2⟩));clear hc1 hc2 hd hb hs hS hg0 h;go_enter Tryz.func50,Tryz.ntmps50;go_wp2_with fail;refine dV.o.mono ?_;rintro e w1⟨rfl,hst⟩;obtain⟨v1,h1,c1,g1,x1,hz1,n1⟩:=Bg HU.o hst;have HI:=zh h1;have bD:=zh c1;have HV:=zh g1;have HX:=zh x1;have HN:=zh n1;obtain⟨b0,b1,b2,bf⟩:=h1.cells;have hgx:¬g=w.heap.size:=fun e=>n1 (.inl e.symm);obtain⟨x0,x1,x2,x3,xf⟩:=aW x1;have e0:r.space.s=bQ r.s:=rfl;have e2:r.space.bad=r.bad:=rfl;rw[e0]at b0;rw[e2]at b2;clear hst h1 c1 g1 n1 e0 e2;rw[HB.o]at b2;rw[HS.o,<-lH.o]at b0;go_wp2_with fail;have RD:=zh (ZO c rest A9.o (by rw[<-HS.o];exact Hu r.s) HI.o);refine RD.o.mono ?_;intro e w2 hp;unfold Bf at hp;cases ho:uz (c::rest)with
  |none=>rw[ho]at hp;obtain⟨rfl,eU⟩:=hp;have jy:=zh (show rZ r c rest=(.mk 2 0 ⟨#[]⟩ [],{r with s:=c::rest,bad:=true})by unfold rZ;rw[ho]);clear ho;obtain⟨v2,k1,k2,k3,k4,k5⟩:=nJ eU HX.o HN.o;have HI2:=zh k1;have dK:=zh (kS bD.o HV.o k2 k3);have bG:=zh k4;have nA:=zh k5;obtain⟨b0,b1,b2,bf⟩:=k1.cells;obtain⟨x0,x1,x2,x3,xf⟩:=aW k4;have e9:(⟨c::rest,r.space.vars,r.space.bad⟩:Rd).bad=false:=HB.o;rw[e9]at b2;clear eU k1 k2 k3 k4 k5 e9;go_wp2_with fail;obtain⟨v3,k1,k2,k3,k4,k5⟩:=nJ (HI2.o.xz true) bG.o nA.o;obtain⟨k6,k7⟩:=kS dK.o.1 dK.o.2 k2 k3;rw[jy.o];refine cK (v:= .agg #[.int .i64 2,.int .i64 0,.string ⟨#[]⟩,.slice none 0 0]) (by simp[results,Tryz.results50,go_sem,hcs,x0,x1,x2,x3,hgx];try rfl) rfl ?_;exact uA k1 k6 k7 k5 hBx (zb MI uB (by simp[ByteArray.size]))
  |some k=>
   rw[ho]at hp;obtain⟨rfl,eU⟩:=hp;have jy:=zh (show rZ r c rest=(.mk 2 k ⟨#[]⟩ [],{r with s:=(c::rest).drop (dN (c::rest))})by unfold rZ;rw[ho]);have HO:=zh ho.symm;clear ho;obtain⟨v2,k1,k2,k3,k4,k5⟩:=nJ eU HX.o HN.o;have HI2:=zh k1;have dK:=zh (kS bD.o HV.o k2 k3);have bG:=zh k4;have nA:=zh k5;obtain⟨b0,b1,b2,bf⟩:=k1.cells;obtain⟨x0,x1,x2,x3,xf⟩:=aW k4;have e9:(⟨(c::rest).drop (dN (c::rest)),r.space.vars,r.space.bad⟩:Rd).bad=false:=HB.o;rw[e9]at b2;have hkb:=ZZ HO.o;clear eU k1 k2 k3 k4 k5 e9;go_wp2_with fail;obtain⟨v3,k1,k2,k3,k4,k5⟩:=nJ (HI2.o.xz false) bG.o nA.o;obtain⟨k6,k7⟩:=kS dK.o.1 dK.o.2 k2 k3;rw[jy.o];have e8:(⟨(c::rest).drop (dN (c::rest)),r.space.vars,false⟩:Rd)={r with s:=(c::rest).drop (dN (c::rest))}:=by rw[<-HB.o];rfl
   rw[<-e8];refine cK (v:= .agg #[.int .i64 2,.int .i64 k,.string ⟨#[]⟩,.slice none 0 0]) (by simp[results,Tryz.results50,go_sem,hcs,x0,x1,x2,x3,hgx];try rfl) rfl ?_;exact uA k1 k6 k7 k5 hBx (zb MI (by unfold au;omega) (by simp[ByteArray.size]))
end
