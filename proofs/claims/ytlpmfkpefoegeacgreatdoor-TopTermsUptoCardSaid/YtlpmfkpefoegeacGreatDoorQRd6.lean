import Derived.Test.YtlpmfkpefoegeacGreatDoorQRd4
import Derived.Test.YtlpmfkpefoegeacGreatDoorQTwo
namespace Go.Proofs.YtlpmfkpefoegeacGreatDoor
set_option maxRecDepth 99999
set_option maxHeartbeats 0
set_option linter.all false
open Go.RowKit
def VG(w:World)(vv nV:Value):Prop:=∀b,ownB nV=some b->ownB vv=some b\/w<=b
section
variable {B base g : Nat} {vv nV : Value} {r r' : Rd} {w w' : World}
def bT.keeps(h:bT B base g vv r w)(hk:J (λb=>b<B\/aQ g vv b) w w'):bT B base g vv r w':=⟨bJ h.box hk (.inr (.inl rfl)),h.vars.kept λk e=>hk.block k (h.vars.lt k e).2 (.inr (.inr e)),h.tab.keeps (hk.mono λb _ hb=> .inl hb),⟨h.bg.1,h.bg.2.1,dm h.bg.2.2 hk.size⟩,h.len⟩
def bT.GY(h:bT B base g vv r w):∀b,aQ g vv b->b<w:=by
 rintro b(rfl|e);·exact h.lt.1
 ·exact(h.vars.lt b e).2
def bT.other(h:bT B base g vv r w){b o:Nat}{u:Value}(hb:¬aQ g vv b)(hB:B<=b):bT B base g vv r (w.setCell (b,o) u):=h.keeps (J.setCell _ _ _ _ (λe=>by
 rcases e with e|e;·simp only at e;omega
 ·exact hb e))
def VG.refl(w:World)(vv:Value):VG w vv vv:=λb h=> .inl h
def VG.trans{v2:Value}(h:VG w vv nV)(h':VG w' nV v2)(hs:w.heap.size<=w'.heap.size):VG w vv v2:=λb hb=>by
 rcases h' b hb with e|e;·exact h b e
 ·exact .inr (dm hs e)
def VG.rm(h:VG w vv nV):∀b,aQ g nV b->aQ g vv b\/w<=b:=by
 rintro b(e|e);·exact .inl (.inl e)
 ·exact(h b e).imp .inr id
def bT.aps{nm:Str}{v2:Value}{w2:World}{cells:Array Value}(h:bT B base g vv r w)(hroom:r.s.length+r.vars.length+1<=2000)(hown:aeJ w2 base (r.vars++[nm]) v2)(hg:jJ (w.alloc (.cells cells 9)) w2 vv v2):bT B base g v2 {r with vars:=r.vars++[nm]} (w2.setCell (g,1) v2)/\Ch (aQ g vv) w (w2.setCell (g,1) v2)/\VG w vv v2:=by
 have hap:=h.apart;have hlt:=h.lt;have hog:VG w vv v2:=λb hb=>by
  rcases hg.block with e|e;·exact .inl (e▸hb)
  ·have :=e b hb;simp only[bO]at this;exact .inr zB
 have hch:Ch (aQ g vv) w (w2.setCell (g,1) v2):=(hg.ch ((Ch.refl _ _).alloc _) (λb hb=> .inl (.inr hb))).setCell (p:=(g,1)) (.inl (.inl rfl)) _;have hB2:w2.heap[g]?=_:=(hg.grown.block g (by simp;omega) (λe=>hap e.symm)).trans (aI h.box _);refine⟨⟨(aX hB2 1 _).trans rfl,hown.kept λk hk=>aW _ _ _ _ (λe=>?_),h.tab.keeps (hch.keeps λb hb hA e=>?_),⟨h.bg.1,h.bg.2.1,dm h.bg.2.2 hch.size⟩,?_⟩,hch,hog⟩
 ·simp only at e;subst e;rcases hog _ hk with e|e;·exact hap e
  ·omega
 ·rcases e with rfl|e;·have :=h.bg;omega
  ·have :=(h.vars.lt b e).1;have :=h.bg;omega
 ·simp only[bB,dZ];omega
end
def apt{l:List Str}{k:Nat}{x:Str}(hk:k<l.length)(hx:l[k]=x)(hn:∀i(hi:i<k),l[i]' zB≠x):x∈l/\l.idxOf x=k:=by refine⟨hx▸bN hk,?_⟩;induction l generalizing k with|nil=>simp at hk|cons y l ih=>cases k with|zero=>simp only[BV]at hx;subst hx;simp|succ k=>have h0:=hn 0 zB;simp only[BV]at h0;rw[anl,show(y==x)=false from Ak.2 h0];simp only[cond_false,Nat.add_right_cancel_iff];exact ih (by simpa using hk) (by simpa using hx) (λi hi=>by have :=hn (i+1) zB;simpa using this)
def apu{w:World}{g:Nat}{E:TypeId}{v0 v1 v2:Value}(h:w.heap[g]?=some (.cells #[v0,v1,v2] E (0,0))):w.cell? (g,0)=some v0/\w.cell? (g,1)=some v1/\w.cell? (g,2)=some v2/\∀o,w.frozen? ⟨g,o,none⟩=false:=⟨(bY h 0).trans rfl,(bY h 1).trans rfl,(bY h 2).trans rfl,λo=>by simp[World.frozen?,h]⟩
def vS(B base g:Nat)(vv:Value)(x:Tm×Rd)(w:World)(e:Ending)(w':World):Prop:=∃us nV,e= .returned (.agg us.toArray)/\bT B base g nV x.2 w'/\Ch (aQ g vv) w w'/\VG w vv nV/\Tm.rep (λb=>w<=b/\¬aQ g nV b) w' x.1 us
def apv:iy (Av Ct Xl):=Ee aeH
section
variable {B base g : Nat} {vv : Value} {r : Rd} {w : World}
def GZ(r:Rd)(nm:Str):Tm×Rd:=(.mk 0 (Gg r.vars nm).1 ⟨#[]⟩ [],{r with vars:=(Gg r.vars nm).2})
def apw(nm:Str)(hnm:nm.length<=2000)(h:bT B base g vv r w)(hroom:r.s.length+r.vars.length+1<=2000):Calls Tryz.prog 87 #[.pointer (some (g,0)),.string (bs nm)] w (vS B base g vv (GZ r nm) w):=by
 have HU:=Y h;have HR:=Y hroom;have vK:=Y hnm;obtain⟨b0,b1,b2,bf⟩:=h.cells;have hgl:=h.lt.1;obtain⟨va,vc,hv,hvl,qg⟩:=h.vars.val;have hlen:r.vars.length<=2000:=zB;subst hv;unfold maxLen at qg;clear h hroom hnm;go_enter Tryz.func87,Tryz.ntmps87;go_wp2_with fail;obtain⟨W1,hW1⟩:∃W1,W1=w.alloc (.cells #[.int .i64 0,.int .i64 0,.string ⟨#[]⟩,.slice none 0 0] 34):=⟨_,rfl⟩;have HB1:=Y (show Below w w W1 by rw[hW1];exact(Z _ _).alloc (zL _) _);have bK:=Y (show W1.heap[w.heap.size]?=some (.cells #[.int .i64 0,.int .i64 0,.string ⟨#[]⟩,.slice none 0 0] 34 (0,0))by rw[hW1];exact bq _ _);have HI1:=Y (HU.o.below HB1);rw[<-hW1];have HZ1:=Y (show W1.heap.size=w.heap.size+1 by rw[hW1];simp);clear hW1 b0 b1 b2 bf;obtain⟨b0,b1,b2,bf⟩:=HI1.o.cells;have R3:=HI1.o.lt.1;have hxl:=ax bK;obtain⟨x0,x1,x2,x3,xf⟩:=aF bK;have hcs:=bF;go_loopw[12](λi wr=>∃k:Nat,k<=r.vars.length/\i= ↑k/\(∀i(hi:i<r.vars.length),i<k->r.vars[i]≠nm)/\wr=W1)(λi _=>r.vars.length - (intOf i).toNat);case atStart=>exact⟨0,dA _,rfl,λi hi h=>zB,rfl⟩
 case round=>
  obtain⟨k,hk,rfl,hno,rfl⟩:=hrel;have kZ:=Y hno;have hk0:(0:Int)<=(k:Int):=zN _;clear hno;by_cases hlt:k<r.vars.length
  ·have hlt':(k:Int)<(r.vars.length:Int):=zB;obtain⟨gb,cap,CB, -, -, -,cO,hfz,lU,hgb,hcell⟩:=I.at Ru HI1.o.vars zB;simp only[cK,dx]at CB;obtain⟨rfl,rfl⟩:=CB;have hc:=hcell k hlt 0 _ rfl;rw[Gc,rD]at hc;clear hcell hfz;by_cases he:r.vars[k]=nm
   ·have hE:((bs r.vars[k]).toList==(bs nm).toList)=true:=by rw[he];simp
    have HID:=Y (apt hlt he (λi hi=>kZ i zB hi));clear he;go_wp2_with fail;refine bX (v:= .agg #[.int .i64 0,↑k,.string ⟨#[]⟩,.slice none 0 0]) (by simp[results,Tryz.results87,go_sem,hcs,x0,x1,x2,x3];try rfl) rfl ?_;have hv:GZ r nm=(.mk 0 (k:Int) ⟨#[]⟩ [],r):=by unfold GZ Gg;rw[G HID.o.1,HID.o.2]
    rw[hv];have hni:¬aQ g (.slice (some (gb,0)) r.vars.length vc) w:=λe=>by have :=HU.o.GY _ e;omega
    have hBx:B<=w:=by have :=HU.o.bg;omega
    have tH:ah (k:Int):=by unfold ah;omega
    exact⟨[_,_,_,_],_,rfl,(((HI1.o.other hni hBx).other hni hBx).other hni hBx).other hni hBx,((((Ch.of_below HB1).setCell (p:=⟨w.heap.size,0,none⟩) (.inr (zL _)) _).setCell (p:=⟨w.heap.size,1,none⟩) (.inr (zL _)) _).setCell (p:=⟨w.heap.size,2,none⟩) (.inr (zL _)) _).setCell (p:=⟨w,3,none⟩) (.inr (zL _)) _,VG.refl _ _,Tm.jv.2 ⟨by unfold ah;omega,tH,by simp[ByteArray.size],_,rfl,ag.nil ..⟩⟩
   ·have hE:((bs r.vars[k]).toList==(bs nm).toList)=false:=by rw[lN,lN];simpa using he
    have HE:=Y he;clear he;go_wp2_with fail;go_roundw;case rel=>
     exact⟨k+1,zB,zd,λi hi h=>by
      by_cases hik:i=k;·subst hik;exact HE
      ·exact kZ i hi zB,by first|rfl|trivial⟩
    case measure=>simp[intOf];omega
  ·have hke:k=r.vars.length:=zB;subst hke;have qQ:=Y HI1.o.apart;have apx:=Y (show nm∉r.vars fromλhm=>by obtain⟨i,hi,he⟩:=Wj hm;exact kZ i hi hi he);clear hk hlt kZ;go_wp2_with(at_builtin;go_must(refine ja rfl (.tmp 27) (.tmp 29) 45 rfl base 9 1 16 aeI apv (A:=λ_=>True) (.slice va r.vars.length vc) r.vars rfl (I.gT Ru HI1.o.vars _) nm [.string (bs nm)] (by rfl) rfl ⟨by have :=vK.o;unfold Xl;omega,rfl⟩ ⟨by omega,HI1.o.bg.2.2⟩ ?_);go_must(intro v2 w2 hown aj;have hB2:=(aj.grown.block g (by simp;omega) (λe=>qQ e.symm)).trans (aI HI1.o.box _);have hX2:=(aj.grown.block w (by simp;omega) (λe=>by have :=(HI1.o.vars.lt _ e.symm).1;have :=HU.o.bg;have :=HU.o.lt;have :=(HU.o.vars.lt _ e.symm).2;omega)).trans (aI bK _);obtain⟨aS,aT,hv2,kX,rO⟩:=az.kG hown;rw[show(r.vars++[nm]).length=r.vars.length+1 by simp]at hv2;subst hv2;have bA:=Y hown;have HG2:=Y aj;have bu:=Y hX2;obtain⟨k0,k1,k2,kf⟩:=apu hB2;obtain⟨y0,y1,y2,y3,yf⟩:=aF hX2;have xx:=ax hB2;have XZ:=ax hX2;clear hown aj hB2 hX2));refine bX (v:= .agg #[.int .i64 0,↑r.vars.length,.string ⟨#[]⟩,.slice none 0 0]) (by simp[results,Tryz.results87,go_sem,hcs,y0,y1,y2,y3,k1,xx,XZ,show ¬g=w.heap.size by omega];try omega) rfl ?_;have hv:GZ r nm=(.mk 0 (r.vars.length:Int) ⟨#[]⟩ [],{r with vars:=r.vars++[nm]}):=by unfold GZ Gg;rw[O apx.o]
   rw[hv];obtain⟨p1,p2,p3⟩:=HI1.o.aps HR (I.fJ bA) HG2;have hni:¬aQ g (.slice aS (r.vars.length+1) aT) w:=fun e=>by
    rcases e with e|e;·have :=HU.o.lt.1;omega
    ·rcases p3 _ e with e|e;·have :=(HU.o.vars.lt _ e).2;omega
     ·have :=HZ1.o;omega
   have hBx:B<=w.heap.size:=by have :=HU.o.bg;omega
   have tH:ah (r.vars.length:Int):=by unfold ah;omega
   have hch:Ch (aQ g (.slice va r.vars.length vc)) w _:=(Ch.of_below HB1.o).trans p2 (fun b hb=> .inl hb);exact⟨[_,_,_,_],_,rfl,(((p1.other hni hBx).other hni hBx).other hni hBx).other hni hBx,(((hch.setCell (p:=⟨w.heap.size,0,none⟩) (.inr (zL _)) _).setCell (p:=⟨w.heap.size,1,none⟩) (.inr (zL _)) _).setCell (p:=⟨w.heap.size,2,none⟩) (.inr (zL _)) _).setCell (p:=⟨w.heap.size,3,none⟩) (.inr (zL _)) _,fun b hb=>(p3 b hb).imp id (fun e=>by have :=HZ1.o;omega),Tm.jv.2 ⟨by unfold ah;omega,tH,by simp[ByteArray.size],_,rfl,ag.nil ..⟩⟩
end
abbrev CL:Obj:= .cells #[.int .i64 0,.int .i64 0,.string ⟨#[]⟩,.slice none 0 0] 34
section
variable {B base g : Nat} {vv v1 : Value} {r r1 r2 : Rd} {w w1 w2 : World}
def EC(h:bT B base g vv r w)(hs:iK B base g vv r1 (w.alloc CL) w1):∃v1,bT B base g v1 r1 w1/\Ch (aQ g vv) w w1/\VG w vv v1/\w1.heap[w.heap.size]?=some (.cells #[.int .i64 0,.int .i64 0,.string ⟨#[]⟩,.slice none 0 0] 34 (0,0))/\w.heap.size<w1.heap.size/\¬aQ g v1 w:=by
 obtain⟨v1,h1,h2,h3⟩:=hs;have hn:¬aQ g vv w:=λe=>by have :=h.GY _ e;omega
 refine⟨v1,h1,((Ch.refl _ _).alloc _).trans h2 (λb hb=> .inl hb),λb hb=>(h3 b hb).imp id (λe=>by simp only[bO]at e;omega),(h2.block _ zh hn).trans (bq _ _),by have :=h2.size;simp only[bO]at this;omega,λe=>?_⟩;rcases e with e|e;·have :=h.lt.1;omega
 ·rcases h3 _ e with e|e;·have :=(h.vars.lt _ e).2;omega
  ·simp only[bO]at e;omega
def qR{x:Nat}{o:Obj}(hs:iK B base g v1 r2 w1 w2)(hx:w1.heap[x]?=some o)(hn:¬aQ g v1 x):∃v2,bT B base g v2 r2 w2/\Ch (aQ g v1) w1 w2/\VG w1 v1 v2/\w2.heap[x]?=some o/\¬aQ g v2 x:=by
 obtain⟨v2,h1,h2,h3⟩:=hs;have hl:=ax hx;refine⟨v2,h1,h2,h3,(h2.block x hl hn).trans hx,λe=>?_⟩;rcases VG.rm h3 x e with e|e;·exact hn e
 ·omega
def nI{v2:Value}(hc1:Ch (aQ g vv) w w1)(hv1:VG w vv v1)(hc2:Ch (aQ g v1) w1 w2)(hv2:VG w1 v1 v2):Ch (aQ g vv) w w2/\VG w vv v2:=⟨hc1.trans hc2 (VG.rm hv1),hv1.trans hv2 hc1.size⟩
def xz{t:Tm}{a0 a1 a2 a3:Value}{v2:Value}(h:bT B base g v2 r2 w2)(hch:Ch (aQ g vv) w w2)(hvg:VG w vv v2)(hn:¬aQ g v2 w)(hB:B<=w)(hrep:Tm.rep (λb=>(w<=b/\¬aQ g v2 b)/\b≠w) w2 t [a0,a1,a2,a3]):vS B base g vv (t,r2) w (.returned (.agg #[a0,a1,a2,a3])) ((((w2.setCell ⟨w.heap.size,0,none⟩ a0).setCell ⟨w.heap.size,1,none⟩ a1).setCell ⟨w.heap.size,2,none⟩ a2).setCell ⟨w.heap.size,3,none⟩ a3):=by have hk:J (fun b=>(w<=b/\¬aQ g v2 b)/\b≠w) w2 ((((w2.setCell ⟨w.heap.size,0,none⟩ a0).setCell ⟨w.heap.size,1,none⟩ a1).setCell ⟨w.heap.size,2,none⟩ a2).setCell ⟨w.heap.size,3,none⟩ a3):=(((J.setCell _ _ _ _ (by simp)).trans (J.setCell _ _ _ _ (by simp))).trans (J.setCell _ _ _ _ (by simp))).trans (J.setCell _ _ _ _ (by simp));exact⟨[a0,a1,a2,a3],v2,rfl,(((h.other hn hB).other hn hB).other hn hB).other hn hB,(((hch.setCell (p:=⟨w.heap.size,0,none⟩) (.inr (zL _)) _).setCell (p:=⟨w.heap.size,1,none⟩) (.inr (zL _)) _).setCell (p:=⟨w.heap.size,2,none⟩) (.inr (zL _)) _).setCell (p:=⟨w.heap.size,3,none⟩) (.inr (zL _)) _,hvg,Tm.ae.2.1 _ _ _ _ _ (Tm.ae.1 _ _ _ _ _ hrep hk) λb _ hb=>hb.1⟩
def CO{A:Nat->Prop}{w:World}{k n:Int}{s:ByteArray}(hk:ah k)(hn:ah n)(hs:s.size<=1048576):Tm.rep A w (.mk k n s []) [↑k,↑n,.string s,.slice none 0 0]:=Tm.jv.2 ⟨hk,hn,hs,_,rfl,ag.nil ..⟩
def xA:ah 0:=by unfold ah;omega
def afC:ah 1:=by unfold ah;omega
def R4:ah 2:=by unfold ah;omega
def afD:ah 3:=by unfold ah;omega
def apy(d:Int)(hd:24<d)(h:bT B base g vv r w):Calls Tryz.prog 50 #[.pointer (some (g,0)),↑d] w (vS B base g vv (xk,r.space.kill) w):=by
 have HU:=Y h;have dN:=Y (uL (h.below ((Z _ _).alloc (zL _) CL)));have hBx:B<=w:=by have :=h.bg;omega
 have hcs:=bF;have f1:decide (24<d)=true:=by simpa using hd
 clear hd h;go_enter Tryz.func50,Tryz.ntmps50;go_wp2_with fail;refine dN.o.mono ?_;rintro e w1⟨rfl,hst⟩;obtain⟨v1,h1,c1,g1,x1,hz1,n1⟩:=EC HU hst;have HI:=Y h1;have aM:=Y c1;have HV:=Y g1;have HX:=Y x1;have HN:=Y n1;obtain⟨b0,b1,b2,bf⟩:=h1.cells;have hgl:=h1.lt.1;have hgx:¬g=w.heap.size:=λe=>n1 (.inl e.symm);obtain⟨x0,x1,x2,x3,xf⟩:=aF x1;have e0:r.space.s=bP r.s:=rfl;have e2:r.space.bad=r.bad:=rfl;rw[e0]at b0;rw[e2]at b2;clear hst h1 c1 g1 n1 e0 e2;go_wp2_with fail;refine bX (v:= .agg #[.int .i64 0,.int .i64 0,.string ⟨#[]⟩,.slice none 0 0]) (by simp[results,Tryz.results50,go_sem,hcs,x0,x1,x2,x3,hgx];try rfl) rfl ?_;obtain⟨v2,k1,k2,k3,k4,k5⟩:=qR (HI.o.AA true) HX HN;obtain⟨k6,k7⟩:=nI aM HV k2 k3;exact xz k1 k6 k7 k5 hBx (CO xA xA (by simp[ByteArray.size]))
def apz(d:Int)(hd:d<=24)(hb:r.bad=true)(h:bT B base g vv r w):Calls Tryz.prog 50 #[.pointer (some (g,0)),↑d] w (vS B base g vv (xk,r.space.kill) w):=by
 have HU:=Y h;have dN:=Y (uL (h.below ((Z _ _).alloc (zL _) CL)));have hBx:B<=w:=by have :=h.bg;omega
 have hcs:=bF;have f1:decide (24<d)=false:=by simp;omega
 have HB:=Y hb;clear hd hb h;go_enter Tryz.func50,Tryz.ntmps50;go_wp2_with fail;refine dN.o.mono ?_;rintro e w1⟨rfl,hst⟩;obtain⟨v1,h1,c1,g1,x1,hz1,n1⟩:=EC HU hst;have HI:=Y h1;have aM:=Y c1;have HV:=Y g1;have HX:=Y x1;have HN:=Y n1;obtain⟨b0,b1,b2,bf⟩:=h1.cells;have hgl:=h1.lt.1;have hgx:¬g=w.heap.size:=λe=>n1 (.inl e.symm);obtain⟨x0,x1,x2,x3,xf⟩:=aF x1;have e0:r.space.s=bP r.s:=rfl;have e2:r.space.bad=r.bad:=rfl;rw[e0]at b0;rw[e2]at b2;clear hst h1 c1 g1 n1 e0 e2;rw[HB.o]at b2;go_wp2_with fail;refine bX (v:= .agg #[.int .i64 0,.int .i64 0,.string ⟨#[]⟩,.slice none 0 0]) (by simp[results,Tryz.results50,go_sem,hcs,x0,x1,x2,x3,hgx];try rfl) rfl ?_;obtain⟨v2,k1,k2,k3,k4,k5⟩:=qR (HI.o.AA true) HX HN;obtain⟨k6,k7⟩:=nI aM HV k2 k3;exact xz k1 k6 k7 k5 hBx (CO xA xA (by simp[ByteArray.size]))
def apA(d:Int)(hd:d<=24)(hb:r.bad=false)(hs:bP r.s=[])(h:bT B base g vv r w):Calls Tryz.prog 50 #[.pointer (some (g,0)),↑d] w (vS B base g vv (xk,r.space.kill) w):=by
 have HU:=Y h;have dN:=Y (uL (h.below ((Z _ _).alloc (zL _) CL)));have hBx:B<=w:=by have :=h.bg;omega
 have hcs:=bF;have f1:decide (24<d)=false:=by simp;omega
 have HB:=Y hb;have HS:=Y hs;obtain⟨t1,t2⟩:=RV;clear hd hb hs h;go_enter Tryz.func50,Tryz.ntmps50;go_wp2_with fail;refine dN.o.mono ?_;rintro e w1⟨rfl,hst⟩;obtain⟨v1,h1,c1,g1,x1,hz1,n1⟩:=EC HU hst;have HI:=Y h1;have aM:=Y c1;have HV:=Y g1;have HX:=Y x1;have HN:=Y n1;obtain⟨b0,b1,b2,bf⟩:=h1.cells;have hgl:=h1.lt.1;have hgx:¬g=w.heap.size:=λe=>n1 (.inl e.symm);obtain⟨x0,x1,x2,x3,xf⟩:=aF x1;have e0:r.space.s=bP r.s:=rfl;have e2:r.space.bad=r.bad:=rfl;rw[e0]at b0;rw[e2]at b2;clear hst h1 c1 g1 n1 e0 e2;rw[HB.o]at b2;rw[HS.o]at b0;go_wp2_with fail;refine bX (v:= .agg #[.int .i64 0,.int .i64 0,.string ⟨#[]⟩,.slice none 0 0]) (by simp[results,Tryz.results50,go_sem,hcs,x0,x1,x2,x3,hgx];try rfl) rfl ?_;obtain⟨v2,k1,k2,k3,k4,k5⟩:=qR (HI.o.AA true) HX HN;obtain⟨k6,k7⟩:=nI aM HV k2 k3;exact xz k1 k6 k7 k5 hBx (CO xA xA (by simp[ByteArray.size]))
def apB(d:Int)(hd:d<=24)(c:UInt8)(rest:Str)(hb:r.bad=false)(hs:bP r.s=c::rest)(hc:65<=(c.toNat:Int)/\(c.toNat:Int)<=90)(h:bT B base g vv r w):Calls Tryz.prog 50 #[.pointer (some (g,0)),↑d] w (vS B base g vv (GZ {r with s:=(c::rest).drop (dB (c::rest))} ((c::rest).take (dB (c::rest)))) w):=by
 have HU:=Y h;have dN:=Y (uL (h.below ((Z _ _).alloc (zL _) CL)));have hBx:B<=w:=by have :=h.bg;omega
 have hcs:=bF;have f1:decide (24<d)=false:=by simp;omega
 have HB:=Y hb;have HS:=Y hs;obtain⟨S,hS⟩:∃S,S=bs (c::rest):=⟨_,rfl⟩;have nZ:=Y hS;have t1:S.toList.isEmpty=false:=by rw[hS,lN];rfl
 have t2:¬S.toList=[]:=by rw[hS,lN];simp
 have t3:0<S.size:=by rw[hS,eP];simp
 have hg0:S[0]=c:=by subst hS;exact JJ c rest t3
 have HG:=Y hg0;have hc0:0<=(S[0].toNat:Int):=zB;obtain⟨hc1,hc2⟩:=hc;have f2:decide ((65:Int)<=(S[0].toNat:Int))=true:=by rw[hg0];exact qG zB
 have f3:decide ((S[0].toNat:Int)<=(90:Int))=true:=by rw[hg0];exact qG zB
 have hwp:1<=dB (c::rest):=by rw[WM,G (by simp[GU.2 ⟨hc1,hc2⟩])];omega
 have HWP:=Y hwp;clear hc1 hc2 hwp hd hb hs hS hg0 h;go_enter Tryz.func50,Tryz.ntmps50;go_wp2_with fail;refine dN.o.mono ?_;rintro e w1⟨rfl,hst⟩;obtain⟨v1,h1,c1,g1,x1,hz1,n1⟩:=EC HU hst;have HI:=Y h1;have aM:=Y c1;have HV:=Y g1;have HX:=Y x1;have HN:=Y n1;obtain⟨b0,b1,b2,bf⟩:=h1.cells;have hgl:=h1.lt.1;have hgx:¬g=w.heap.size:=λe=>n1 (.inl e.symm);obtain⟨x0,x1,x2,x3,xf⟩:=aF x1;have e0:r.space.s=bP r.s:=rfl;have e2:r.space.bad=r.bad:=rfl;rw[e0]at b0;rw[e2]at b2;clear hst h1 c1 g1 n1 e0 e2;rw[HB.o]at b2;rw[HS.o,<-nZ.o]at b0;go_wp2_with fail;have HW:=Y (afu (c::rest) (by rw[<-HS.o];exact Ms r.s) HI);refine HW.o.mono ?_;rintro e w2⟨rfl,gu⟩;obtain⟨v2,k1,k2,k3,k4,k5⟩:=qR gu HX HN;have HI2:=Y k1;have dJ:=Y (nI aM HV k2 k3);have bu:=Y k4;have mq:=Y k5;have hl:=HI.o.len;have e0:r.space.s=c::rest:=HS;rw[e0]at hl;have hwl:=Nq (Nat.le_refl (dB (c::rest)));have HL:=Y hl;have HWL:=Y hwl;clear gu k1 k2 k3 k4 k5 hl hwl e0 b0 b1 b2 bf x0 x1 x2 x3 xf HW;go_wp2_with fail;refine(apw ((c::rest).take (dB (c::rest))) (by have :=HL.o;rw[dX];omega) HI2.o (by have :=HL.o;have :=HWP.o;have :=HWL.o;show((c::rest).drop (dB (c::rest))).length+r.vars.length+1<=2000;rw[yA];have e:r.space.vars.length=r.vars.length:=rfl;omega)).mono ?_;rintro e w3⟨us,v3,rfl,k1,k2,k3,k4⟩;obtain⟨-, -, -,va,rfl,hsl⟩:=Tm.jv.1 k4;obtain⟨ua,uc, -, -,rfl, -⟩:=hsl.at;clear hsl;have HI3:=Y k1;have eY:=Y (nI dJ.o.1 dJ.o.2 k2 k3);have HR3:=Y k4;have hzz:w.heap.size<w2.heap.size:=ax bu;have hx3:=(k2.block _ hzz mq).trans bu;have iQ:=Y hx3;have JQ:¬aQ g v3 w:=λe=>(VG.rm k3 _ e).elim mq (λe=>zB);have HN3:=Y JQ;have afF:=k1.lt.1;obtain⟨x0,x1,x2,x3,xf⟩:=aF hx3;clear k1 k2 k3 k4 hx3 JQ;go_wp2_with fail;refine bX (v:= .agg #[.int .i64 0,↑(Gg r.space.vars ((c::rest).take (dB (c::rest)))).1,.string ⟨#[]⟩,.slice ua 0 uc]) (by simp[results,Tryz.results50,go_sem,hcs,x0,x1,x2,x3,hgx];try rfl) rfl ?_;refine xz HI3 eY.o.1 eY.o.2 HN3 hBx ?_;exact Tm.ae.2.1 _ _ _ _ _ HR3 λb _ hb=>⟨⟨zB,hb.2⟩,λe=>zB⟩
def apE(d:Int)(hd:d<=24)(c:UInt8)(rest:Str)(hb:r.bad=false)(hs:bP r.s=c::rest)(hc:(c.toNat:Int)=33)(h:bT B base g vv r w):Calls Tryz.prog 50 #[.pointer (some (g,0)),↑d] w (vS B base g vv (.mk 1 0 (bs [33]) [],{r with s:=rest}) w):=by
 have HU:=Y h;have dN:=Y (uL (h.below ((Z _ _).alloc (zL _) CL)));have hBx:B<=w:=by have :=h.bg;omega
 have hcs:=bF;have f1:decide (24<d)=false:=by simp;omega
 have HB:=Y hb;have HS:=Y hs;obtain⟨S,hS⟩:∃S,S=bs (c::rest):=⟨_,rfl⟩;have nZ:=Y hS;have t1:S.toList.isEmpty=false:=by rw[hS,lN];rfl
 have t2:¬S.toList=[]:=by rw[hS,lN];simp
 have t3:0<S.size:=by rw[hS,eP];simp
 have hg0:S[0]=c:=by subst hS;exact JJ c rest t3
 have HG:=Y hg0;have hc0:0<=(S[0].toNat:Int):=zB;have f2:decide ((65:Int)<=(S[0].toNat:Int))=false:=by rw[hg0];exact decide_eq_false zB
 have f4:((S[0].toNat:Int)==(33:Int))=true:=by rw[hg0];rw[rE];omega
 clear hc hd hb hs hS hg0 h;go_enter Tryz.func50,Tryz.ntmps50;go_wp2_with fail;refine dN.o.mono ?_;rintro e w1⟨rfl,hst⟩;obtain⟨v1,h1,c1,g1,x1,hz1,n1⟩:=EC HU hst;have HI:=Y h1;have aM:=Y c1;have HV:=Y g1;have HX:=Y x1;have HN:=Y n1;obtain⟨b0,b1,b2,bf⟩:=h1.cells;have hgl:=h1.lt.1;have hgx:¬g=w.heap.size:=λe=>n1 (.inl e.symm);obtain⟨x0,x1,x2,x3,xf⟩:=aF x1;have e0:r.space.s=bP r.s:=rfl;have e2:r.space.bad=r.bad:=rfl;rw[e0]at b0;rw[e2]at b2;clear hst h1 c1 g1 n1 e0 e2;rw[HB.o]at b2;rw[HS.o,<-nZ.o]at b0;go_wp2_with fail;have hx:S.extract 1 S.size=bs rest:=by rw[nZ.o];exact Nn c rest
 rw[hx];obtain⟨v2,k1,k2,k3,k4,k5⟩:=qR (HI.o.Er rest (by rw[show r.space.s=c::rest from HS.o];simp)) HX HN;obtain⟨k6,k7⟩:=nI aM HV k2 k3;refine bX (v:= .agg #[.int .i64 1,.int .i64 0,.string ⟨#[33]⟩,.slice none 0 0]) (by simp[results,Tryz.results50,go_sem,hcs,x0,x1,x2,x3,hgx];try rfl) rfl ?_;exact xz k1 k6 k7 k5 hBx (CO afC xA (by simp[ByteArray.size,bs]))
def vT(r:Rd)(c:UInt8)(rest:Str):Tm×Rd:=match xu (c::rest)with|some k=>(.mk 2 k ⟨#[]⟩ [],{r with s:=(c::rest).drop (ed (c::rest))})|none=>(.mk 2 0 ⟨#[]⟩ [],{r with s:=c::rest,bad:=true})
def afG{s:Str}{k:Int}(h:some k=xu s): -1099511627776<=k/\k<=1099511627776:=by
 rw[XX]at h;unfold El at h;split at h
 ·split at h;·rename_i h2;simp only[bW]at h;subst h;exact h2.2
  ·cases h
 ·cases h
def apF(d:Int)(hd:d<=24)(c:UInt8)(rest:Str)(hb:r.bad=false)(hs:bP r.s=c::rest)(hc:(c.toNat:Int)=45)(h:bT B base g vv r w):Calls Tryz.prog 50 #[.pointer (some (g,0)),↑d] w (vS B base g vv (vT r c rest) w):=by
 have HU:=Y h;have dN:=Y (uL (h.below ((Z _ _).alloc (zL _) CL)));have hBx:B<=w:=by have :=h.bg;omega
 have hcs:=bF;have f1:decide (24<d)=false:=by simp;omega
 have HB:=Y hb;have HS:=Y hs;obtain⟨S,hS⟩:∃S,S=bs (c::rest):=⟨_,rfl⟩;have nZ:=Y hS;have t1:S.toList.isEmpty=false:=by rw[hS,lN];rfl
 have t2:¬S.toList=[]:=by rw[hS,lN];simp
 have t3:0<S.size:=by rw[hS,eP];simp
 have hg0:S[0]=c:=by subst hS;exact JJ c rest t3
 have HG:=Y hg0;have hc0:0<=(S[0].toNat:Int):=zB;have f2:decide ((65:Int)<=(S[0].toNat:Int))=false:=by rw[hg0];exact decide_eq_false zB
 have f4:((S[0].toNat:Int)==(33:Int))=false:=by rw[hg0];rw[Ak];omega
 have f5:((S[0].toNat:Int)==(45:Int))=true:=by rw[hg0];rw[rE];omega
 have sV:=Y (show c=45\/mQ c=true from .inl (QU.1 (by have e45:(45:UInt8).toNat=45:=rfl;omega)));clear hc hd hb hs hS hg0 h;go_enter Tryz.func50,Tryz.ntmps50;go_wp2_with fail;refine dN.o.mono ?_;rintro e w1⟨rfl,hst⟩;obtain⟨v1,h1,c1,g1,x1,hz1,n1⟩:=EC HU hst;have HI:=Y h1;have aM:=Y c1;have HV:=Y g1;have HX:=Y x1;have HN:=Y n1;obtain⟨b0,b1,b2,bf⟩:=h1.cells;have hgl:=h1.lt.1;have hgx:¬g=w.heap.size:=λe=>n1 (.inl e.symm);obtain⟨x0,x1,x2,x3,xf⟩:=aF x1;have e0:r.space.s=bP r.s:=rfl;have e2:r.space.bad=r.bad:=rfl;rw[e0]at b0;rw[e2]at b2;clear hst h1 c1 g1 n1 e0 e2;rw[HB.o]at b2;rw[HS.o,<-nZ.o]at b0;go_wp2_with fail;have Ya:=Y (afx c rest sV (by rw[<-HS.o];exact Ms r.s) HI);refine Ya.o.mono ?_;intro e w2 hp;unfold EA at hp;cases ho:xu (c::rest)with
  |none=>rw[ho]at hp;obtain⟨rfl,gu⟩:=hp;have gq:=Y (show vT r c rest=(.mk 2 0 ⟨#[]⟩ [],{r with s:=c::rest,bad:=true})by unfold vT;rw[ho]);clear ho;obtain⟨v2,k1,k2,k3,k4,k5⟩:=qR gu HX HN;have HI2:=Y k1;have dJ:=Y (nI aM HV k2 k3);have bu:=Y k4;have mq:=Y k5;obtain⟨b0,b1,b2,bf⟩:=k1.cells;have xx:=k1.lt.1;obtain⟨x0,x1,x2,x3,xf⟩:=aF k4;have e9:(⟨c::rest,r.space.vars,r.space.bad⟩:Rd).bad=false:=HB;rw[e9]at b2;clear gu k1 k2 k3 k4 k5 e9;go_wp2_with fail;obtain⟨v3,k1,k2,k3,k4,k5⟩:=qR (HI2.o.AA true) bu mq;obtain⟨k6,k7⟩:=nI dJ.o.1 dJ.o.2 k2 k3;rw[gq.o];refine bX (v:= .agg #[.int .i64 2,.int .i64 0,.string ⟨#[]⟩,.slice none 0 0]) (by simp[results,Tryz.results50,go_sem,hcs,x0,x1,x2,x3,hgx];try rfl) rfl ?_;exact xz k1 k6 k7 k5 hBx (CO R4 xA (by simp[ByteArray.size]))
  |some k=>
   rw[ho]at hp;obtain⟨rfl,gu⟩:=hp;have gq:=Y (show vT r c rest=(.mk 2 k ⟨#[]⟩ [],{r with s:=(c::rest).drop (ed (c::rest))})by unfold vT;rw[ho]);have HO:=Y ho.symm;clear ho;obtain⟨v2,k1,k2,k3,k4,k5⟩:=qR gu HX HN;have HI2:=Y k1;have dJ:=Y (nI aM HV k2 k3);have bu:=Y k4;have mq:=Y k5;obtain⟨b0,b1,b2,bf⟩:=k1.cells;have xx:=k1.lt.1;obtain⟨x0,x1,x2,x3,xf⟩:=aF k4;have e9:(⟨(c::rest).drop (ed (c::rest)),r.space.vars,r.space.bad⟩:Rd).bad=false:=HB;rw[e9]at b2;have hkb:=afG HO;clear gu k1 k2 k3 k4 k5 e9;go_wp2_with fail;obtain⟨v3,k1,k2,k3,k4,k5⟩:=qR (HI2.o.AA false) bu mq;obtain⟨k6,k7⟩:=nI dJ.o.1 dJ.o.2 k2 k3;rw[gq.o];have e8:(⟨(c::rest).drop (ed (c::rest)),r.space.vars,false⟩:Rd)={r with s:=(c::rest).drop (ed (c::rest))}:=by rw[<-HB.o];rfl
   rw[<-e8];refine bX (v:= .agg #[.int .i64 2,↑k,.string ⟨#[]⟩,.slice none 0 0]) (by simp[results,Tryz.results50,go_sem,hcs,x0,x1,x2,x3,hgx];try rfl) rfl ?_;exact xz k1 k6 k7 k5 hBx (CO R4 (by unfold ah;omega) (by simp[ByteArray.size]))
def apG(d:Int)(hd:d<=24)(c:UInt8)(rest:Str)(hb:r.bad=false)(hs:bP r.s=c::rest)(hc:48<=(c.toNat:Int)/\(c.toNat:Int)<=57)(h:bT B base g vv r w):Calls Tryz.prog 50 #[.pointer (some (g,0)),↑d] w (vS B base g vv (vT r c rest) w):=by
 have HU:=Y h;have dN:=Y (uL (h.below ((Z _ _).alloc (zL _) CL)));have hBx:B<=w:=by have :=h.bg;omega
 have hcs:=bF;have f1:decide (24<d)=false:=by simp;omega
 have HB:=Y hb;have HS:=Y hs;obtain⟨S,hS⟩:∃S,S=bs (c::rest):=⟨_,rfl⟩;have nZ:=Y hS;have t1:S.toList.isEmpty=false:=by rw[hS,lN];rfl
 have t2:¬S.toList=[]:=by rw[hS,lN];simp
 have t3:0<S.size:=by rw[hS,eP];simp
 have hg0:S[0]=c:=by subst hS;exact JJ c rest t3
 have HG:=Y hg0;have hc0:0<=(S[0].toNat:Int):=zB;obtain⟨hc1,hc2⟩:=hc;have f2:decide ((65:Int)<=(S[0].toNat:Int))=false:=by rw[hg0];exact decide_eq_false zB
 have f4:((S[0].toNat:Int)==(33:Int))=false:=by rw[hg0];rw[Ak];omega
 have f5:((S[0].toNat:Int)==(45:Int))=false:=by rw[hg0];rw[Ak];omega
 have f6:decide ((48:Int)<=(S[0].toNat:Int))=true:=by rw[hg0];exact qG zB
 have f7:decide ((S[0].toNat:Int)<=(57:Int))=true:=by rw[hg0];exact qG zB
 have sV:=Y (show c=45\/mQ c=true from .inr (Nr.2 ⟨hc1,hc2⟩));clear hc1 hc2 hd hb hs hS hg0 h;go_enter Tryz.func50,Tryz.ntmps50;go_wp2_with fail;refine dN.o.mono ?_;rintro e w1⟨rfl,hst⟩;obtain⟨v1,h1,c1,g1,x1,hz1,n1⟩:=EC HU hst;have HI:=Y h1;have aM:=Y c1;have HV:=Y g1;have HX:=Y x1;have HN:=Y n1;obtain⟨b0,b1,b2,bf⟩:=h1.cells;have hgl:=h1.lt.1;have hgx:¬g=w.heap.size:=λe=>n1 (.inl e.symm);obtain⟨x0,x1,x2,x3,xf⟩:=aF x1;have e0:r.space.s=bP r.s:=rfl;have e2:r.space.bad=r.bad:=rfl;rw[e0]at b0;rw[e2]at b2;clear hst h1 c1 g1 n1 e0 e2;rw[HB.o]at b2;rw[HS.o,<-nZ.o]at b0;go_wp2_with fail;have Ya:=Y (afx c rest sV (by rw[<-HS.o];exact Ms r.s) HI);refine Ya.o.mono ?_;intro e w2 hp;unfold EA at hp;cases ho:xu (c::rest)with
  |none=>rw[ho]at hp;obtain⟨rfl,gu⟩:=hp;have gq:=Y (show vT r c rest=(.mk 2 0 ⟨#[]⟩ [],{r with s:=c::rest,bad:=true})by unfold vT;rw[ho]);clear ho;obtain⟨v2,k1,k2,k3,k4,k5⟩:=qR gu HX HN;have HI2:=Y k1;have dJ:=Y (nI aM HV k2 k3);have bu:=Y k4;have mq:=Y k5;obtain⟨b0,b1,b2,bf⟩:=k1.cells;have xx:=k1.lt.1;obtain⟨x0,x1,x2,x3,xf⟩:=aF k4;have e9:(⟨c::rest,r.space.vars,r.space.bad⟩:Rd).bad=false:=HB;rw[e9]at b2;clear gu k1 k2 k3 k4 k5 e9;go_wp2_with fail;obtain⟨v3,k1,k2,k3,k4,k5⟩:=qR (HI2.o.AA true) bu mq;obtain⟨k6,k7⟩:=nI dJ.o.1 dJ.o.2 k2 k3;rw[gq.o];refine bX (v:= .agg #[.int .i64 2,.int .i64 0,.string ⟨#[]⟩,.slice none 0 0]) (by simp[results,Tryz.results50,go_sem,hcs,x0,x1,x2,x3,hgx];try rfl) rfl ?_;exact xz k1 k6 k7 k5 hBx (CO R4 xA (by simp[ByteArray.size]))
  |some k=>
   rw[ho]at hp;obtain⟨rfl,gu⟩:=hp;have gq:=Y (show vT r c rest=(.mk 2 k ⟨#[]⟩ [],{r with s:=(c::rest).drop (ed (c::rest))})by unfold vT;rw[ho]);have HO:=Y ho.symm;clear ho;obtain⟨v2,k1,k2,k3,k4,k5⟩:=qR gu HX HN;have HI2:=Y k1;have dJ:=Y (nI aM HV k2 k3);have bu:=Y k4;have mq:=Y k5;obtain⟨b0,b1,b2,bf⟩:=k1.cells;have xx:=k1.lt.1;obtain⟨x0,x1,x2,x3,xf⟩:=aF k4;have e9:(⟨(c::rest).drop (ed (c::rest)),r.space.vars,r.space.bad⟩:Rd).bad=false:=HB;rw[e9]at b2;have hkb:=afG HO;clear gu k1 k2 k3 k4 k5 e9;go_wp2_with fail;obtain⟨v3,k1,k2,k3,k4,k5⟩:=qR (HI2.o.AA false) bu mq;obtain⟨k6,k7⟩:=nI dJ.o.1 dJ.o.2 k2 k3;rw[gq.o];have e8:(⟨(c::rest).drop (ed (c::rest)),r.space.vars,false⟩:Rd)={r with s:=(c::rest).drop (ed (c::rest))}:=by rw[<-HB.o];rfl
   rw[<-e8];refine bX (v:= .agg #[.int .i64 2,↑k,.string ⟨#[]⟩,.slice none 0 0]) (by simp[results,Tryz.results50,go_sem,hcs,x0,x1,x2,x3,hgx];try rfl) rfl ?_;exact xz k1 k6 k7 k5 hBx (CO R4 (by unfold ah;omega) (by simp[ByteArray.size]))
end
