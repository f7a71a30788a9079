import Derived.Test.YtlpmfkpefoegeacGreatDoorQOwn
namespace Go.Proofs.YtlpmfkpefoegeacGreatDoor
set_option maxRecDepth 99999
set_option maxHeartbeats 0
set_option linter.all false
def dh(b:Nat)(c:Ce):Ce:=if c.kind=0 then{c with n:=c.n+b}else c
def lD(b:Nat)(l:List Ce)(j:Nat):List Ce:=l.mapIdx fun i c=>if b<=i/\i<j then dh b c else c
theorem Mr(b:Nat)(l:List Ce)(j:Nat):(lD b l j).length=l.length:=by simp[lD]
theorem E5(b:Nat)(l:List Ce)(j i:Nat)(h:i<(lD b l j).length):(lD b l j)[i]=if b<=i/\i<j then dh b (l[i]'(by rw[Mr]at h;exact h))else l[i]'(by rw[Mr]at h;exact h):=by simp[lD]
theorem aid(b:Nat)(l:List Ce):lD b l b=l:=by apply lV (by simp[lD]);intro i h1 h2;rw[E5,ae (by omega)]
theorem Zi(b:Nat)(l:List Ce)(j:Nat)(hb:b<=j)(hj:j<l.length):lD b l (j+1)=(lD b l j).set j (dh b l[j]):=by
 apply lV (by simp[lD]);intro i h1 h2;rw[E5,Cv];by_cases e:j=i;·subst e;rw[ah ⟨hb,by omega⟩,ah rfl]
 ·rw[ae e,E5];by_cases e2:b<=i/\i<j;·rw[ah e2,ah ⟨e2.1,by omega⟩]
  ·rw[ae e2,ae (by omega)]
theorem aie(b:Nat)(l:List Ce)(j:Nat)(hb:b<=j)(hj:j<l.length)(hk:(l[j]).kind≠0):lD b l (j+1)=lD b l j:=by
 rw[Zi b l j hb hj];apply lV (by simp);intro i h1 h2;rw[Cv];split;·rename_i e;subst e;rw[E5,ae (by omega),dh,ae hk]
 ·rfl
theorem aif(l bl:List Ce):lD l.length (l++bl) (l++bl).length=l++bl.map (dh l.length):=by
 apply lV (by simp[lD]);intro i h1 h2;rw[E5];by_cases e:l.length<=i;·rw[ah ⟨e,by simpa[lD]using h1⟩,Ll e,Ll e,Ls]
 ·rw[ae (by omega),Eo (by omega),Eo (by omega)]
open Classical in noncomputable def fZ(h:Hp)(bl:List Ce):Hp×Int×Int:=if ¬(h.Good/\Hp.Good ⟨bl,[]⟩)then(h,0,1)else if 65536<h.cells.length+bl.length then(h,0,3)else(⟨h.cells++bl.map (dh h.cells.length),h.trail⟩,h.cells.length,0)
open Go.RowKit
def Rf{α:Type}(f:α->List Value)(ok:α->Prop)(E:TypeId)(size:Nat)(base:Nat)(l:List α)(r:Value)(w':World):Prop:=af f ok E size w' base l r
theorem Ms(l:List Ce)(A:Nat->Prop)(w:World)(v:Value)(hv:aj 3 Ce.rep A w l v):Calls Tryz.prog 60 #[v] w (Pure w (Rf Ce.vals Ce.Ok 112 3 w.heap.size l)):=by
 obtain⟨a,cap,b,off,rfl,hlc,hcm,hlb,ha,he⟩:=hv.at;have HV:=zh hv;clear hv he;have qT:∀(w:World)(a:Option Addr)(n c:Nat),(binOp .eql 56 (.slice a n c) (.slice none 0 0)).run Tryz.prog w= .ok (.bool a.isNone) w:=fun w a n c=>Lib.run_eql_slice_nil w _ _ a n c _ _ Tryz.underlying56;cases a with
  |none=>
   have h0:l=[]:=by cases l with|nil=>rfl|cons x r=>have :=(ha (by simp)).1;cases this
   subst h0;go_enter Tryz.func60,Tryz.ntmps60;go_wp2_with fail;go_ret;exact⟨_,rfl,zB _ _,af.nil⟩
  |some p=>have HA:=zh ha;clear ha;have uu:Hd (∀w',Below w.heap.size w w'->∀g,w.heap.size<=g->aj 3 Ce.rep (fun b=>True/\ownB (.slice (some ⟨g,0,none⟩) 0 0)≠some b) w' l (.slice (some p) l.length cap)):=fun w' hb g hg=>aj.mono Ce.aA (by omega) (aj.keeps Ce.aA HV.o (ag.ob hb)) (fun b _ _=>⟨trivial,by simp[ownB]⟩);go_enter Tryz.func60,Tryz.ntmps60;go_wp2_with(at_builtin;refine QR rfl (.tmp 5) (.tmp 6) 56 rfl w.heap.size 112 3 32 AX Ce.aA (A:=fun _=>True) (.slice (some ⟨w.heap.size,0,none⟩) 0 0) [] rfl ((af.eZ Ce.jD (ok:=Ce.Ok) (l:=[]) ⟨⟨by simp,.inl ⟨rfl,_,rfl⟩⟩,fun x h=>by simp at h⟩ _)) _ rfl l (uu.o _ ((zB _ _).alloc (zL _) _) _ (zL _)) (by simp;omega) (by simp) ?_;intro v2 w2 hown az);go_ret;exact⟨_,rfl,az.below ((zB _ _).alloc (zL _) _) (by simp) (fun k h=>by simp[ownB]at h),af.eB hown⟩
theorem Rh(l:List Int)(A:Nat->Prop)(w:World)(v:Value)(hv:aj 1 nu A w l v):Calls Tryz.prog 132 #[v] w (Pure w (Rf yJ au 3 1 w.heap.size l)):=by
 obtain⟨a,cap,b,off,rfl,hlc,hcm,hlb,ha,he⟩:=hv.at;have HV:=zh hv;clear hv he;have qT:∀(w:World)(a:Option Addr)(n c:Nat),(binOp .eql 57 (.slice a n c) (.slice none 0 0)).run Tryz.prog w= .ok (.bool a.isNone) w:=fun w a n c=>Lib.run_eql_slice_nil w _ _ a n c _ _ Tryz.underlying57;cases a with
  |none=>
   have h0:l=[]:=by cases l with|nil=>rfl|cons x r=>have :=(ha (by simp)).1;cases this
   subst h0;go_enter Tryz.func132,Tryz.ntmps132;go_wp2_with fail;go_ret;exact⟨_,rfl,zB _ _,af.nil⟩
  |some p=>have HA:=zh ha;clear ha;have uu:Hd (∀w',Below w.heap.size w w'->∀g,w.heap.size<=g->aj 1 nu (fun b=>True/\ownB (.slice (some ⟨g,0,none⟩) 0 0)≠some b) w' l (.slice (some p) l.length cap)):=fun w' hb g hg=>aj.mono aQ (by omega) (aj.keeps aQ HV.o (ag.ob hb)) (fun b _ _=>⟨trivial,by simp[ownB]⟩);go_enter Tryz.func132,Tryz.ntmps132;go_wp2_with(at_builtin;refine QR rfl (.tmp 5) (.tmp 6) 57 rfl w.heap.size 3 1 8 je aQ (A:=fun _=>True) (.slice (some ⟨w.heap.size,0,none⟩) 0 0) [] rfl ((af.eZ dO (ok:=au) (l:=[]) ⟨⟨by simp,.inl ⟨rfl,_,rfl⟩⟩,fun x h=>by simp at h⟩ _)) _ rfl l (uu.o _ ((zB _ _).alloc (zL _) _) _ (zL _)) (by simp;omega) (by simp) ?_;intro v2 w2 hown az);go_ret;exact⟨_,rfl,az.below ((zB _ _).alloc (zL _) _) (by simp) (fun k h=>by simp[ownB]at h),af.eB hown⟩
def E8(A:Nat->Prop)(x:Hp×Int×Int)(r:Value)(w':World):Prop:=∃us,r= .tuple #[.agg us.toArray,.int .i64 x.2.1,.int .i64 x.2.2]/\Hp.rep A w' x.1 us
theorem Hp.aih{A:Nat->Prop}{w:World}{bl:List Ce}{v:Value}(hv:pI A w bl v):Hp.rep A w ⟨bl,[]⟩ [v,.slice none 0 0]:=⟨v,_,rfl,hv,aj.nil ..⟩
theorem Pure.mk{w w':World}{R:Value->World->Prop}{v:Value}(hb:Below w.heap.size w w')(hr:R v w'):Pure w R (.returned v) w':=⟨v,rfl,hb,hr⟩
theorem bM{w:World}{g:Nat}{E:TypeId}{v0 v1:Value}(h:w.heap[g]?=some (.cells #[v0,v1] E (0,0))):w.cell? ⟨g,0,none⟩=some v0/\w.cell? ⟨g,1,none⟩=some v1/\∀o,w.frozen? ⟨g,o,none⟩=false:=⟨(dw h 0).trans rfl,(dw h 1).trans rfl,fun o=>by simp[World.frozen?,h]⟩
theorem E8.old{A:Nat->Prop}{w w':World}{h:Hp}{vs:List Value}{n e:Int}(hh:Hp.rep A w h vs)(hb:Below w.heap.size w w'):E8 (fun b=>A b\/New w b) (h,n,e) (.tuple #[.agg vs.toArray,.int .i64 n,.int .i64 e]) w':=⟨vs,rfl,Hp.rep.mono (Hp.rep.keeps hh (ag.ob hb)) (fun _ _ h=> .inl h)⟩
theorem aI.j5{α:Type}{w:World}{base:Nat}{E:TypeId}{size:Nat}{R:(Nat->Prop)->World->α->List Value->Prop}{A:Nat->Prop}{xs:List α}{v:Value}(h:aI w base E size R A xs v):∃a cap,v= .slice a xs.length cap/\xs.length<=cap/\cap<=maxLen:=by
 obtain⟨vals,hl,ho,he⟩:=h;rcases ho.2 with⟨h0,a,rfl⟩|⟨g,cap,cur,rfl,hc,hb,hg,hnc,hcm,_⟩;·exact⟨a,0,by rw[h0],by omega,by simp[maxLen]⟩
 ·exact⟨_,cap,rfl,hnc,hcm⟩
theorem iL.j5{w:World}{base:Nat}{l:List Ce}{v:Value}(h:iL w base l v):∃a cap,v= .slice a l.length cap/\l.length<=cap/\cap<=maxLen:=af.val h
def aii(w:World)(base:Nat)(X1 X2:Obj)(l:List Ce)(v:Value)(wr:World):Prop:=Below w.heap.size w wr/\wr.heap[w.heap.size]?=some X1/\wr.heap[w.heap.size+1]?=some X2/\iL wr base l v
theorem pI.aij{w:World}{base:Nat}{l:List Ce}{v:Value}{A:Nat->Prop}(h:iL w base l v)(hl:l.length<=1048576)(hA:∀b,ownB v=some b->A b):pI A w l v:=af.sl Ce.jD Ce.yR h hl hA
theorem Ri(h:Hp)(bl:List Ce)(A:Nat->Prop)(w:World)(vs:List Value)(v:Value)(hh:Hp.rep A w h vs)(hv:pI A w bl v):Calls Tryz.prog 33 #[.agg vs.toArray,v] w (Pure w (E8 (fun b=>A b\/New w b) (fZ h bl))):=by
 obtain⟨a,cap,b,aN,rfl,hc1,hc2,hc3,ht1,ht2,ht3,hc,ht⟩:=Hp.kY hh;obtain⟨a',cap',b',off',rfl,Zj,hcm',Zk, -, -⟩:=hv.at;have HH:=zh hh;have HC:=zh hc;have HV:=zh hv;have lZ:=zh (fun w'(hk:ag A w w')=>AQ h A w' _ (Hp.rep.keeps hh hk));have HG2:=zh (fun w'(hk:ag A w w')=>AQ ⟨bl,[]⟩ A w' _ (Hp.rep.keeps (Hp.aih hv) hk));have HTR:=zh ht;clear hh hv hc ht;go_enter Tryz.func33,Tryz.ntmps33;go_wp2_with fail;refine(lZ.o _ ((ag.alloc _ _ _).trans (ag.alloc _ _ _))).mono ?_;rintro e w1⟨v,rfl,hb1,t,rfl,ht⟩;have h2:=mG w (.cells #[.slice a h.cells.length cap,.slice b h.trail.length aN] 59) (.cells #[.slice none 0 0,.slice none 0 0] 59);have bR:=zh (aL h2.1 hb1);have bG:=zh (aL h2.2 hb1);have HB:=zh (show Below w.heap.size w w1 from gU (gU (hb1.mono (by simp))));have hz:w.heap.size+1<w1.heap.size:=by have :=hb1.size;simp at this;omega
 have hz':w.heap.size<w1.heap.size:=by omega
 have HT:=zh ht;have hcs:=dz;clear h2 hb1 ht;obtain⟨x0,x1,xf⟩:=bM bR.o;obtain⟨y0,y1,yf⟩:=bM bG.o;cases t with
  |false=>
   go_wp2_with fail;refine cK (v:= .tuple #[.agg #[.slice a h.cells.length cap,.slice b h.trail.length aN],.int .i64 0,.int .i64 1]) (by simp[results,Tryz.results33,go_sem,hcs,x0,x1,y0,y1]) rfl ?_;have hg:¬(h.Good/\Hp.Good ⟨bl,[]⟩):=fun hg=>by have :=HT.o.2 hg.1;cases this
   have hb:Below w.heap.size w ((w1.setCell ⟨w.heap.size+1,0,none⟩ (.slice a h.cells.length cap)).setCell ⟨w.heap.size+1,1,none⟩ (.slice b h.trail.length aN)):=bH (bH HB.o (by simp) _) (by simp) _;rw[fZ,ah hg];exact Pure.mk hb (E8.old HH.o hb)
  |true=>
   have HT1:=zh (HT.o.1 rfl);clear HT;go_wp2_with fail;refine(HG2.o _ (ag.ob HB.o)).mono ?_;rintro e w2⟨v,rfl,hb2,t,rfl,ht⟩;have Zl:=zh (aL bR.o hb2);have Zm:=zh (aL bG.o hb2);have Mt:=zh (show Below w.heap.size w w2 from HB.o.trans (hb2.mono (by omega)));have hz2:w.heap.size+1<w2.heap.size:=by have :=hb2.size;omega
   have hz2':w.heap.size<w2.heap.size:=by omega
   have Zn:=zh ht;clear ht x0 x1 xf y0 y1 yf hb2;obtain⟨x0,x1,xf⟩:=bM Zl.o;obtain⟨y0,y1,yf⟩:=bM Zm.o;cases t with
    |false=>
     go_wp2_with fail;refine cK (v:= .tuple #[.agg #[.slice a h.cells.length cap,.slice b h.trail.length aN],.int .i64 0,.int .i64 1]) (by simp[results,Tryz.results33,go_sem,hcs,x0,x1,y0,y1]) rfl ?_;have hg:¬(h.Good/\Hp.Good ⟨bl,[]⟩):=fun hg=>by have :=Zn.o.2 hg.2;cases this
     have hb:Below w.heap.size w ((w2.setCell ⟨w.heap.size+1,0,none⟩ (.slice a h.cells.length cap)).setCell ⟨w.heap.size+1,1,none⟩ (.slice b h.trail.length aN)):=bH (bH Mt.o (by simp) _) (by simp) _;rw[fZ,ah hg];exact Pure.mk hb (E8.old HH.o hb)
    |true=>
     have hg:h.Good/\Hp.Good ⟨bl,[]⟩:=⟨HT1.o,Zn.o.1 rfl⟩;have HG:=zh hg;have hl1:h.cells.length<=65536:=hg.1.2.2.1;have hl2:bl.length<=65536:=hg.2.2.2.1;clear hg;by_cases hbig:65536<h.cells.length+bl.length
     ·have hbig':(65536:Int)<h.cells.length+bl.length:=by omega
      go_wp2_with fail;refine cK (v:= .tuple #[.agg #[.slice a h.cells.length cap,.slice b h.trail.length aN],.int .i64 0,.int .i64 3]) (by simp[results,Tryz.results33,go_sem,hcs,x0,x1,y0,y1]) rfl ?_;have hb:Below w.heap.size w ((w2.setCell ⟨w.heap.size+1,0,none⟩ (.slice a h.cells.length cap)).setCell ⟨w.heap.size+1,1,none⟩ (.slice b h.trail.length aN)):=bH (bH Mt.o (by simp) _) (by simp) _;rw[fZ,ae (dL HG.o),ah hbig];exact Pure.mk hb (E8.old HH.o hb)
     ·have hbig':(h.cells.length:Int)+bl.length<=65536:=by omega
      go_wp2_with fail;refine(Ms h.cells A _ _ (aj.keeps Ce.aA HC.o (ag.ob Mt.o))).mono ?_;rintro e w3⟨v,rfl,hb3,hown⟩;obtain⟨ca,cc,rfl,hcl,hcm⟩:=iL.j5 hown;have Zo:=zh (aL Zl.o hb3);have Zp:=zh (aL Zm.o hb3);have Zq:=zh (show Below w.heap.size w w3 from Mt.o.trans (hb3.mono (by omega)));have hz3:w2.heap.size<=w3.heap.size:=hb3.size;have HO:=zh (af.eZ Ce.jD hown (fun _=>True));have uu:Hd (pI (fun b=>True/\ownB (.slice ca h.cells.length cc)≠some b) w3 bl (.slice a' bl.length cap')):=by have h1:=aj.mono (A':=fun b=>A b/\b<w.heap.size) Ce.aA (by omega) HV.o (fun b hb h=>⟨h,hb⟩);exact aj.mono Ce.aA (by omega) (aj.keeps Ce.aA h1 (ag.ob Zq.o)) (fun b _ hb=>⟨trivial,fun e=>by have :=(af.lt hown b e).1;omega⟩)
      clear hown hb3 x0 x1 xf y0 y1 yf;obtain⟨x0,x1,xf⟩:=bM Zo.o;obtain⟨y0,y1,yf⟩:=bM Zp.o;go_wp2_with(at_builtin;refine QR rfl (.tmp 31) (.tmp 32) 56 rfl w2.heap.size 112 3 32 AX Ce.aA (A:=fun _=>True) (.slice ca h.cells.length cc) h.cells rfl HO.o _ rfl bl uu.o (by omega) hz3 ?_;intro v2 w4 hown az;obtain⟨va,vc,hv2,hvl,mM⟩:=aI.j5 hown;rw[bA]at hv2 hvl;subst hv2;have gN:=zh (af.eB hown);have Zr:=zh az;have lF:=az.size;clear hown az);have hbb:h.cells.length<=(h.cells++bl).length:=by simp
      have IE:=zh HG.o.2.1;have HLen:=zh (show(h.cells++bl).length=h.cells.length+bl.length from bA);have hN:(h.cells++bl).length<=65536:=by rw[HLen.o];omega
      have Zt:Below w.heap.size w w4:=Zr.o.below Zq.o (by omega) (fun k hk=>by have :=(af.lt (af.eB HO.o) k hk).1;omega);have hkeep:∀k,k<w2.heap.size->w4.heap[k]?=w3.heap[k]?:=fun k hk=>Zr.o.grown.block k (by omega) (fun e=>by have :=(af.lt (af.eB HO.o) k e.symm).1;omega);have yX:=zh ((hkeep _ hz2').trans Zo.o);have Rj:=zh ((hkeep _ hz2).trans Zp.o);have ail:=zh Zt;clear Zt hkeep x0 x1 xf y0 y1 yf;go_loopw[9](fun i wr=>∃j:Nat,h.cells.length<=j/\j<=h.cells.length+bl.length/\i= .int .i64 j/\aii w w2.heap.size (.cells #[.slice a h.cells.length cap,.slice b h.trail.length aN] 59) (.cells #[.slice none 0 0,.slice none 0 0] 59) (lD h.cells.length (h.cells++bl) j) (.slice va (h.cells.length+bl.length) vc) wr)(fun i _=>h.cells.length+bl.length - (intOf i).toNat);case atStart=>exact⟨h.cells.length,zL _,by omega,rfl,ail.o,yX.o,Rj.o,by rw[aid];exact gN.o⟩
      case round=>
       obtain⟨j,hj0,hj,rfl,hinv⟩:=hrel;have HI:=zh hinv;obtain⟨hib,hi1,hi2,vN⟩:=hinv;have hsz5:w.heap.size+1<wr.heap.size:=aD hi2;clear hib hi1 hi2;by_cases hlt:j<h.cells.length+bl.length
       ·have hlj:j<(h.cells++bl).length:=by rw[HLen.o];exact hlt
        have hsl:(lD h.cells.length (h.cells++bl) j).length=h.cells.length+bl.length:=by rw[Mr,HLen.o]
        obtain⟨g,gc,yY,arU,Rk,aim,bX,hfz,hgl,hgb,hcell⟩:=af.at Ce.jD vN (by omega);rw[hsl]at yY;simp only[eX,fH]at yY;obtain⟨rfl,rfl⟩:=yY;have hjl:j<(lD h.cells.length (h.cells++bl) j).length:=by rw[Mr];exact hlj
        obtain⟨c,hc⟩:∃c,c=(h.cells++bl)[j]:=⟨_,rfl⟩;have hcj:(lD h.cells.length (h.cells++bl) j)[j]'hjl=c:=by rw[E5,ae (by omega),hc]
        have c0:=hcell j hjl 0 (.int .i64 c.kind) (by rw[hcj];rfl);have c1:=hcell j hjl 1 (.int .i64 c.n) (by rw[hcj];rfl);simp only[qz]at c0;have hbj:j - h.cells.length<bl.length:=by omega
        have hcb:c=bl[j - h.cells.length]:=hc.trans (Ll hj0);have hok:=IE.o (j - h.cells.length) hbj;simp only at hok;rw[<-hcb]at hok;have Zu:c.Ok:=vN.2 c (by rw[<-hcj];exact bZ _);have A9:=zh hc;clear hc;have yZ:=zh Zu;have y5:=zh hcj;have uu:=zh hsl;have gV:=zh bX;have CQ:=zh vN;clear hcell hcb hcj Zu hsl bX vN;have arV:(0:Int)<=(j:Int):=zN _;have arW:(j:Int)<(h.cells.length:Int)+bl.length:=by omega
        by_cases hk:c.kind=0
        ·have hn:0<=c.n/\c.n<65536:=by unfold Ce.fo at hok;omega
         obtain⟨hn0,hn1⟩:=hn;have HK:=zh hk;rw[hk]at c0;clear hk hok;go_wp2_with fail;go_roundw;case rel=>
          refine⟨j+1,by omega,by omega,by go_num,bH HI.o.1 (by simp only;omega) _,?_,?_,?_⟩;·rw[bC _ _ _ _ (by simp;omega)];exact HI.o.2.1
          ·rw[bC _ _ _ _ (by simp;omega)];exact HI.o.2.2.1
          ·rw[Zi _ _ _ hj0 hlj,<-A9.o];refine af.set Ce.jD CQ.o gV.o (by rw[uu.o];exact hlt) (by omega) ?_ ?_;·rw[y5.o,dh,ah HK.o];rfl
           ·rw[dh,ah HK.o];obtain⟨o1,o2,o3⟩:=yZ.o;exact⟨o1,by unfold au;simp only;omega,o3⟩
         case measure=>simp[intOf];omega
        ·have hk':(c.kind==0)=false:=by simpa using hk
         have HK:=zh hk;clear hk hok;go_wp2_with fail;go_roundw;case rel=>refine⟨j+1,by omega,by omega,by go_num,HI.o.1,HI.o.2.1,HI.o.2.2.1,?_⟩;rw[aie _ _ _ hj0 hlj (by rw[<-A9.o];exact HK.o)];exact CQ.o
         case measure=>simp[intOf];omega
       ·have dm:j=h.cells.length+bl.length:=by omega
        have HJE:=zh dm;have hib:=HI.o.2.1;have hic:=HI.o.2.2.1;obtain⟨x0,x1,xf⟩:=bM hib;obtain⟨y0,y1,yf⟩:=bM hic;have CQ:=zh vN;clear hib hic dm vN;go_wp2_with fail;refine cK (v:= .tuple #[.agg #[.slice va (h.cells.length+bl.length) vc,.slice b h.trail.length aN],.int .i64 h.cells.length,.int .i64 0]) (by simp[results,Tryz.results33,go_sem,hcs,x0,x1,y0,y1]) rfl ?_;have hb:Below w.heap.size w ((wr.setCell ⟨w.heap.size+1,0,none⟩ (.slice va (h.cells.length+bl.length) vc)).setCell ⟨w.heap.size+1,1,none⟩ (.slice b h.trail.length aN)):=bH (bH HI.o.1 (by simp) _) (by simp) _;rw[fZ,ae (dL HG.o),ae hbig];refine Pure.mk hb ⟨_,rfl,_,_,rfl,?_,?_⟩
        ·have h6:=CQ.o;rw[HJE.o]at h6;rw[show lD h.cells.length (h.cells++bl) (h.cells.length+bl.length)=h.cells++bl.map (dh h.cells.length)from by rw[<-HLen.o];exact aif _ _]at h6;refine pI.aij (af.kept h6 fun k hk=>?_) (by simp;omega) (fun k hk=>?_);·have :=(h6.lt k hk).1;rw[bC _ _ _ _ (by simp;omega),bC _ _ _ _ (by simp;omega)]
         ·have :=(h6.lt k hk).1;exact .inr (by unfold New;omega)
        ·exact aj.mono aQ (by omega) (aj.keeps aQ HTR.o (ag.ob hb)) (fun _ _ h=> .inl h)
def IG(n:Int)(r:Value)(_:World):Prop:=r= .int .i64 n
theorem aio{A:Nat->Prop}{w:World}{h:Hp}{vs:List Value}(hh:Hp.rep A w h vs):∃a cap b aN cb oo tb CJ,vs=[.slice a h.cells.length cap,.slice b h.trail.length aN]/\h.cells.length<=cap/\cap<=maxLen/\h.cells.length<=1048576/\h.trail.length<=aN/\aN<=maxLen/\h.trail.length<=1048576/\Hd (0<h.cells.length->a=some ⟨cb,oo,none⟩/\A cb)/\Hd (kM A w 3 Ce.rep h.cells cb oo)/\Hd (0<h.trail.length->b=some ⟨tb,CJ,none⟩/\A tb)/\Hd (kM A w 1 nu h.trail tb CJ):=by obtain⟨a,cap,b,aN,rfl,hc1,hc2,hc3,ht1,ht2,ht3,hc,ht⟩:=Hp.kY hh;obtain⟨_,_,cb,oo,e, -, -, -,ha,he⟩:=hc.at;simp only[eX,fH]at e;obtain⟨rfl,rfl⟩:=e;obtain⟨_,_,tb,CJ,e, -, -, -,hb,hf⟩:=ht.at;simp only[eX,fH]at e;obtain⟨rfl,rfl⟩:=e;exact⟨a,cap,b,aN,cb,oo,tb,CJ,rfl,hc1,hc2,hc3,ht1,ht2,ht3,zh ha,zh he,zh hb,zh hf⟩
def aip(l:List Ce)(a0:Int)(i:Nat)(a:Int):Prop:=nz l (l.length+1 - i) a=look l a0/\au a
theorem look_ok(h:Hp)(a:Int)(ha:au a)(A:Nat->Prop)(w:World)(vs:List Value)(hh:Hp.rep A w h vs):Calls Tryz.prog 131 #[.agg vs.toArray,.int .i64 a] w (Pure w (IG (look h.cells a))):=by
 obtain⟨va,cap,vb,aN,cb,oo,tb,CJ,rfl,hc1,hc2,hc3,ht1,ht2,ht3,HA,HE,EM,xu⟩:=aio hh;have HI:=zh ha;clear hh ha;go_enter Tryz.func131,Tryz.ntmps131;go_wp2_with fail;go_loopw[1,10](fun x i wr=>∃(j:Nat)(b:Int),j<=h.cells.length+1/\i= .int .i64 j/\x= .int .i64 b/\Below (w.heap.size+1) (w.alloc (.cells #[.slice va h.cells.length cap,.slice vb h.trail.length aN] 59)) wr/\aip h.cells a j b)(fun _ i _=>h.cells.length+1 - (intOf i).toNat);case atStart=>exact⟨0,a,dD _,rfl,rfl,zB _ _,rfl,HI.o⟩
 case round=>
  obtain⟨j,b,hj,rfl,rfl,hb,hst⟩:=hrel;have HB:=zh hb;have HS:=zh hst.1;have hz:=hb.size;simp only[bF]at hz;have hz':w.heap.size<wr.heap.size:=hz;have f0:wr.cell? ⟨w.heap.size,0,none⟩=some (.slice va h.cells.length cap):=by rw[hb.cell (by simp)];simp
  have hbi:=hst.2;clear hb hst;by_cases hlt:j<h.cells.length+1
  ·have hlt':(j:Int)<(h.cells.length:Int)+1:=by omega
   have HK:=zh (show h.cells.length+1 - j=(h.cells.length - j)+1 by omega);by_cases hin:Inb h.cells b
   ·obtain⟨v,rfl,hv,hcv⟩:=mJ hin;have y7:=zh hcv;obtain⟨rfl,cO⟩:=HA.o (by omega);have hk2:ag A w wr:=(ag.alloc _ _ _).trans (ag.ob (HB.o.mono (by simp)));obtain⟨c0,c1,c2,i0,i1,i2⟩:=vG HE.o cO hk2 hv;have hlb:cb<wr.heap.size:=mX wr _ c0;have hv0:(0:Int)<=(v:Int):=zN _;have hv1:(v:Int)<(h.cells.length:Int):=by omega
    have gW:=zh hin;clear hk2 hcv hin;by_cases hs:Stop h.cells (v:Int)
    ·have hres:look h.cells a=(v:Int):=by have :=HS.o;rw[HK.o,nz,ae (dL gW.o),ah hs]at this;exact this.symm
     have jy:=zh hres;unfold Stop at hs;rw[y7.o]at hs;have HST:=zh hs;clear hres hs;by_cases hk:h.cells[v].kind=0;·have hn:h.cells[v].n=v:=HST.o.resolve_left (dL hk);rw[hk]at c0;rw[hn]at c1;clear hk hn;go_wp2_with fail;go_ret;exact⟨_,rfl,gU ((HB.o.alloc hz _).mono (by simp)),by unfold IG;rw[jy.o];rfl⟩
     ·have hk':(h.cells[v].kind != 0)=true:=by simpa using hk
      clear hk;go_wp2_with fail;go_ret;exact⟨_,rfl,gU ((HB.o.alloc hz _).mono (by simp)),by unfold IG;rw[jy.o];rfl⟩
    ·have hnx:nz h.cells (h.cells.length - j) h.cells[v].n=look h.cells a:=by have :=HS.o;rw[HK.o,nz,ae (dL gW.o),ae hs,y7.o]at this;exact this
     have fV:=zh hnx;unfold Stop at hs;rw[y7.o]at hs;have hk:h.cells[v].kind=0:=agz.1 fun e=>hs (.inl e);have hn:¬h.cells[v].n=v:=fun e=>hs (.inr e);have hn':(h.cells[v].n==(v:Int))=false:=by simpa using hn
     rw[hk]at c0;clear hs hk hn hnx;go_wp2_with fail;go_roundw;case rel=>refine⟨j+1,h.cells[v].n,by omega,by go_num,rfl,HB.o.alloc hz _,?_,i1⟩;rw[show h.cells.length+1 - (j+1)=h.cells.length - j by omega];exact fV.o
     case measure=>simp[intOf];omega
   ·have hres:look h.cells a= -1:=by have :=HS.o;rw[HK.o,nz,ah hin]at this;exact this.symm
    have jy:=zh hres;unfold Inb at hin;clear hres;go_wp2_with fail;all_goals first|(exfalso;omega)|(go_ret;exact⟨_,rfl,gU (HB.o.mono (by simp)),by unfold IG;rw[jy.o];rfl⟩)|go_ways
  ·have hres:look h.cells a= -1:=by have :=HS.o;rw[show h.cells.length+1 - j=0 by omega,nz]at this;exact this.symm
   have jy:=zh hres;clear hres;have dm:j=h.cells.length+1:=by omega
   subst dm;go_wp2_with fail;go_ret;exact⟨_,rfl,gU (HB.o.mono (by simp)),by unfold IG;rw[jy.o];rfl⟩
def bq(u:Value):Value->World->Prop:=fun v _=>v=u
def II(base:Nat)(l:List Ce):Value->World->Prop:=fun v w=>iL w base l v
def pM(base:Nat)(l:List Int):Value->World->Prop:=fun v w=>dA w base l v
def vO(R:Value->World->Prop):Prop:=∀v w w',R v w->Below w.heap.size w w'->R v w'
theorem Ba(u:Value):vO (bq u):=fun _ _ _ h _=>h
theorem CR(base:Nat)(l:List Ce):vO (II base l):=fun v w w' h hb=>af.below h hb
theorem Bb(base:Nat)(l:List Int):vO (pM base l):=fun v w w' h hb=>af.below h hb
def posts(ps:List (Value->World->Prop))(i:Nat):Value->World->Prop:=ps.getD i fun _ _=>True
theorem Bc{ps:List (Value->World->Prop)}(h:∀R∈ps,vO R)(i:Nat)(v:Value)(w w':World)(hp:posts ps i v w)(hb:Below w.heap.size w w'):posts ps i v w':=by
 unfold posts at*;by_cases hi:i<ps.length
 ·have e:ps.getD i (fun _ _=>True)=ps[i]:=by simp[List.getD,hi]
  rw[e]at hp ⊢;exact h _ (bZ hi) v w w' hp hb
 ·simp[List.getD,hi]
theorem pO{α β:Type}{f:α->List Value}{ok:α->Prop}{f':β->List Value}{ok':β->Prop}{E E':TypeId}{size size' base base':Nat}{w:World}{l:List α}{l':List β}{v v':Value}(hE:E≠E')(h:af f ok E size w base l v)(h':af f' ok' E' size' w base' l' v'):∀k,ownB v=some k->ownB v'≠some k:=by
 intro k hk hk';have key:∀{α:Type}{f:α->List Value}{ok:α->Prop}{E:TypeId}{size base:Nat}{l:List α}{v:Value},af f ok E size w base l v->ownB v=some k->∃c,w.heap[k]?=some (.cells c E (0,0)):=by
  intro α f ok E size base l v h hk;rcases h.1.2 with⟨_,a,rfl⟩|⟨g,cap,cur,rfl,hc,hb,hg,_⟩;·cases a<;>simp[ownB]at hk
  ·simp only[ownB,Ap.1 hc,if_false,cZ]at hk;subst hk;exact⟨cur,hg⟩
 obtain⟨c,h1⟩:=key h hk;obtain⟨c',h2⟩:=key h' hk';rw[h1]at h2;simp only[cZ,Obj.cells.injEq]at h2;exact hE h2.2.1
def aiq(w:World)(base:Nat)(h:Hp)(vs:List Value):Prop:=∃c t,vs=[c,t]/\iL w base h.cells c/\dA w base h.trail t
def Rm(base:Nat)(h:Hp):Value->World->Prop:=fun v w=>∃us,v= .agg us.toArray/\aiq w base h us
theorem air(base:Nat)(h:Hp):vO (Rm base h):=fun v w w'⟨us,e,c,t,e2,h1,h2⟩hb=>⟨us,e,c,t,e2,af.below h1 hb,af.below h2 hb⟩
theorem af.dU{α:Type}{f:α->List Value}{ok:α->Prop}{E E':TypeId}{size base:Nat}{w:World}{l:List α}{v:Value}{g:Nat}{c:Array Value}{fr:Nat×Nat}(h:af f ok E size w base l v)(hb:w.heap[g]?=some (.cells c E' fr))(hE:E≠E'):ownB v≠some g:=by
 intro hk;rcases h.1.2 with⟨_,a,rfl⟩|⟨g',cap,cur,rfl,hc,hb',hg,_⟩;·cases a<;>simp[ownB]at hk
 ·simp only[ownB,Ap.1 hc,if_false,cZ]at hk;subst hk;rw[hg]at hb;simp only[cZ,Obj.cells.injEq]at hb;exact hE hb.2.1
theorem fO{w:World}{g:Nat}{E:TypeId}{v0 v1 v2:Value}(h:w.heap[g]?=some (.cells #[v0,v1,v2] E (0,0))):w.cell? ⟨g,0,none⟩=some v0/\w.cell? ⟨g,1,none⟩=some v1/\w.cell? ⟨g,2,none⟩=some v2/\∀o,w.frozen? ⟨g,o,none⟩=false:=⟨(dw h 0).trans rfl,(dw h 1).trans rfl,(dw h 2).trans rfl,fun o=>by simp[World.frozen?,h]⟩
def jA(g base:Nat)(cv tv:Value)(l:List Ce)(t:List Int)(k:Int)(w:World):Prop:=w.heap[g]?=some (.cells #[cv,tv,.int .i64 k] 191 (0,0))/\iL w base l cv/\dA w base t tv/\base<=g/\l.length<=65536/\(t.length:Int)+k<=70000/\ -1<=k/\k<=400
section
variable {g base : Nat} {cv tv : Value} {l : List Ce} {t : List Int} {k : Int} {w : World}
theorem jA.lt(h:jA g base cv tv l t k w):g<w.heap.size/\base<=g/\base<=w.heap.size:=by obtain⟨h1,_,_,h2,_⟩:=h;have :=aD h1;omega
theorem jA.keeps{w':World}(h:jA g base cv tv l t k w)(hg:w'.heap[g]?=w.heap[g]?)(hc:∀b,ownB cv=some b->w'.heap[b]?=w.heap[b]?)(ht:∀b,ownB tv=some b->w'.heap[b]?=w.heap[b]?):jA g base cv tv l t k w':=by obtain⟨h1,h2,h3,h4⟩:=h;exact⟨hg.trans h1,h2.kept hc,h3.kept ht,h4⟩
theorem jA.below{w':World}(h:jA g base cv tv l t k w)(hb:Below w.heap.size w w'):jA g base cv tv l t k w':=h.keeps (hb.block _ h.lt.1) (fun b e=>hb.block _ (h.2.1.lt b e).2) (fun b e=>hb.block _ (h.2.2.1.lt b e).2)
theorem jA.vals(h:jA g base cv tv l t k w):∃ca cc ta tc,cv= .slice ca l.length cc/\tv= .slice ta t.length tc/\l.length<=cc/\cc<=maxLen/\t.length<=tc/\tc<=maxLen:=by obtain⟨h1,h2,h3,h4⟩:=h;obtain⟨ca,cc,rfl,e1,e2⟩:=af.val h2;obtain⟨ta,tc,rfl,e3,e4⟩:=af.val h3;exact⟨ca,cc,ta,tc,rfl,rfl,e1,e2,e3,e4⟩
theorem jA.rep(h:jA g base cv tv l t k w):Hp.rep (fun _=>True) w ⟨l,t⟩ [cv,tv]:=by obtain⟨h1,h2,h3,h4,h5,h6,h7,h8⟩:=h;exact⟨cv,tv,rfl,af.sl Ce.jD Ce.yR h2 (by omega) (fun _ _=>trivial),af.sl dO xx h3 (by omega) (fun _ _=>trivial)⟩
theorem jA.turn{k':Int}(h:jA g base cv tv l t k w)(h1: -1<=k')(h2:k'<=k):jA g base cv tv l t k' (w.setCell ⟨g,2,none⟩ (.int .i64 k')):=by
 obtain⟨e1,e2,e3,e4,e5,e6,e7,e8⟩:=h;refine⟨(bI e1 2 _).trans rfl,e2.kept fun b hb=>?_,e3.kept fun b hb=>?_,e4,e5,by omega,by omega,by omega⟩;·exact bC _ _ _ _ (fun e=>af.dU e2 e1 (by decide) (hb.trans (congrArg some e)))
 ·exact bC _ _ _ _ (fun e=>af.dU e3 e1 (by decide) (hb.trans (congrArg some e)))
end
theorem CS(g o:Nat)(w:World)(u:Value):Ch (fun b=>b=g) w (w.setCell ⟨g,o,none⟩ u):=(Ch.refl (fun b=>b=g) w).setCell (p:=⟨g,o,none⟩) (Or.inl (show g=g from rfl)) u
theorem Ch.Mw{w w':World}{g:Nat}(h:Ch (fun b=>b=g) w w')(o:Nat)(u:Value):Ch (fun b=>b=g) w (w'.setCell ⟨g,o,none⟩ u):=h.setCell (p:=⟨g,o,none⟩) (Or.inl (show g=g from rfl)) u
theorem iL.cell{w:World}{base:Nat}{l:List Ce}{ca:Option Addr}{cc:Nat}(h:iL w base l (.slice ca l.length cc)){i:Nat}(hi:i<l.length):∃b,ca=some ⟨b,0,none⟩/\ownB (.slice ca l.length cc)=some b/\w.cell? ⟨b,i*3,none⟩=some (.int .i64 l[i].kind)/\w.cell? ⟨b,i*3+1,none⟩=some (.int .i64 l[i].n)/\w.cell? ⟨b,i*3+2,none⟩=some (.string l[i].s)/\l[i].Ok/\(∀o,w.frozen? ⟨b,o,none⟩=false)/\b<w.heap.size/\base<=b:=by obtain⟨b,cap,e,h0,h1,h2,h3,h4,h5,h6,h7⟩:=af.at Ce.jD h (by omega);simp only[eX,fH]at e;obtain⟨rfl,rfl⟩:=e;exact⟨b,rfl,h3,h7 i hi 0 _ rfl,h7 i hi 1 _ rfl,h7 i hi 2 _ rfl,h.2 _ (bZ hi),h4,h5,h6⟩
def Still(r:Value)(w:World)(e:Ending)(w':World):Prop:=e= .returned r/\w=w'
theorem xD(g base:Nat)(cv tv:Value)(l:List Ce)(t:List Int)(k:Int)(w:World)(h:jA g base cv tv l t k w)(i:Nat)(hi:i<l.length):Calls Tryz.prog 154 #[.pointer (some ⟨g,0,none⟩),.int .i64 (i:Int)] w (Still (.bool (l[i].kind==0)) w):=by
 obtain⟨ca,cc,ta,tc,rfl,rfl,e1,e2,e3,e4⟩:=h.vals;obtain⟨h1,h2,h3,h4,h5,h6,h7,h8⟩:=h;obtain⟨x0,x1,x2,xf⟩:=fO h1;obtain⟨b,rfl, -,c0,c1,c2,hok, -⟩:=iL.cell h2 hi;have hi0:(0:Int)<=(i:Int):=zN _;have hi1:(i:Int)<(l.length:Int):=by omega
 clear h1 h2 h3 hok;go_enter Tryz.func154,Tryz.ntmps154;go_wp2_with fail;go_ret;exact⟨rfl,rfl⟩
def ais(g base:Nat)(cv tv:Value)(l:List Ce)(t:List Int)(w:World)(p:Bool×Int)(e:Ending)(w':World):Prop:=e= .returned (.bool p.1)/\Ch (fun b=>b=g) w w'/\jA g base cv tv l t p.2 w'
def Mx(g base:Nat)(cv tv:Value)(l:List Ce)(t:List Int)(v:Int)(k:Nat):Prop:=∀(a:Int)(w:World),au a->jA g base cv tv l t k w->Calls Tryz.prog 156 #[.pointer (some ⟨g,0,none⟩),.int .i64 v,.int .i64 a] w (ais g base cv tv l t w (bK l v k [a]))
theorem ait(g base:Nat)(cv tv:Value)(l:List Ce)(t:List Int)(v:Int):Mx g base cv tv l t v 0:=by intro a w ha h;have HU:=zh h;obtain⟨ca,cc,ta,tc,rfl,rfl,e1,e2,e3,e4⟩:=h.vals;have hlt:=h.lt;obtain⟨h1,h2,h3,h4,h5,h6,h7,h8⟩:=h;obtain⟨x0,x1,x2,xf⟩:=fO h1;have hcs:=dz;clear h1 h2 h3;go_enter Tryz.func156,Tryz.ntmps156;go_wp2_with fail;go_ret;exact⟨rfl,CS _ _ _ _,HU.o.turn (k':= -1) (by decide) (by decide)⟩
theorem Zv(l:List Ce)(v:Int)(w:Nat)(z:Int)(r:List Int):bK l v (w+1) (z::r)=if look l z<0 then(false, -1)else if(cellAt l (look l z)).kind=0 then(if look l z=v then(true,(w:Int))else bK l v w r)else if(cellAt l (look l z)).kind=3 then bK l v w (argsAt (look l z) (cellAt l (look l z)).n++r)else bK l v w r:=rfl
theorem E9(a n:Int)(j:Nat)(h:j<(argsAt a n).length):(argsAt a n)[j]=a+1+j:=by simp[argsAt]
theorem aiu(g base:Nat)(cv tv:Value)(l:List Ce)(t:List Int)(v:Int)(hv:au v)(k:Nat)(hg:gB l)(ih:∀m,m<=k->Mx g base cv tv l t v m):Mx g base cv tv l t v (k+1):=by
 intro a w ha h;have HU:=zh h;obtain⟨ca,cc,ta,tc,rfl,rfl,e1,e2,e3,e4⟩:=h.vals;have hlt:=h.lt;have nE:=zh (HU.o.turn (k':=k) (by omega) (by omega));obtain⟨h1,h2,h3,h4,h5,h6,h7,h8⟩:=h;obtain⟨x0,x1,x2,xf⟩:=fO h1;have hcs:=dz;have aiv:(k:Int)<=400:=by omega
 have HI:=zh ha;have IH:=zh ih;have HG:=zh hg;have HV:=zh hv;have hk0:(0:Int)<=(k:Int):=zN _;rw[show((k+1:Nat):Int)=(k:Int)+1 by omega]at x2;clear h1 h2 h3 h6 h7 h8 ha ih hg hv;go_enter Tryz.func156,Tryz.ntmps156;go_wp2_with fail;refine(look_ok ⟨l,t⟩ a HI.o (fun _=>True) _ _ nE.o.rep).mono ?_;rintro e w2⟨r,rfl,hb2,rfl⟩;have dJ:=zh (nE.o.below hb2);have dK:=zh (show Ch (fun b=>b=g) w w2 from(CS _ _ _ _).tb hb2);obtain⟨y0,y1,y2,yf⟩:=fO dJ.o.1;have hz2:=hb2.size;simp only[mZ]at hz2;clear x0 x1 x2 xf hb2;have hge:=LU l a;by_cases hneg:look l a<0
 ·have hp:bK l v (k+1) [a]=(false, -1):=by rw[Zv,ah hneg]
  have HP:=zh hp;clear hp;go_wp2_with fail;go_ret;rw[HP.o];exact⟨rfl,dK.o.Mw _ _,dJ.o.turn (k':= -1) (by decide) (by omega)⟩
 ·obtain⟨x,hx,hxl,hcx⟩:=mJ (H7 (l:=l) (a:=a) (by omega)).1;have hin:bK l v (k+1) [a]=if l[x].kind=0 then(if(x:Int)=v then(true,(k:Int))else(false,(k:Int)))else if l[x].kind=3 then bK l v k (argsAt (x:Int) l[x].n)else(false,(k:Int)):=by rw[Zv,ae hneg,hcx,hx,EF,nW]
  have uw:=HG.o x hxl;have gW:=zh hin;have HX:=zh hx;rw[hx];have hx0:(0:Int)<=(x:Int):=zN _;have hx1:(x:Int)<(l.length:Int):=by omega
  obtain⟨cb,rfl, -,c0,c1,c2,hok, -,hcb, -⟩:=iL.cell dJ.o.2.1 hxl;clear hin hcx hx hneg hge;go_wp2_with fail;refine(xD _ _ _ _ _ _ _ _ dJ.o x hxl).mono ?_;rintro e w3⟨rfl,rfl⟩;by_cases hk:l[x].kind=0
  ·rw[hk]at c0 ⊢;have HK:=zh hk;clear hk uw;by_cases hxv:(x:Int)=v
   ·have hr:=zh (show bK l v (k+1) [a]=(true,(k:Int))by rw[gW.o,ah HK.o,ah hxv]);have hq:((x:Int)==v)=true:=by simpa using hxv
    clear hxv;go_wp2_with fail;go_ret;rw[hr.out];exact⟨rfl,dK.o,dJ.o⟩
   ·have hr:=zh (show bK l v (k+1) [a]=(false,(k:Int))by rw[gW.o,ah HK.o,ae hxv]);have hq:((x:Int)==v)=false:=by simpa using hxv
    clear hxv;go_wp2_with fail;go_ret;rw[hr.out];exact⟨rfl,dK.o,dJ.o⟩
  ·have hk':(l[x].kind==0)=false:=by simpa using hk
   rw[hk'];by_cases hk3:l[x].kind=3
   ·have hn:1<=l[x].n/\l[x].n<=4/\(x:Int)+l[x].n<l.length:=by unfold Ce.fo at uw;omega
    obtain⟨hn1,rX,hnl⟩:=hn;obtain⟨nn,hnn⟩:=eu (show 0<=l[x].n by omega);have hr:=zh (show bK l v (k+1) [a]=bK l v k (argsAt (x:Int) (nn:Int))by rw[gW.o,ae hk,ah hk3,hnn]);have hal:(argsAt (x:Int) (nn:Int)).length=nn:=by simp[argsAt]
    rw[hnn]at c1 hn1 rX hnl;rw[hk3]at c0;have kP:=zh hal;have hlb:cb<w2.heap.size:=hcb;have Rn:nn<=4:=by omega
    clear hk hk' hk3 uw hal hnn;go_wp2_with fail;have CU:=zh (dJ.o.below ((zB _ _).alloc (zL _) (.cells #[.int .i64 3,.int .i64 (nn:Int),.string l[x].s] 112)));have lG:=zh (dK.o.alloc (.cells #[.int .i64 3,.int .i64 (nn:Int),.string l[x].s] 112));have HB3:=zh (bV w2 (.cells #[.int .i64 3,.int .i64 (nn:Int),.string l[x].s] 112));have hne:g≠w2.heap.size:=by omega
    clear c0 c1 c2 y0 y1 y2 yf;go_loopw[8](fun i wr=>∃j m:Nat,j<=nn/\i= .int .i64 ((j:Int)+1)/\m<=k/\bK l v k ((argsAt (x:Int) (nn:Int)).take j)=(false,(m:Int))/\jA g base (.slice (some ⟨cb,0,none⟩) l.length cc) (.slice ta t.length tc) l t m wr/\Ch (fun b=>b=g) w wr/\wr.heap[w2.heap.size]?=some (.cells #[.int .i64 3,.int .i64 (nn:Int),.string l[x].s] 112 (0,0)))(fun i _=>nn+1 - (intOf i).toNat);case atStart=>exact⟨0,k,dD _,rfl,zL _,by rw[ng,EF],CU.o,lG.o,HB3.o⟩
    case round=>
     obtain⟨j,m,hj,rfl,hm,htk,hu,hch,hbx⟩:=hrel;have fB:=zh htk;have nG:=zh hu;have j6:=zh hch;have dH:=zh hbx;obtain⟨z0,z1,z2,zf⟩:=fO hbx;clear htk hu hch hbx;by_cases hlt:j<nn
     ·have hja:j<(argsAt (x:Int) (nn:Int)).length:=by rw[kP.o];exact hlt
      have hsplit:argsAt (x:Int) (nn:Int)=(argsAt (x:Int) (nn:Int)).take j++(((x:Int)+1+(j:Int))::(argsAt (x:Int) (nn:Int)).drop (j+1)):=by
       conv=>lhs;rw[<-G8 j (argsAt (x:Int) (nn:Int))]
       rw[List.drop_eq_getElem_cons hja,E9]
      have hnext:(argsAt (x:Int) (nn:Int)).take (j+1)=(argsAt (x:Int) (nn:Int)).take j++[(x:Int)+1+j]:=by rw[fF hja,E9]
      have dV:=zh (show bK l v k (argsAt (x:Int) (nn:Int))=bK l v m ([(x:Int)+1+j]++(argsAt (x:Int) (nn:Int)).drop (j+1))by
       conv=>lhs;rw[hsplit]
       rw[H8,fB.o,ae (by simp)];simp);have fV:=zh (show bK l v k ((argsAt (x:Int) (nn:Int)).take (j+1))=bK l v m [(x:Int)+1+j]by rw[hnext,H8,fB.o,ae (by simp)];simp);clear hsplit hnext hja;go_wp2_with fail;rw[show(x:Int)+((j:Int)+1)=(x:Int)+1+j by omega];refine(IH.out m hm ((x:Int)+1+j) wr (by unfold au;omega) nG.o).mono ?_;rintro e w5⟨rfl,kg,kQ⟩;have gH:=zh kQ;have gX:=zh kg;have dx:=zh ((kg.block w2.heap.size (aD dH.o) (fun e=>hne e.symm)).trans dH.o);obtain⟨q0,q1,q2,qf⟩:=fO gH.o.1;have Bd:=EG l v m [(x:Int)+1+j];have happ:=H8 l v m [(x:Int)+1+j] ((argsAt (x:Int) (nn:Int)).drop (j+1));have vP:=H9 l v m [(x:Int)+1+j];generalize bK l v m [(x:Int)+1+j]=p at*;obtain⟨pf,pw⟩:=p;simp only at Bd happ vP q0 q1 q2;have Zw:=zh happ;have IJ:=zh vP;clear kQ kg happ vP z0 z1 z2 zf;obtain⟨hp1,hp2⟩:=Bd;cases pf with
       |true=>have hpw:0<=pw:=IJ.o rfl;have hres:=zh (show bK l v (k+1) [a]=(true,pw)by rw[hr.out,dV.o,Zw.o,ah (.inl rfl)]);go_wp2_with fail;go_ret;rw[hres.o];exact⟨rfl,j6.o.trans gX.o (fun _ h=> .inl h),gH.o⟩
       |false=>
        by_cases hpw:pw<0;·have hres:=zh (show bK l v (k+1) [a]=(false,pw)by rw[hr.out,dV.o,Zw.o,ah (.inr hpw)]);have hpd:=zh (decide_eq_false (show ¬(0:Int)<=pw by omega));go_wp2_with fail;go_ret;rw[hres.o];exact⟨congrArg Ending.returned (congrArg Value.bool hpd.out),j6.o.trans gX.o (fun _ h=> .inl h),gH.o⟩
        ·obtain⟨pm,rfl⟩:=eu (show 0<=pw by omega);go_wp2_with fail;go_roundw;case rel=>exact⟨j+1,pm,by omega,by go_num,by omega,fV.o,gH.o,j6.o.trans gX.o (fun _ h=> .inl h),dx.o⟩
         case measure=>simp[intOf];omega
     ·have dm:j=nn:=by omega
      have hres:=zh (show bK l v (k+1) [a]=(false,(m:Int))by have :=fB.o;rw[jU (by rw[kP.o];omega)]at this;rw[hr.out,this]);clear dm;go_wp2_with fail;go_ret;rw[hres.o];exact⟨rfl,j6.o,nG.o⟩
   ·have hr:=zh (show bK l v (k+1) [a]=(false,(k:Int))by rw[gW.o,ae hk,ae hk3]);have Fa:(l[x].kind==3)=false:=by simpa using hk3
    have hlb:cb<w2.heap.size:=hcb;clear hk hk3 uw;go_wp2_with fail;go_ret;rw[hr.out];exact⟨rfl,dK.o.alloc _,dJ.o.below ((zB _ _).alloc (zL _) _)⟩
theorem Zx(g base:Nat)(cv tv:Value)(l:List Ce)(t:List Int)(v:Int)(hv:au v)(hg:gB l):∀k,Mx g base cv tv l t v k:=by intro k;induction k using Nat.strongRecOn with|_ k ih=>cases k with|zero=>exact ait g base cv tv l t v|succ k=>exact aiu g base cv tv l t v hv k hg fun m hm=>ih m (by omega)
theorem aix{l:List Ce}{v:Nat}(a:Int)(h:v<l.length):eQ l (v:Int) a=l.set v {l[v]with n:=a}:=by
 apply lV (by simp[eQ]);intro i h1 h2;simp only[eQ,dB,Qe,Cv];by_cases e:v=i;·subst e;simp
 ·simp[e]
def UM(g:Nat)(cv tv:Value)(b:Nat):Prop:=b=g\/ownB cv=some b\/ownB tv=some b
def ko(g base:Nat)(cv tv:Value)(w:World)(l:List Ce)(t:List Int)(k:Int)(w':World):Prop:=∃tv',jA g base cv tv' l t k w'/\Ch (UM g cv tv) w w'/\(∀b,ownB tv'=some b->ownB tv=some b\/w.heap.size<=b)
theorem ko.vQ{g base:Nat}{cv tv:Value}{w w':World}{l:List Ce}{t:List Int}{k:Int}(h:jA g base cv tv l t k w')(hc:Ch (fun b=>b=g) w w'):ko g base cv tv w l t k w':=⟨tv,h,hc.mono fun x _ e=> .inl e,fun b h=> .inl h⟩
theorem ko.trans{g base:Nat}{cv tv tv':Value}{w w' w'':World}{l:List Ce}{t:List Int}{k:Int}(hc:Ch (UM g cv tv) w w')(ht:∀b,ownB tv'=some b->ownB tv=some b\/w.heap.size<=b)(h:ko g base cv tv' w' l t k w''):ko g base cv tv w l t k w'':=by
 obtain⟨tv2,h1,h2,h3⟩:=h;refine⟨tv2,h1,hc.trans h2 fun x hx=>?_,fun b hb=>?_⟩
 ·rcases hx with hx|hx|hx;·exact .inl (.inl hx)
  ·exact .inl (.inr (.inl hx))
  ·rcases ht x hx with hx|hx;·exact .inl (.inr (.inr hx))
   ·exact .inr hx
 ·rcases h3 b hb with h4|h4;·exact ht b h4
  ·exact .inr (dM hc.size h4)
def aiz(g base:Nat)(cv tv:Value)(w:World)(l:List Ce)(t:List Int)(k:Int)(e:Ending)(w':World):Prop:=∃r,e= .returned r/\ko g base cv tv w l t k w'
theorem bind_ok(g base:Nat)(cv tv:Value)(l:List Ce)(t:List Int)(k:Int)(w:World)(h:jA g base cv tv l t k w)(hk:(t.length:Int)+1+k<=70000)(v:Nat)(hv:v<l.length)(a:Int)(ha:au a):Calls Tryz.prog 155 #[.pointer (some ⟨g,0,none⟩),.int .i64 (v:Int),.int .i64 a] w (aiz g base cv tv w (eQ l (v:Int) a) (t++[(v:Int)]) k):=by
 have HU:=zh h;obtain⟨ca,cc,ta,tc,rfl,rfl,e1,e2,e3,e4⟩:=h.vals;have hlt:=h.lt;obtain⟨h1,h2,h3,h4,h5,h6,h7,h8⟩:=h;obtain⟨x0,x1,x2,xf⟩:=fO h1;obtain⟨cb,rfl,bX,c0,c1,c2,hok,hfz,hcb,aiA⟩:=iL.cell h2 hv;have hcg:cb≠g:=fun e=>af.dU h2 h1 (by decide) (bX.trans (congrArg some e));have arX:¬g=cb:=fun e=>hcg e.symm;have hcs:=dz;have hi0:(0:Int)<=(v:Int):=zN _;have hi1:(v:Int)<(l.length:Int):=by omega
 have HB1:=zh ((bC w ⟨cb,v*3+1,none⟩ (.int .i64 a) g (fun e=>hcg e.symm)).trans h1);have HT1:=zh (h3.kept (w':=w.setCell ⟨cb,v*3+1,none⟩ (.int .i64 a)) fun b hb=>bC _ _ _ _ (fun e=>pO (by decide) h2 h3 cb bX (hb.trans (congrArg some e))));have iK:=zh (af.set (u:= .int .i64 a) Ce.jD h2 bX hv (j:=1) (by omega) (y:={l[v]with n:=a}) rfl ⟨hok.1,ha,hok.2.2⟩);have gV:=zh bX;have HTG:=zh (af.dU h3 h1 (by decide));have eT:=zh (fun b=>h3.lt b);clear h1 h2 h3 hok bX;go_enter Tryz.func155,Tryz.ntmps155;go_wp2_with(at_builtin;go_must(refine iH rfl (.tmp 20) (.tmp 22) 57 rfl base 3 1 8 je aQ (A:=fun _=>True) (.slice ta t.length tc) t rfl (af.eZ dO HT1.o _) (v:Int) [.int .i64 (v:Int)] (by simp only[mZ];rfl) rfl ⟨by unfold au;omega,rfl⟩ ⟨by omega,by simp;omega⟩ ?_);go_must(intro v2 w2 hown az;obtain⟨bN,bO,hv2,qK,qL⟩:=aI.j5 hown;rw[show(t++[(v:Int)]).length=t.length+1 by simp]at hv2;subst hv2;have bE:=zh (af.eB hown);have HG2:=zh az;have hz2:=az.size;simp only[bF,mZ]at hz2;have hB2:=(az.grown.block g (by simp;omega) (fun e=>HTG.o e.symm)).trans (aX HB1.o _);have HB2:=zh hB2;obtain⟨y0,y1,y2,yf⟩:=fO hB2;clear hown az hB2));refine Cx (v:= .tuple #[]) (by simp[results,Tryz.results155,go_sem]) rfl ?_;have aiC:w2.heap[cb]?=(w.setCell ⟨cb,v*3+1,none⟩ (.int .i64 a)).heap[cb]?:=(HG2.o.grown.block cb (by simp;omega) (fun e=>pO (by decide) HU.o.2.1 HU.o.2.2.1 cb gV.o e.symm)).trans (Lx _ _ _ (by simpa using hcb));have ho2:=bE.o;have oI:ownB (.slice bN (t.length+1) bO)≠some g:=af.dU (by simpa using ho2) HB2.o (by decide);refine⟨_,rfl,.slice bN (t.length+1) bO,⟨(bI HB2.o 1 _).trans rfl,?_,?_,h4,by rw[Ib];exact h5,by simp;omega,h7,h8⟩,?_,fun b hb=>?_⟩;·rw[aix a hv];refine iK.o.kept fun b hb=>?_;obtain rfl:cb=b:=zI (gV.o.symm.trans hb);rw[bC _ _ _ _ (fun e=>hcg e)];exact aiC
 ·exact ho2.kept fun b hb=>bC _ _ _ _ (fun e=>oI (hb.trans (congrArg some e)))
 ·refine Ch.setCell (p:=⟨g,1,none⟩) ?_ (.inl (.inl rfl)) _;refine HG2.o.ch ((Ch.setCell (p:=⟨cb,v*3+1,none⟩) (Ch.refl _ _) (.inl (.inr (.inl gV.o))) _).alloc _) fun b hb=> .inl (.inr (.inr hb))
 ·rcases HG2.o.block with h9|h9;·exact .inl (h9.symm.trans hb)
  ·have :=h9 b hb;simp only[bF,mZ]at this;exact .inr (by omega)
