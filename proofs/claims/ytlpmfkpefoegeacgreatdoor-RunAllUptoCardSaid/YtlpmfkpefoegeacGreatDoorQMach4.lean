import Derived.Test.YtlpmfkpefoegeacGreatDoorQRead
import Derived.Deep.RegionWith
namespace Go.Proofs.YtlpmfkpefoegeacGreatDoor
set_option maxRecDepth 99999
set_option maxHeartbeats 0
set_option linter.all false
def sG:List Bool->Nat|[]=>0|b::r=>(if b=true then 0 else 1)+sG r
theorem aeo:∀(m:List Bool),sG m<=m.length|[]=>zL _|b::r=>by have :=aeo r;unfold sG;split<;>simp<;>omega
theorem WV:∀(m:List Bool)(k:Nat),m[k]?=some false->sG (m.set k true)+1=sG m|[],k,h=>by simp at h|b::r,0,h=>by simp at h;subst h;simp[sG];omega|b::r,k+1,h=>by have :=WV r k (by simpa using h);simp only[wC,sG];omega
def pushes(k:Nat)(c:Ce):List Int:=if c.kind=0 then[c.n]else if c.kind=3 then argsAt (k:Int) c.n else[]
theorem aov(l:List Ce)(hg:gU l){k:Nat}(hk:k<l.length):(pushes k l[k]).length<=4:=by
 have h1:=hg k hk;unfold Ce.fF at h1;unfold pushes;split;·simp
 ·split;·rw[amF];omega
  ·simp
theorem aep{l:List Ce}(hg:gU l){k j:Nat}(hk:k<l.length):(j:Int)∈pushes k l[k]↔AO l k j:=by
 unfold AO pushes;rw[jv hk];by_cases h0:l[k].kind=0
 ·rw[ai h0];simp only[gB,h0,dL];constructor;·intro e;exact .inl e.symm
  ·rintro(e|⟨e,_⟩);·exact e.symm
   ·omega
 ·rw[ag h0];by_cases h3:l[k].kind=3
  ·rw[ai h3];unfold argsAt;simp only[fZ,ko,h3,dL];constructor;·rintro⟨i,hi,e⟩;exact .inr ⟨by omega,by omega⟩
   ·rintro(⟨e,_⟩|⟨e1,e2⟩);·omega
    ·exact⟨j - k - 1,by omega,by omega⟩
  ·rw[ag h3];simp[h0,h3]
structure wW (l : List Ce) (roots : List Int) (m : List Bool) (st : List Int) : Prop where
  len : m.length = l.length
  rts : ∀ i : Nat, (i : Int) ∈ roots → i < l.length → m[i]? = some true ∨ (i : Int) ∈ st
  closed : ∀ i j, m[i]? = some true → AO l i j → m[j]? = some true ∨ (j : Int) ∈ st
  sound : ∀ i, m[i]? = some true → Reach l roots i
  todo : ∀ i : Nat, (i : Int) ∈ st → i < l.length → Reach l roots i
  few : st.length + 5 * sG m ≤ roots.length + 5 * l.length
theorem wW.start(l:List Ce)(roots:List Int):wW l roots (List.replicate l.length false) roots:=by
 refine⟨by simp,fun i h _=> .inr h,fun i j h=>?_,fun i h=>?_,fun i h1 h2=> .root h1 h2,?_⟩;·rw[Vb]at h;split at h<;>simp at h
 ·rw[Vb]at h;split at h<;>simp at h
 ·have :=aeo (List.replicate l.length false);simp at this ⊢;omega
section
variable {l : List Ce} {roots : List Int} {m : List Bool} {st : List Int} {a : Int}
theorem wW.skip(h:wW l roots m (st++[a]))(ha:∀k:Nat,a=(k:Int)->k<l.length->m[k]?=some true)(hg:gU l):wW l roots m st:=by
 have key:∀i:Nat,i<l.length->(i:Int)∈st++[a]->m[i]?=some true\/(i:Int)∈st:=fun i hi hm=>by
  rcases fE.1 hm with h1|h1;·exact .inr h1
  ·simp only[gB]at h1;exact .inl (ha i h1.symm hi)
 refine⟨h.len,fun i h1 h2=>?_,fun i j h1 h2=>?_,h.sound,fun i h1 h2=>h.todo i (fE.2 (.inl h1)) h2,?_⟩
 ·rcases h.rts i h1 h2 with k|k;·exact .inl k
  ·exact key i h2 k
 ·rcases h.closed i j h1 h2 with k|k;·exact .inl k
  ·exact key j (hg.leads (by rw[<-h.len];exact(gT.1 h1).1) h2) k
 ·have :=h.few;simp only[bT,jr]at this;omega
theorem wW.mark{k:Nat}(h:wW l roots m (st++[(k:Int)]))(hk:k<l.length)(hm:m[k]?=some false)(hg:gU l):wW l roots (m.set k true) (st++pushes k l[k]):=by
 have hr:Reach l roots k:=h.todo k (by simp) hk;have Hw:k<m.length:=by rw[h.len];exact hk
 have get:∀i,(m.set k true)[i]?=some true↔i=k\/m[i]?=some true:=fun i=>by
  rw[List.getElem?_set];by_cases e:k=i;·subst e;simp[Hw]
  ·rw[ag e];constructor;·exact .inr
   ·rintro(e'|e');·exact absurd e'.symm e
    ·exact e'
 refine⟨by simp[h.len],fun i h1 h2=>?_,fun i j h1 h2=>?_,fun i h1=>?_,fun i h1 h2=>?_,?_⟩
 ·rcases h.rts i h1 h2 with q|q;·exact .inl ((get i).2 (.inr q))
  ·rcases fE.1 q with q|q;·exact .inr (fE.2 (.inl q))
   ·simp only[gB]at q;exact .inl ((get i).2 (.inl (by omega)))
 ·rcases(get i).1 h1 with rfl|h1;·exact .inr (fE.2 (.inr ((aep hg hk).2 h2)))
  ·rcases h.closed i j h1 h2 with q|q;·exact .inl ((get j).2 (.inr q))
   ·rcases fE.1 q with q|q;·exact .inr (fE.2 (.inl q))
    ·simp only[gB]at q;exact .inl ((get j).2 (.inl (by omega)))
 ·rcases(get i).1 h1 with rfl|h1;·exact hr
  ·exact h.sound i h1
 ·rcases fE.1 h1 with h1|h1;·exact h.todo i (fE.2 (.inl h1)) h2
  ·exact .step hr ((aep hg hk).1 h1)
 ·have h1:=h.few;have h2:=WV m k hm;have h3:=aov l hg hk;simp only[bT,jr]at h1 ⊢;omega
theorem wW.done(h:wW l roots m [])(hg:gU l):m=marks l roots:=amH hg h.len (fun i h1 h2=>(h.rts i h1 h2).resolve_right (by simp)) (fun i j h1 h2=>(h.closed i j h1 h2).resolve_right (by simp)) h.sound
end
open Go.RowKit
theorem Lf{P:Program}{t e:TypeId}{z:Value}{bytes:Nat}(W:World)(ht:P.underlying t=some (.slice e))(hi:(P.info? e).map (fun i=>(i.zero,i.size,i.bytes))=some (some z,1,bytes))(hz:z.cells=#[z])(n:Nat)(hn:n<=4194304)(hb:bytes<=256):(Instr.makeSlice t (.int .i64 (n:Int)) (.int .i64 (n:Int))).run P W= .ok (.slice (some ⟨W.heap.size,0,none⟩) n n) (W.alloc (.cells (Array.replicate n z) e)):=by
 obtain⟨i0,hi0,h1,h2,h3⟩:=info_parts hi;have hmul:i0.bytes*n<=256*4194304:=Nat.mul_le_mul (by omega) hn;have hb':(i0.bytes:Int)*(n:Int)<=281474976710656:=by rw[<-Int.natCast_mul];omega
 have hr:=run_make (P:=P) W t e i0 z ht hi0 h1 .i64 .i64 n n (by omega) (kr _) hb' (by omega);rw[hr];simp only[dG,h2,Vr,hz];congr 3;apply acf.1;rw[toList_madeCells_one,alQ]
def aow(base:Nat)(x:List Bool×Int)(r:Value)(w':World):Prop:=∃v,r= .tuple #[v,.int .i64 x.2]/\gG w' base x.1 v
def Bi(w:World)(g:Nat):Nat->Nat->Nat|_,0=>0|off,n+1=>(match w.cell? ⟨g,off,none⟩with|some (.bool true)=>0|_=>1)+Bi w g (off+1) n
theorem Hy{w:World}{g:Nat}:∀(m:List Bool)(off:Nat),(∀i(hi:i<m.length),w.cell? ⟨g,off+i,none⟩=some (.bool m[i]))->Bi w g off m.length=sG m|[],_,_=>rfl|b::r,off,h=>by have h0:=h 0 (by simp);simp only[qw,Jt]at h0;have ih:=Hy r (off+1) (fun i hi=>by have :=h (i+1) (by simpa using hi);rw[show off+1+i=off+(i+1)by omega,this];simp);rw[cK,Bi,sG,h0,ih];cases b<;>simp
def sliceLen:Value->Nat| .slice _ n _=>n|_=>0
theorem gG.cells{w:World}{base g n cap:Nat}{m:List Bool}(h:gG w base m (.slice (some ⟨g,0,none⟩) n cap)):∀i(hi:i<m.length),w.cell? ⟨g,i,none⟩=some (.bool m[i]):=by intro i hi;obtain⟨g',cap',e, -, -, -, -, -, -, -,hc⟩:=ah.at AX h (by omega);simp only[dC,dm,uR,lF]at e;obtain⟨rfl, -⟩:=e;simpa using hc i hi 0 _ rfl
theorem gG.fresh(w:World)(n:Nat)(hn:n<=maxLen):gG (w.alloc (.cells (Array.replicate n (.bool false)) 4)) w.heap.size (List.replicate n false) (.slice (some ⟨w.heap.size,0,none⟩) n n):=by
 refine⟨⟨by rw[Qi AX],?_⟩,fun _ _=>trivial⟩;rw[Au];by_cases h0:n=0;·subst h0;exact .inl ⟨rfl,_,rfl⟩
 ·refine .inr ⟨w.heap.size,n,_,rfl,by omega,zL _,bJ _ _,zL _,hn,by simp,?_⟩;rw[Vr,alQ,iZ (by simp)];clear h0 hn;induction n with|zero=>rfl|succ n ih=>rw[abZ,abZ,Ay,<-ih];rfl
theorem aox(h:Hp)(roots:List Int)(A:Nat->Prop)(w:World)(vs:List Value)(v:Value)(hh:Hp.rep A w h vs)(hv:gD A w roots v):Calls Tryz.prog 107 #[.agg vs.toArray,v] w (Pure w (aow w.heap.size (CR h roots))):=by
 obtain⟨va,cap,vb,aR,rfl,hc1,hc2,hc3,ht1,ht2,ht3,hc,ht⟩:=Hp.mG hh;obtain⟨_,_,cb,qD,e, -, -, -,j3,hce⟩:=hc.at;simp only[dC,dL]at e;obtain⟨rfl,rfl⟩:=e;obtain⟨ra,ax6,rb,roff,rfl,hr1,hr2,hr3, -, -⟩:=hv.at;have HH:=zh hh;have HV:=zh hv;have sF:=zh j3;have vC:=zh hce;have jX:=zh (fun w'(hk:af A w w')=>Ct h A w' _ (Hp.rep.keeps hh hk));clear hh hv j3 hce hc ht;go_enter Tryz.func107,Tryz.ntmps107;go_wp2_with fail;refine(jX.o _ (af.alloc _ _ _)).mono ?_;rintro e w1⟨v,rfl,hb1,t,rfl,ht⟩;have eO:=zh (aL (bJ w (.cells #[.slice va h.cells.length cap,.slice vb h.trail.length aR] 59)) hb1);have HB:=zh (show Below w.heap.size w w1 from eB (hb1.mono (by simp)));have hz':w.heap.size<w1.heap.size:=by have :=hb1.size;simp at this;omega
 have lK:=zh ht;have hcs:=dH;clear hb1 ht;obtain⟨x0,x1,xf⟩:=dO eO.o;cases t with
  |false=>
   have hg:¬h.Good:=fun hg=>by have :=lK.o.2 hg;cases this
   go_wp2_with fail;refine dD (v:= .tuple #[.slice none 0 0,.int .i64 1]) (by simp[results,Tryz.results107,go_sem]) rfl ?_;rw[CR,ag hg];exact⟨_,rfl,HB.o,_,rfl,ah.nil⟩
  |true=>
   have HG:=zh (lK.o.1 rfl);have hL1:h.cells.length<=65536:=HG.o.2.2.1;clear lK;have ax7:(0:Int)<=(h.cells.length:Int):=zN _;have qM:∀W:World,(Instr.makeSlice 121 (.int .i64 (h.cells.length:Int)) (.int .i64 (h.cells.length:Int))).run Tryz.prog W= .ok (.slice (some ⟨W.heap.size,0,none⟩) h.cells.length h.cells.length) (W.alloc (.cells (Array.replicate h.cells.length (.bool false)) 4)):=fun W=>Lf (bytes:=1) W Tryz.underlying121 (by kernel_rfl) rfl _ (by omega) (by omega);go_wp2_with fail;refine(VS roots A _ _ (au.keeps aW HV.o (af.ob (HB.o.alloc (by omega) _)))).mono ?_;rintro e w2⟨v,rfl,hb2,hown⟩;obtain⟨sa,sc,rfl,hsl,hsm⟩:=ah.val hown;have dI:=zh (aL (aX eO.o _) hb2);have HB2:=zh (show Below w.heap.size w w2 from(HB.o.alloc (by omega) _).trans (hb2.mono (by simp;omega)));have dE:=zh (ah.below (gG.fresh w1 h.cells.length (by simp[maxLen];omega)) hb2);have WW:=zh (show dK w2 w1.heap.size roots (.slice sa roots.length sc)from ah.rQ hown (fun k hk=>by have :=(hown.lt k hk).1;simp at this;omega));have hz2:w1.heap.size<w2.heap.size:=by have :=hb2.size;simp at this;omega
   clear hown hb2 x0 x1 xf;have HST:=zh (wW.start h.cells roots);obtain⟨gb,hgb⟩:∃g,g=w1.heap.size:=⟨_,rfl⟩;have kE:=zh hgb;rw[<-hgb]at dE;go_wp2_with fail;rw[<-kE.o];clear hgb;go_loopw[7](fun x wr=>∃(m:List Bool)(st:List Int),wW h.cells roots m st/\Below w.heap.size w wr/\wr.heap[w.heap.size]?=some (.cells #[.slice va h.cells.length cap,.slice vb h.trail.length aR] 59 (0,0))/\gG wr w1.heap.size m (.slice (some ⟨gb,0,none⟩) h.cells.length h.cells.length)/\dK wr w1.heap.size st x/\w1.heap.size<=wr.heap.size)(fun x wr=>5*Bi wr gb 0 h.cells.length+sliceLen x);case atStart=>exact⟨_,_,HST.o,HB2.o,dI.o,(by rw[<-kE.o];exact dE.o),WW.o,by omega⟩
   case round=>
    obtain⟨m,st,hst,hib,hi1,bI,hon,hzz⟩:=hrel;have HS:=zh hst;have ug:=zh hib;have HI1:=zh hi1;have CZ:=zh bI;have wX:=zh hon;obtain⟨xa,xc,rfl,hxl,hxm⟩:=ah.val hon;have rW:=hst.len;have sH:=hst.few;have EZ:=zh (show Bi wr gb 0 h.cells.length=sG m by rw[<-hst.len];exact Hy m 0 (fun i hi=>by rw[nX];exact gG.cells bI i hi));have mR:=hib.size;obtain⟨x0,x1,xf⟩:=dO hi1;by_cases hem:st=[];·subst hem;have hm:=hst.done HG.o.1;clear hst hib hi1 bI hon;go_wp2_with fail;refine dD (v:= .tuple #[.slice (some ⟨gb,0,none⟩) h.cells.length h.cells.length,.int .i64 0]) (by simp[results,Tryz.results107,go_sem]) rfl ?_;rw[CR,ai HG.o,<-hm];exact⟨_,rfl,ug.o,_,rfl,ah.rQ CZ.o (fun k hk=>by have :=(CZ.o.lt k hk).1;omega)⟩
    ·obtain⟨st0,a,rfl⟩:∃st0 a,st=st0++[a]:=⟨st.dropLast,st.getLast hem,(List.dropLast_concat_getLast hem).symm⟩;have hl1:(st0++[a]).length=st0.length+1:=by simp
     rw[hl1]at hxl sH wX hon ⊢;obtain⟨sb,QU,e, -, -, -,WX, -,ax8, -,hcell⟩:=ah.at dY hon (by omega);rw[hl1]at e;simp only[dC,dL]at e;obtain⟨rfl,rfl⟩:=e;have aeq:aA a:=hon.2 a (by simp);have Lg:=zh aeq;have s0:wr.cell? ⟨sb,st0.length,none⟩=some (.int .i64 a):=by have :=hcell st0.length (by omega) 0 (.int .i64 a) (by simp[AJ]);simpa using this
     have AP:st0.length<=4194304 - 5:=by omega
     have hcases:(a<0)\/((h.cells.length:Int)<=a)\/(0<=a/\a<(h.cells.length:Int)):=by omega
     clear aeq;rcases hcases with h1|h1|⟨h1,h2⟩
     ·have C8:∀k:Nat,a=(k:Int)->k<h.cells.length->m[k]?=some true:=fun k e _=>by omega
      have fT:=zh (ah.take dY (a:=some ⟨sb,0,none⟩) (cap:=xc) (l:=st0++[a]) (by rw[hl1];exact wX.o) (k:=st0.length) (by omega));rw[Jy rfl]at fT;have Lh:=zh (HS.o.skip C8 HG.o.1);clear C8 hst hib hi1 bI hon hcell;go_wp2_with fail;all_goals first|(exfalso;omega)|skip
      go_roundw;case rel=>exact⟨m,st0,Lh.o,ug.o,HI1.o,CZ.o,fT.o,by omega⟩
      case measure=>rw[EZ.o];simp[sliceLen]
     ·have C8:∀k:Nat,a=(k:Int)->k<h.cells.length->m[k]?=some true:=fun k e h=>by omega
      have h3:¬a<0:=by omega
      have fT:=zh (ah.take dY (a:=some ⟨sb,0,none⟩) (cap:=xc) (l:=st0++[a]) (by rw[hl1];exact wX.o) (k:=st0.length) (by omega));rw[Jy rfl]at fT;have Lh:=zh (HS.o.skip C8 HG.o.1);clear C8 hst hib hi1 bI hon hcell;go_wp2_with fail;all_goals first|(exfalso;omega)|skip
      go_roundw;case rel=>exact⟨m,st0,Lh.o,ug.o,HI1.o,CZ.o,fT.o,by omega⟩
      case measure=>rw[EZ.o];simp[sliceLen]
     ·obtain⟨k,rfl⟩:=dQ h1;have hkl:k<h.cells.length:=by omega
      have Hw:k<m.length:=by omega
      have b0:=gG.cells bI k Hw;cases hmk:m[k]with
       |true=>
        rw[hmk]at b0;have C8:∀i:Nat,(k:Int)=(i:Int)->i<h.cells.length->m[i]?=some true:=fun i e _=>by
         obtain rfl:k=i:=by omega
         rw[aT Hw,hmk]
        have fT:=zh (ah.take dY (a:=some ⟨sb,0,none⟩) (cap:=xc) (l:=st0++[(k:Int)]) (by rw[hl1];exact wX.o) (k:=st0.length) (by omega));rw[Jy rfl]at fT;have Lh:=zh (HS.o.skip C8 HG.o.1);clear C8 hst hib hi1 bI hon hcell;go_wp2_with fail;all_goals first|(exfalso;omega)|skip
        go_roundw;case rel=>exact⟨m,st0,Lh.o,ug.o,HI1.o,CZ.o,fT.o,by omega⟩
        case measure=>rw[EZ.o];simp[sliceLen]
       |false=>
        rw[hmk]at b0;have jQ:=zh (show m[k]?=some false by rw[aT Hw,hmk]);have WY:ownB (.slice (some ⟨gb,0,none⟩) h.cells.length h.cells.length)=some gb:=by
         have :h.cells.length≠0:=by omega
         simp only[ownB,this,if_false]
        have QV:=zh (show gG (wr.setCell ⟨gb,k,none⟩ (.bool true)) w1.heap.size (m.set k true) (.slice (some ⟨gb,0,none⟩) h.cells.length h.cells.length)by have :=ah.set (y:=true) (u:= .bool true) AX CZ.o WY (i:=k) (j:=0) Hw (by omega) rfl trivial;simpa using this);obtain⟨g',cap',e', -, -, -, -,bf, -⟩:=ah.at AX bI (by omega);simp only[dC,dm,uR,lF]at e';obtain⟨rfl, -⟩:=e';have aoy:gb≠sb:=fun e=>rU (by decide) bI hon gb WY (WX.trans (congrArg some e.symm));have ax9:w1.heap.size<=gb/\gb<wr.heap.size:=by have :=bI.lt gb WY;omega
        have HB1:=zh (bK ug.o (p:=⟨gb,k,none⟩) (by simp only;omega) (.bool true));have Hz:=zh ((bH wr ⟨gb,k,none⟩ (.bool true) w.heap.size (by simp only;omega)).trans hi1);have fT:=zh (ah.kept (ah.take dY (a:=some ⟨sb,0,none⟩) (cap:=xc) (l:=st0++[(k:Int)]) (by rw[hl1];exact wX.o) (k:=st0.length) (by omega)) (w':=wr.setCell ⟨gb,k,none⟩ (.bool true)) (fun b hb=>bH _ _ _ _ (fun e=>by
         simp only at e;have :b=sb:=by
          simp only[ownB]at hb;split at hb;·cases hb
          ·exact(zI hb).symm
         exact aoy (by rw[<-this];exact e.symm))));rw[Jy rfl]at fT;have Li:=zh (HS.o.mark hkl jQ.o HG.o.1);have iM:=zh (WV m k jQ.o);obtain⟨rfl,bC⟩:=sF.o (by omega);obtain⟨c0,c1,c2,i0,i1,i2⟩:=xO vC.o bC (af.ob ug.o) hkl;have aya:cb<w.heap.size:=fK w _ (xO vC.o bC (af.refl _ _) hkl).1;have hne1:¬gb=w.heap.size:=by omega
        have hne2:¬gb=cb:=by omega
        have ayb:cb<wr.heap.size:=by omega
        have hwr:w.heap.size<wr.heap.size:=by omega
        have wL:=HG.o.1 k hkl;have yJ:pushes k h.cells[k]=if h.cells[k].kind=0 then[h.cells[k].n]else if h.cells[k].kind=3 then argsAt (k:Int) h.cells[k].n else[]:=rfl;obtain⟨c,hcc⟩:∃c:Ce,c=h.cells[k]'hkl:=⟨_,rfl⟩;rw[<-hcc]at c0 c1 c2 i0 i1 i2 wL Li yJ;have E5:=zh yJ;have ayc:=zh i1;have HW1:(wr.setCell ⟨gb,k,none⟩ (.bool true)).heap.size=wr.heap.size:=by simp
        clear hst hib hi1 bI hon hcell hcc yJ i0 i1 i2;unfold Ce.fF at wL;rcases wL with⟨hk0,hn0,hnl, -⟩|⟨hk1, -, -⟩|⟨hk2, -⟩|⟨hk3,hn1,rV,hnl, -⟩
        ·have hpe:=zh (show pushes k c=[c.n]by rw[E5.o,ai hk0]);rw[hk0]at c0;clear hk0;have yK:=zh (ah.below QV.o ((zB _ _).alloc (zL _) (.cells #[.int .i64 0,.int .i64 c.n,.string c.s] 112)));have qQ:=zh (ah.below fT.o ((zB _ _).alloc (zL _) (.cells #[.int .i64 0,.int .i64 c.n,.string c.s] 112)));have nD:=zh (HB1.o.alloc (by omega) (.cells #[.int .i64 0,.int .i64 c.n,.string c.s] 112));have kS:=zh (aX Hz.o (.cells #[.int .i64 0,.int .i64 c.n,.string c.s] 112));have HW2:((wr.setCell ⟨gb,k,none⟩ (.bool true)).alloc (.cells #[.int .i64 0,.int .i64 c.n,.string c.s] 112)).heap.size=wr.heap.size+1:=by simp
         have dP:=zh (ah.gN dY qQ.o (fun _=>True));go_wp2_with(at_builtin;go_must(refine jf rfl (.tmp 60) (.tmp 63) 57 rfl w1.heap.size 3 1 8 jP aW (A:=fun _=>True) (.slice (some ⟨sb,0,none⟩) st0.length xc) (st0) rfl dP.o (c.n) [.int .i64 (c.n)] (by simp only[bQ,qm];rfl) rfl ⟨by unfold aA;omega,rfl⟩ ⟨by omega,by simp;omega⟩ ?_);go_must(intro v2 w4 hown2 aB));have hno:∀b,b<w1.heap.size->ownB (.slice (some ⟨sb,0,none⟩) st0.length xc)≠some b:=fun b hb e=>by have :=(qQ.o.lt b e).1;omega
         have WZ:∀b,ownB (.slice (some ⟨gb,0,none⟩) h.cells.length h.cells.length)=some b->ownB (.slice (some ⟨sb,0,none⟩) st0.length xc)≠some b:=fun b hb e=>rU (by decide) yK.o qQ.o b hb e;have hka:=(af.alloc (fun b=>ownB (.slice (some ⟨sb,0,none⟩) st0.length xc)≠some b) _ _).trans (aB.keeps (A:=fun b=>ownB (.slice (some ⟨sb,0,none⟩) st0.length xc)≠some b) (fun _ h=>h));have E8:=zh (ah.kept yK.o (w':=w4) (fun b hb=>hka.block b (yK.o.lt b hb).2 (WZ b hb)));have AY:=zh (bB kS.o hka (hno _ hz'));have bX:=zh (aB.below (nD.o.alloc (by omega) _) (by simp;omega) (fun b hb=>by have :=(qQ.o.lt b hb).1;omega));have iB:=zh (ah.fG hown2);have l6:=aB.size;simp only[bQ,qm]at l6;obtain⟨QW,QX,hv4, -, -⟩:=ah.val iB.o;subst hv4;clear hka hown2;go_roundw;case rel=>exact⟨m.set k true,st0++[c.n],(by rw[<-hpe.out];exact Li.o),bX.o,AY.o,E8.o,iB.o,by omega⟩
         case measure=>
          rw[EZ.o,show Bi w4 gb 0 h.cells.length=sG (m.set k true)by
           have hl:(m.set k true).length=h.cells.length:=by rw[xL];exact rW
           rw[<-hl];exact Hy _ 0 (fun i hi=>by rw[nX];exact gG.cells E8.o i hi)];have :=iM.o;simp[sliceLen];omega
        ·have hpe:=zh (show pushes k c=[]by rw[E5.o,ag (by omega),ag (by omega)]);rw[hk1]at c0;clear hk1;have yK:=zh (ah.below QV.o ((zB _ _).alloc (zL _) (.cells #[.int .i64 1,.int .i64 c.n,.string c.s] 112)));have qQ:=zh (ah.below fT.o ((zB _ _).alloc (zL _) (.cells #[.int .i64 1,.int .i64 c.n,.string c.s] 112)));have nD:=zh (HB1.o.alloc (by omega) (.cells #[.int .i64 1,.int .i64 c.n,.string c.s] 112));have kS:=zh (aX Hz.o (.cells #[.int .i64 1,.int .i64 c.n,.string c.s] 112));have HW2:((wr.setCell ⟨gb,k,none⟩ (.bool true)).alloc (.cells #[.int .i64 1,.int .i64 c.n,.string c.s] 112)).heap.size=wr.heap.size+1:=by simp
         have dP:=zh (ah.gN dY qQ.o (fun _=>True));go_wp2_with fail;go_roundw;case rel=>exact⟨m.set k true,st0,(by have :=Li.o;rw[hpe.out,tN]at this;exact this),nD.o,kS.o,yK.o,qQ.o,by omega⟩
         case measure=>
          rw[EZ.o,show Bi _ gb 0 h.cells.length=sG (m.set k true)by
           have hl:(m.set k true).length=h.cells.length:=by rw[xL];exact rW
           rw[<-hl];exact Hy _ 0 (fun i hi=>by rw[nX];exact gG.cells yK.o i hi)];have :=iM.o;simp[sliceLen];omega
        ·have hpe:=zh (show pushes k c=[]by rw[E5.o,ag (by omega),ag (by omega)]);rw[hk2]at c0;clear hk2;have yK:=zh (ah.below QV.o ((zB _ _).alloc (zL _) (.cells #[.int .i64 2,.int .i64 c.n,.string c.s] 112)));have qQ:=zh (ah.below fT.o ((zB _ _).alloc (zL _) (.cells #[.int .i64 2,.int .i64 c.n,.string c.s] 112)));have nD:=zh (HB1.o.alloc (by omega) (.cells #[.int .i64 2,.int .i64 c.n,.string c.s] 112));have kS:=zh (aX Hz.o (.cells #[.int .i64 2,.int .i64 c.n,.string c.s] 112));have HW2:((wr.setCell ⟨gb,k,none⟩ (.bool true)).alloc (.cells #[.int .i64 2,.int .i64 c.n,.string c.s] 112)).heap.size=wr.heap.size+1:=by simp
         have dP:=zh (ah.gN dY qQ.o (fun _=>True));go_wp2_with fail;go_roundw;case rel=>exact⟨m.set k true,st0,(by have :=Li.o;rw[hpe.out,tN]at this;exact this),nD.o,kS.o,yK.o,qQ.o,by omega⟩
         case measure=>
          rw[EZ.o,show Bi _ gb 0 h.cells.length=sG (m.set k true)by
           have hl:(m.set k true).length=h.cells.length:=by rw[xL];exact rW
           rw[<-hl];exact Hy _ 0 (fun i hi=>by rw[nX];exact gG.cells yK.o i hi)];have :=iM.o;simp[sliceLen];omega
        ·obtain⟨nn,hnn⟩:=dQ (show 0<=c.n by omega);have hpe:=zh (show pushes k c=argsAt (k:Int) (nn:Int)by rw[E5.o,ag (by omega),ai hk3,hnn]);rw[hk3]at c0;rw[hnn]at c1 hn1 rV hnl;have hal:(argsAt (k:Int) (nn:Int)).length=nn:=by simp[argsAt]
         have pQ:=zh hal;have anr:nn<=4:=by omega
         clear hk3 hnn hal;have yK:=zh (ah.below QV.o ((zB _ _).alloc (zL _) (.cells #[.int .i64 3,.int .i64 (nn:Int),.string c.s] 112)));have qQ:=zh (ah.below fT.o ((zB _ _).alloc (zL _) (.cells #[.int .i64 3,.int .i64 (nn:Int),.string c.s] 112)));have nD:=zh (HB1.o.alloc (by omega) (.cells #[.int .i64 3,.int .i64 (nn:Int),.string c.s] 112));have kS:=zh (aX Hz.o (.cells #[.int .i64 3,.int .i64 (nn:Int),.string c.s] 112));have HW2:((wr.setCell ⟨gb,k,none⟩ (.bool true)).alloc (.cells #[.int .i64 3,.int .i64 (nn:Int),.string c.s] 112)).heap.size=wr.heap.size+1:=by simp
         have Xb:=zh (bJ (wr.setCell ⟨gb,k,none⟩ (.bool true)) (.cells #[.int .i64 3,.int .i64 (nn:Int),.string c.s] 112));simp only[qm]at Xb;obtain⟨gc,hgc⟩:∃g,g=wr.heap.size:=⟨_,rfl⟩;have Kl:=zh hgc;rw[<-hgc]at Xb;go_wp2_with fail;rw[<-Kl.o];have VV:w1.heap.size+1<=gc:=by omega
         rw[<-hgc]at HW2;clear hgc x0 x1 xf c0 c1 c2 s0 b0;go_loopw[10,7](fun i x wr=>∃(j:Nat),j<=nn/\i= .int .i64 ((j:Int)+1)/\Below w.heap.size w wr/\wr.heap[w.heap.size]?=some (.cells #[.slice (some ⟨cb,qD,none⟩) h.cells.length cap,.slice vb h.trail.length aR] 59 (0,0))/\gG wr w1.heap.size (m.set k true) (.slice (some ⟨gb,0,none⟩) h.cells.length h.cells.length)/\dK wr w1.heap.size (st0++(argsAt (k:Int) (nn:Int)).take j) x/\wr.heap[gc]?=some (.cells #[.int .i64 3,.int .i64 (nn:Int),.string c.s] 112 (0,0))/\gc+1<=wr.heap.size)(fun i _ _=>nn+1 - (intOf i).toNat);case atStart=>exact⟨0,dn _,rfl,nD.o,kS.o,yK.o,(by rw[mE,tN];exact qQ.o),Xb.o,by omega⟩
         case round=>
          obtain⟨j,hj,rfl,jb,jx,jo,jn,jc,jz⟩:=hrel;have JB:=zh jb;have JX:=zh jx;have JO:=zh jo;have JC:=zh jc;have hjl:(st0++(argsAt (k:Int) (nn:Int)).take j).length=st0.length+j:=by rw[bT,eY,pQ.o];omega
          obtain⟨ya,yc,rfl,hyl,hym⟩:=ah.val jn;rw[hjl]at hyl jn ⊢;have JN:=zh jn;obtain⟨d0,d1,d2,df⟩:=gH jc;have aoz:gc<wr.heap.size:=by omega
          clear jb jx jo jc;by_cases hlt:j<nn
          ·have dP:=zh (ah.gN dY JN.out (fun _=>True));have hlt':(j:Int)+1<=(nn:Int):=by omega
           have hja:j<(argsAt (k:Int) (nn:Int)).length:=by rw[pQ.o];exact hlt
           have hnext:=zh (show(argsAt (k:Int) (nn:Int)).take (j+1)=(argsAt (k:Int) (nn:Int)).take j++[(k:Int)+((j:Int)+1)]by rw[dX hja,GY,show(k:Int)+1+(j:Int)=(k:Int)+((j:Int)+1)by omega]);clear jn hja;go_wp2_with(at_builtin;go_must(refine jf rfl (.tmp 73) (.tmp 77) 57 rfl w1.heap.size 3 1 8 jP aW (A:=fun _=>True) (.slice ya (st0.length+j) yc) (st0++(argsAt (k:Int) (nn:Int)).take j) rfl dP.o ((k:Int)+((j:Int)+1)) [.int .i64 ((k:Int)+((j:Int)+1))] rfl rfl ⟨by unfold aA;omega,rfl⟩ ⟨by rw[hjl];omega,by omega⟩ ?_);go_must(intro v2 w4 hown2 aB));have hno:∀b,b<w1.heap.size->ownB (.slice ya (st0.length+j) yc)≠some b:=fun b hb e=>by have :=(JN.out.lt b e).1;omega
           have WZ:∀b,ownB (.slice (some ⟨gb,0,none⟩) h.cells.length h.cells.length)=some b->ownB (.slice ya (st0.length+j) yc)≠some b:=fun b hb e=>rU (by decide) JO.out JN.out b hb e;have hka:=(af.alloc (fun b=>ownB (.slice ya (st0.length+j) yc)≠some b) _ _).trans (aB.keeps (A:=fun b=>ownB (.slice ya (st0.length+j) yc)≠some b) (fun _ h=>h));have E8:=zh (ah.kept JO.out (w':=w4) (fun b hb=>hka.block b (JO.out.lt b hb).2 (WZ b hb)));have AY:=zh (bB JX.out hka (hno _ hz'));have bX:=zh (aB.below (JB.out.alloc (by omega) _) (by simp;omega) (fun b hb=>by have :=(JN.out.lt b hb).1;omega));have iB:=zh (ah.fG hown2);have l6:=aB.size;simp only[bQ,qm]at l6;obtain⟨QW,QX,hv4, -, -⟩:=ah.val iB.o;subst hv4;have JC4:=zh (bB JC.out hka (ah.eD JN.out JC.out (by decide)));have hl4:(st0++(argsAt (k:Int) (nn:Int)).take j++[(k:Int)+((j:Int)+1)]).length=st0.length+(j+1):=by rw[bT,hjl];rfl
           rw[hl4];clear hka hown2;go_roundw;case rel=>exact⟨j+1,by omega,by go_num,bX.o,AY.o,E8.o,(by have :=iB.o;rw[hl4]at this;rw[hnext.out,<-wD];exact this),JC4.out,by omega⟩
           case measure=>simp[intOf];omega
          ·have eH:j=nn:=by omega
           have hall:=zh (show st0++(argsAt (k:Int) (nn:Int)).take j=st0++pushes k c by rw[hpe.out,eH,iZ (by rw[pQ.o];exact zL _)]);clear eH jn;go_wp2_with fail;go_roundw;case rel=>exact⟨m.set k true,st0++(argsAt (k:Int) (nn:Int)).take j,(by rw[hall.out];exact Li.o),JB.out,JX.out,JO.out,JN.out,by omega⟩
           case measure=>
            rw[EZ.o,show Bi wr gb 0 h.cells.length=sG (m.set k true)by
             have hl:(m.set k true).length=h.cells.length:=by rw[xL];exact rW
             rw[<-hl];exact Hy _ 0 (fun i hi=>by rw[nX];exact gG.cells JO.out i hi)];have :=iM.o;simp[sliceLen];omega
section
variable {base : Nat} {P : List Cl} {q g : Nat} {pv hc ht : Value} {o : Mo} {m : Mv} {w : World}
noncomputable def C9(m:Mv)(a b:Int):Option Bool×Mv:=if(gP m.h a b).2.2≠0 then(none,m.put 4)else(some (gP m.h a b).2.1,{m with h:=(gP m.h a b).1})
def Da:Option Bool->Value|none=> .tuple #[.bool false,.bool false]|some b=> .tuple #[.bool b,.bool true]
def aer(base:Nat)(P:List Cl)(q g:Nat)(pv:Value)(o:Mo)(r:Option Bool×Mv)(w:World)(e:Ending)(w':World):Prop:=e= .returned (Da r.1)/\bP base P q g pv o r.2 w w'
theorem bZ.new(h:bZ base P q g pv hc ht o m w){w':World}{x:Hp}{us:List Value}(hx:Hp.rep (fun b=>MA g o b\/New w b) w' x us):Hp.rep (MA g o) w' x us:=hx.mono fun b _ hb=>hb.elim id fun(hn:w.heap.size<=b)hm=>by have :=(h.uj b hm).2;omega
theorem bP.below{m':Mv}{w' w'':World}(h:bP base P q g pv o m' w w')(hb:Below w'.heap.size w' w''):bP base P q g pv o m' w w'':=by obtain⟨c,t,o',h1,h2,h3⟩:=h;exact⟨c,t,o',h1.below hb,h2.trans (Ch.of_below hb) (fun b h=>h),h3⟩
theorem aes(a b:Int)(ha:aA a)(hb:aA b)(h:bZ base P q g pv hc ht o m w)(hsz:m.out.length+1<=20):Calls Tryz.prog 109 #[.pointer (some ⟨g,0,none⟩),.int .i64 a,.int .i64 b] w (aer base P q g pv o (C9 m a b) w):=by
 have HU:=zh h;have lX:=zh hsz;have iM:=zh (ad8 m.h a b ha hb (MA g o) w _ h.heap);obtain⟨hl1,hl2⟩:=h.lt;obtain⟨b0,b1,b2,b3,b4,b5,b6,b7,b8,b9,bf⟩:=bV h.box;obtain⟨_,_,_,_,_,_,_,_,ha0,hac,hb0,hbc, -, -, -, -,rfl,rfl, -⟩:=h.vals;have hcs:=dH;clear h ha hb;go_enter Tryz.func109,Tryz.ntmps109;go_wp2_with fail;refine(iM.o).mono ?_;rintro e w1⟨r,rfl,hb1,us,rfl,hx1⟩;have HB1:=zh hb1;have eO:=zh (HU.o.new hx1);have HE:=zh (show C9 m a b=if(gP m.h a b).2.2≠0 then(none,m.put 4)else(some (gP m.h a b).2.1,{m with h:=(gP m.h a b).1})from rfl);obtain⟨xa,vD,xb,vE,rfl, -⟩:=Hp.mG hx1;generalize gP m.h a b=u at*;obtain⟨ux,uo,ue⟩:=u;clear hb1 hx1 iM b0 b1 b2 b3 b4 b5 b6 b7 b8 b9 bf;have hz1:=HB1.o.size;have HB2:=zh (show Below w.heap.size w (w1.alloc (.cells #[.slice xa ux.cells.length vD,.slice xb ux.trail.length vE] 59))from HB1.o.alloc hz1 _);have dI:=zh (show Hp.rep (MA g o) (w1.alloc (.cells #[.slice xa ux.cells.length vD,.slice xb ux.trail.length vE] 59)) ux [.slice xa ux.cells.length vD,.slice xb ux.trail.length vE]from eO.o.keeps (af.alloc _ _ _));have dx:=zh (HU.o.below HB2.o);have HS2:=zh (fun(m':Mv)(w':World)(hh:bP base P q g pv o m' (w1.alloc (.cells #[.slice xa ux.cells.length vD,.slice xb ux.trail.length vE] 59)) w')=>(bP.trans (Ch.of_below HB2.o) (cu.refl _ _) hh:bP base P q g pv o m' w w'));obtain⟨b0,b1,b2,b3,b4,b5,b6,b7,b8,b9,bf⟩:=bV (HU.o.below HB1.o).box;have hgl:g<w1.heap.size:=by omega
 have vF:g≠w1.heap.size:=by omega
 by_cases he:ue=0
 ·have hres:=zh (HE.o.trans (ag (dJ he)));have hed:(ue != 0)=false:=by simpa using he
  clear he HE;go_wp2_with fail;go_ret2;rw[hres.o];have hst:=(HU.o.below HB1.o).setH eO.o;refine⟨rfl,bP.trans (Ch.of_below HB1.o) (cu.refl _ _) (hst.below ?_)⟩;exact(zB _ _).alloc (zL _) _
 ·have hres:=zh (HE.o.trans (ai he));have hed:(ue != 0)=true:=by simpa using he
  clear he HE;go_wp2_with fail;refine(yF 4 (by unfold aA;omega) dx.o lX.o).mono ?_;rintro e w3⟨rfl,hst⟩;have HST:=zh (HS2.o _ _ hst);clear hst;go_wp2_with fail;go_ret2;rw[hres.o];exact⟨rfl,HST.o⟩
theorem aoC(n:Nat)(hn:n<=4)(W:World):(Instr.makeSlice 23 (.int .i64 (n:Int)) (.int .i64 (n:Int))).run Tryz.prog W= .ok (.slice (some ⟨W.heap.size,0,none⟩) n n) (W.alloc (.cells (madeCells #[.int .i64 0,.int .i64 0,.string .empty,.slice none 0 0] (n*4)) 34)):=by
 have ht:Tryz.prog.underlying 23=some (.slice 34):=Tryz.underlying23;have hi:(Tryz.prog.info? 34).map (fun i=>(i.zero,i.size,i.bytes))=some (some (.agg #[.int .i64 0,.int .i64 0,.string .empty,.slice none 0 0]),4,56):=by kernel_rfl
 obtain⟨i0,hi0,h1,h2,h3⟩:=info_parts hi;have hr:=run_make (P:=Tryz.prog) W 23 34 i0 _ ht hi0 h1 .i64 .i64 n n (by omega) (kr _) (by rw[h3];omega) (by omega);rw[hr];simp only[dG,h2];rfl
theorem aoD(n:Nat)(hn:n<=4)(W:World):eP (fun _=>True) (W.alloc (.cells (madeCells #[.int .i64 0,.int .i64 0,.string .empty,.slice none 0 0] (n*4)) 34)) (List.replicate n vv) (.slice (some ⟨W.heap.size,0,none⟩) n n):=by
 refine⟨W.heap.size,0,⟨by simp;omega,?_⟩,fun i x hx=>?_⟩
 ·by_cases h0:n=0;·subst h0;exact .inl ⟨rfl,_,0,rfl,by simp[maxLen]⟩
  ·exact .inr ⟨by simp;omega,trivial,n,by simp,by simp,by unfold maxLen;omega⟩
 ·rw[Vb]at hx;split at hx
  ·rename_i hi;obtain rfl:=zI hx;refine⟨[.int .i64 0,.int .i64 0,.string .empty,.slice none 0 0],rfl,?_,fun j u hu=>?_⟩;·exact yH _ _
   ·have hj:j<4:=by have :=(gT.1 hu).1;simpa using this
    have hsz:i*4+j<n*4:=by omega
    have hc:(madeCells #[.int .i64 0,.int .i64 0,.string .empty,.slice none 0 0] (n*4))[i*4+j]?=some u:=by
     unfold madeCells;rw[Array.getElem?_map,Array.getElem?_range,ai hsz];simp only[pq];have hm:(i*4+j)%4=j:=by omega
     show some (#[Value.int .i64 0,.int .i64 0,.string .empty,.slice none 0 0][(i*4+j)%4]!)=_;rw[hm];match j,hj with|0,_=>simpa using hu|1,_=>simpa using hu|2,_=>simpa using hu|3,_=>simpa using hu
    rw[nX];exact(bW (bJ W _) (i*4+j)).trans hc
  ·cases hx
theorem aoE(x:Gm)(hx:Inb m.h.cells x.at_)(hn0:0<=(cellAt m.h.cells x.at_).n)(rV:(cellAt m.h.cells x.at_).n<=4)(hs:(cellAt m.h.cells x.at_).s.size<=1048576)(h:bZ base P q g pv hc ht o m w):Calls Tryz.prog 68 #[.pointer (some ⟨g,0,none⟩),.agg #[.int .i64 x.at_,.int .i64 (x.bar:Int),.int .i64 x.next]] w (fun e w'=>∃t,e= .returned (.bool t)/\Below w.heap.size w w'/\(t=true↔yx (cellAt m.h.cells x.at_))):=by
 have HU:=zh h;have HH:=zh (fun(W:World)(hb:Below w.heap.size w W)=>WB x hx (h.below hb));have hcs:=dH;obtain⟨n,hn⟩:=dQ hn0;generalize cellAt m.h.cells x.at_=c at*;clear h hx;go_enter Tryz.func68,Tryz.ntmps68;go_wp2_with fail;obtain⟨W1,hW1⟩:∃W1,W1=w.alloc (.cells #[.int .i64 x.at_,.int .i64 (x.bar:Int),.int .i64 x.next] 117):=⟨_,rfl⟩;have HB1:=zh (show Below w.heap.size w W1 by rw[hW1];exact(zB _ _).alloc (zL _) _);rw[<-hW1];clear hW1;refine(HH.o W1 HB1.o).mono ?_;rintro e w2⟨rfl,hb2⟩;have HB2:=zh (HB1.o.trans (hb2.mono HB1.o.size));clear hb2;have hk:n<=4:=by omega
 have jQ:=zh (aoC n hk);have HN:=zh hn;have HS:=zh hs;have Db:=zh (fun(W:World)=>aoD n hk W);have hz2:=HB2.o.size;rw[hn];have ayd:(0:Int)<=(n:Int):=zN _;have hmk:=jQ.o;clear hn hs hn0 rV hk;go_wp2_with fail;refine(ac2 (.mk 0 0 c.s (List.replicate n vv)) (fun _=>True) _ [_,_,_,_] ?_).mono ?_;·rw[Tm.gL];exact⟨by unfold aA;omega,by unfold aA;omega,HS.o,_,rfl,Db.o w2⟩
 rintro e w3⟨r,rfl,hb3,t,rfl,hkn⟩;have HB3:=zh ((HB2.o.alloc hz2 _).trans (hb3.mono (by simp;omega)));have HK:=zh hkn;clear hb3 hkn;go_wp2_with fail;go_ret;refine⟨_,rfl,HB3.o,?_⟩;unfold yx;rw[HN.o,dG];exact HK.o
end
def aet(A:Nat->Prop)(x:Hp×Int)(r:Value)(w':World):Prop:=∃us,r= .tuple #[.agg us.toArray,.int .i64 x.2]/\Hp.rep A w' x.1 us
def yL(base:Nat)(E:TypeId)(z:Array Value):Value->World->Prop:=fun v w=>∃g,v= .pointer (some ⟨g,0,none⟩)/\base<=g/\w.heap[g]?=some (.cells z E (0,0))
theorem Lj(base:Nat)(E:TypeId)(z:Array Value):rT (yL base E z):=fun v w w'⟨g,e,h1,h2⟩hb=>⟨g,e,h1,aL h2 hb⟩
def Xd(base:Nat)(l:List Ce)(t:Value):Value->World->Prop:=fun v w=>∃c,v= .agg #[c,t]/\jh w base l c
theorem aoF(base:Nat)(l:List Ce)(t:Value):rT (Xd base l t):=fun v w w'⟨c,e,h⟩hb=>⟨c,e,ah.below h hb⟩
theorem au.drop{α:Type}{size:Nat}{R:(Nat->Prop)->World->α->List Value->Prop}{A:Nat->Prop}{w:World}{l:List α}{a:Option Addr}{len cap:Nat}(h:au size R A w l (.slice a len cap)){k:Nat}(hk:k<=l.length):au size R A w (l.drop k) (.slice (if cap=k then a else a.map fun x=>x.add (k*size)) (len - k) (cap - k)):=by
 obtain⟨b,off,hs,he⟩:=h;refine⟨b,off+k*size,?_,fun i x hx=>?_⟩
 ·obtain⟨h1,⟨h0,a',c',e,hc⟩|⟨h0,hA,c',e,hc,hm⟩⟩:=hs;·simp only[dC]at e;obtain⟨rfl,rfl,rfl⟩:=e;exact⟨by simp;omega,.inl ⟨by simp;omega,_,_,by rw[Nat.zero_sub],by omega⟩⟩
  ·simp only[dC]at e;obtain⟨rfl,rfl,rfl⟩:=e;by_cases hkl:k=l.length;·exact⟨by simp;omega,.inl ⟨by simp;omega,_,_,by rw[hkl,Nat.sub_self],by omega⟩⟩
   ·refine⟨by simp;omega,.inr ⟨by simp;omega,hA,cap - k,?_,by simp;omega,by omega⟩⟩;rw[ag (by omega),PG];simp[Addr.add]
 ·rw[List.getElem?_drop]at hx;obtain⟨vs,h1,h2,h3⟩:=he _ _ hx;exact⟨vs,h1,h2,by rw[show off+k*size+i*size=off+(k+i)*size by rw[nY];omega];exact h3⟩
theorem au.take{α:Type}{size:Nat}{R:(Nat->Prop)->World->α->List Value->Prop}{A:Nat->Prop}{w:World}{l:List α}{a:Option Addr}{len cap:Nat}(h:au size R A w l (.slice a len cap)){k:Nat}(hk:k<=l.length):au size R A w (l.take k) (.slice a k cap):=by
 obtain⟨b,off,hs,he⟩:=h;have hl:(l.take k).length=k:=by rw[eY];omega
 refine⟨b,off,?_,fun i x hx=>?_⟩
 ·rw[hl];obtain⟨h1,⟨h0,a',c',e,hc⟩|⟨h0,hA,c',e,hc,hm⟩⟩:=hs;·simp only[dC]at e;obtain⟨rfl,rfl,rfl⟩:=e;exact⟨by omega,.inl ⟨by omega,_,_,by rw[show k=0 by omega],by omega⟩⟩
  ·simp only[dC]at e;obtain⟨rfl,rfl,rfl⟩:=e;by_cases hk0:k=0;·exact⟨by omega,.inl ⟨hk0,_,_,by rw[hk0],by omega⟩⟩
   ·exact⟨by omega,.inr ⟨by omega,hA,cap,rfl,by omega,by omega⟩⟩
 ·have h0:i<k:=by have :=(gT.1 hx).1;omega
  rw[qj h0]at hx;exact he _ _ hx
theorem aoG(W:World)(a:Option Addr)(len cap m:Nat)(hm:m<=len):(Instr.slice 57 (.slice a len cap) (some (.int .i64 (m:Int))) none none).run Tryz.prog W= .ok (.slice (if cap=m then a else a.map fun x=>x.add (m*1)) (len - m) (cap - m)) W:=by
 have h0:(0:Int)<=(m:Int):=zN _;have h1:(m:Int)<=(len:Int):=by omega
 rw[Go.run_slice_l (P:=Tryz.prog) (w:=W) (t:=57) (a:=a) (len:=len) (cap:=cap) (ht:=by kernel_rfl) (kl:= .i64) (l:=(m:Int)) h0 h1];obtain⟨⟨i,z,ht,hi,hz,k1,k2,k3⟩, -⟩:=jP;have e:Program.elem Tryz.prog 57=3:=by kernel_rfl
 simp[e,sizeOf,typeInfo,hi,k1,sliced]
theorem aoH{l:List Ce}{vs us:List Int}{v:Nat}(hv:v<(iw l vs).length)(qA:∀x,x∈us↔x∈vs\/x=(v:Int)):(iw l vs).set v {(iw l vs)[v]with n:=(v:Int)}=iw l us:=by
 rw[<-amE l vs v (by omega) us qA];apply nu (by simp);intro i h1 h2;simp only[dG,Ee,Vj];split;·rename_i e;subst e;rfl
 ·rfl
theorem aoI(h:Hp)(n:Int)(hn:aA n)(A:Nat->Prop)(w:World)(vs:List Value)(hh:Hp.rep A w h vs):Calls Tryz.prog 105 #[.agg vs.toArray,.int .i64 n] w (Pure w (aet (fun b=>A b\/New w b) (qK h n))):=by
 obtain⟨va,cap,vb,aR,rfl,hc1,hc2,hc3,ht1,ht2,ht3,hc,ht⟩:=Hp.mG hh;have HH:=zh hh;have HC:=zh hc;have HT:=zh ht;have jX:=zh (fun w'(hk:af A w w')=>Ct h A w' _ (Hp.rep.keeps hh hk));clear hh hc ht;go_enter Tryz.func105,Tryz.ntmps105;go_wp2_with fail;refine(jX.o _ ((af.alloc _ _ _).trans (af.alloc _ _ _))).mono ?_;rintro e w1⟨v,rfl,hb1,t,rfl,ht⟩;have h2:=je w (.cells #[.slice va h.cells.length cap,.slice vb h.trail.length aR] 59) (.cells #[.slice none 0 0,.slice none 0 0] 59);have eO:=zh (aL h2.1 hb1);have dI:=zh (aL h2.2 hb1);have HB:=zh (show Below w.heap.size w w1 from eB (eB (hb1.mono (by simp))));have hz:w.heap.size+1<w1.heap.size:=by have :=hb1.size;simp at this;omega
 have hz':w.heap.size<w1.heap.size:=by omega
 have lK:=zh ht;have hcs:=dH;clear h2 hb1 ht;obtain⟨x0,x1,xf⟩:=dO eO.o;obtain⟨y0,y1,yf⟩:=dO dI.o;cases t with
  |false=>
   have hg:¬h.Good:=fun hg=>by have :=lK.o.2 hg;cases this
   go_wp2_with fail;refine dD (v:= .tuple #[.agg #[.slice va h.cells.length cap,.slice vb h.trail.length aR],.int .i64 1]) (by simp[results,Tryz.results105,go_sem,hcs,x0,x1,y0,y1]) rfl ?_;have hb:Below w.heap.size w ((w1.setCell ⟨w.heap.size+1,0,none⟩ (.slice va h.cells.length cap)).setCell ⟨w.heap.size+1,1,none⟩ (.slice vb h.trail.length aR)):=bK (bK HB.o (by simp) _) (by simp) _;rw[qK,ai hg];exact Pure.mk hb ⟨_,rfl,Hp.rep.mono (Hp.rep.keeps HH.o (af.ob hb)) (fun _ _ h=> .inl h)⟩
  |true=>
   have HG:=zh (lK.o.1 rfl);have wS:=zh HG.o.2.2.1;have HL2:=zh HG.o.2.2.2;clear lK;by_cases hin:0<=n/\n<=(h.trail.length:Int);case neg=>have dM:=zh hin;have hin':¬(0<=n/\n<=(h.trail.length:Int)):=hin;clear hin;go_wp2_with fail;all_goals first|(exfalso;omega)|(refine dD (v:= .tuple #[.agg #[.slice va h.cells.length cap,.slice vb h.trail.length aR],.int .i64 2]) (by simp[results,Tryz.results105,go_sem,hcs,x0,x1,y0,y1]) rfl ?_;have hb:Below w.heap.size w ((w1.setCell ⟨w.heap.size+1,0,none⟩ (.slice va h.cells.length cap)).setCell ⟨w.heap.size+1,1,none⟩ (.slice vb h.trail.length aR)):=bK (bK HB.o (by simp) _) (by simp) _;rw[qK,ag (dJ HG.o),ai dM.o];exact Pure.mk hb ⟨_,rfl,Hp.rep.mono (Hp.rep.keeps HH.o (af.ob hb)) (fun _ _ h=> .inl h)⟩)|go_ways
   case pos=>
    have dM:=zh hin;obtain⟨i0,i1⟩:=hin;obtain⟨m,rfl⟩:=dQ i0;have hm:m<=h.trail.length:=by omega
    have HDR:=zh (au.drop HT.o hm);obtain⟨sa,hsa⟩:∃sa,sa=(if aR=m then vb else vb.map fun x=>x.add (m*1)):=⟨_,rfl⟩;rw[<-hsa]at HDR;have HSA:=zh hsa;have hdl:(h.trail.drop m).length=h.trail.length - m:=PG;obtain⟨_,_,db,aye,e, -, -, -,hda,hde⟩:=au.at HDR.o;simp only[dC]at e;obtain⟨rfl, -,rfl⟩:=e;have HDA:=zh hda;have HDE:=zh hde;have qS:∀W:World,(Instr.slice 57 (.slice vb h.trail.length aR) (some (.int .i64 (m:Int))) none none).run Tryz.prog W= .ok (.slice sa (h.trail.length - m) (aR - m)) W:=fun W=>by rw[HSA.o];exact aoG W vb h.trail.length aR m hm
    have hmt:(m:Int)<=(h.trail.length:Int):=by omega
    clear hsa hda hde;go_wp2_with fail;all_goals first|(exfalso;omega)|skip
    refine(Qj h.cells A _ _ (au.keeps Ce.aj HC.o (af.ob HB.o))).mono ?_;rintro e w2⟨v,rfl,hb2,hown⟩;obtain⟨ca,cc,rfl,hcl,hcm⟩:=jh.pO hown;have kS:=zh (aL eO.o hb2);have wV:=zh (aL dI.o hb2);have HB2:=zh (show Below w.heap.size w w2 from HB.o.trans (hb2.mono (by omega)));have hz2:w1.heap.size<=w2.heap.size:=hb2.size;have hz3:w.heap.size<w2.heap.size:=by omega
    have HO:=zh hown;clear hown hb2 x0 x1 xf y0 y1 yf;obtain⟨x0,x1,xf⟩:=dO kS.o;go_wp2_with fail;clear x0 x1 xf;go_loopw[31](fun i wr=>∃j:Nat,j<=h.trail.length - m/\i= .int .i64 j/\Below w.heap.size w wr/\wr.heap[w.heap.size]?=some (.cells #[.slice va h.cells.length cap,.slice vb h.trail.length aR] 59)/\wr.heap[w.heap.size+1]?=some (.cells #[.slice none 0 0,.slice none 0 0] 59)/\jh wr w1.heap.size (iw h.cells ((h.trail.drop m).take j)) (.slice ca h.cells.length cc))(fun i _=>h.trail.length - m - (intOf i).toNat);case atStart=>exact⟨0,dn _,rfl,HB2.o,kS.o,wV.o,by rw[mE,acW];exact HO.o⟩
    case round=>
     obtain⟨j,hj,rfl,hib,hi1,hi2,xZ⟩:=hrel;have ug:=zh hib;have HI1:=zh hi1;have HI2:=zh hi2;have Es:=zh xZ;have mR:w.heap.size+1<wr.heap.size:=aJ hi2;by_cases hlt:j<h.trail.length - m
     ·have hjd:j<(h.trail.drop m).length:=by rw[hdl];exact hlt
      obtain⟨rfl,hAd⟩:=HDA.o (by omega);obtain⟨c0,ci⟩:=Cr HDE.o hAd (af.ob hib) hjd;obtain⟨v,hv,hvl,hvk⟩:=HG.o.2.1 (m+j) (by omega);rw[List.getElem_drop,hv]at c0;have Xe:(iw h.cells ((h.trail.drop m).take j)).length=h.cells.length:=uT _ _;obtain⟨cb,rfl,bI,d0,d1,d2,hok,hfz,hcb,aoN⟩:=jh.cell (show jh wr w1.heap.size (iw h.cells ((h.trail.drop m).take j)) (.slice ca (iw h.cells ((h.trail.drop m).take j)).length cc)by rw[Xe];exact xZ) (i:=v) (by rw[Xe];exact hvl);have dE:=zh bI;have tY:=zh hok;have HV:=zh hv;have hv0:(0:Int)<=(v:Int):=zN _;have hv1:(v:Int)<(h.cells.length:Int):=by omega
      have hj1:(j:Int)<((h.trail.length - m:Nat):Int):=by omega
      have hj0:(0:Int)<=(j:Int):=zN _;clear hib hi1 hi2 xZ bI hok hv hdl;go_wp2_with fail;go_roundw;case rel=>
       refine⟨j+1,by omega,by go_num,bK ug.o (by simp only;omega) _,?_,?_,?_⟩;·rw[bH _ _ _ _ (by simp;omega)];exact HI1.o
       ·rw[bH _ _ _ _ (by simp;omega)];exact HI2.o
       ·rw[<-aoH (vs:=(h.trail.drop m).take j) (v:=v) (by rw[uT];exact hvl) (fun x=>by rw[dX hjd,fE,gB,List.getElem_drop,HV.o])];exact ah.set Ce.kC Es.o dE.o (by rw[uT];exact hvl) (by omega) rfl ⟨tY.o.1,by unfold aA;simp only;omega,tY.o.2.2⟩
      case measure=>simp[intOf];omega
     ·have eH:j=h.trail.length - m:=by omega
      obtain⟨x0,x1,xf⟩:=dO hi1;obtain⟨y0,y1,yf⟩:=dO hi2;have fT:=zh (au.take HT.o hm);clear hib hi1 hi2 xZ;go_wp2_with fail;refine(VS (h.trail.take m) A _ _ (au.keeps aW fT.o (af.ob ug.o))).mono ?_;rintro e w4⟨v,rfl,hb4,hown⟩;obtain⟨na,nc,hnv,hnl,hnm⟩:=ah.val hown;rw[show(h.trail.take m).length=m by rw[eY];omega]at hnv;subst hnv;have VU:=zh (aL HI2.o hb4);have bX:=zh (show Below w.heap.size w w4 from ug.o.trans (hb4.mono (by omega)));have HN:=zh hown;have wN:=zh (ah.below Es.o hb4);have l6:wr.heap.size<=w4.heap.size:=hb4.size;clear hown hb4 x0 x1 xf y0 y1 yf;obtain⟨y0,y1,yf⟩:=dO VU.o;go_wp2_with fail;refine dD (v:= .tuple #[.agg #[.slice ca h.cells.length cc,.slice na m nc],.int .i64 0]) (by simp[results,Tryz.results105,go_sem,hcs,y0,y1]) rfl ?_;have hb:Below w.heap.size w ((w4.setCell ⟨w.heap.size+1,0,none⟩ (.slice ca h.cells.length cc)).setCell ⟨w.heap.size+1,1,none⟩ (.slice na m nc)):=bK (bK bX.o (by simp) _) (by simp) _;rw[qK,ag (dJ HG.o),ag (dJ dM.o),dG];refine Pure.mk hb ⟨_,rfl,_,_,rfl,?_,?_⟩;·have h6:=wN.o;rw[eH,iZ (by rw[hdl];exact zL _)]at h6;have h7:=ah.sl (A:=fun b=>A b\/New w b) Ce.kC Ce.AV (ah.kept h6 (w':=(w4.setCell ⟨w.heap.size+1,0,none⟩ (.slice ca h.cells.length cc)).setCell ⟨w.heap.size+1,1,none⟩ (.slice na m nc)) fun k hk=>by have :=(h6.lt k hk).1;rw[bH _ _ _ _ (by simp;omega),bH _ _ _ _ (by simp;omega)]) (by rw[uT];omega) (fun k hk=> .inr (by have :=(h6.lt k hk).1;unfold New;omega));exact h7
      ·have h6:=HN.o;have h7:=ah.sl (A:=fun b=>A b\/New w b) dY zC (ah.kept h6 (w':=(w4.setCell ⟨w.heap.size+1,0,none⟩ (.slice ca h.cells.length cc)).setCell ⟨w.heap.size+1,1,none⟩ (.slice na m nc)) fun k hk=>by have :=(h6.lt k hk).1;rw[bH _ _ _ _ (by simp;omega),bH _ _ _ _ (by simp;omega)]) (by rw[eY];omega) (fun k hk=> .inr (by have :=(h6.lt k hk).1;unfold New;omega));exact h7
theorem aoO(h:Hp)(n:Int)(hn:aA n)(A:Nat->Prop)(w:World)(vs:List Value)(hh:Hp.rep A w h vs):Calls Tryz.prog 106 #[.agg vs.toArray,.int .i64 n] w (Pure w (aet (fun b=>A b\/New w b) (qL h n))):=by
 obtain⟨va,cap,vb,aR,rfl,hc1,hc2,hc3,ht1,ht2,ht3,hc,ht⟩:=Hp.mG hh;have HH:=zh hh;have HC:=zh hc;have HT:=zh ht;have jX:=zh (fun w'(hk:af A w w')=>Ct h A w' _ (Hp.rep.keeps hh hk));clear hh hc ht;go_enter Tryz.func106,Tryz.ntmps106;go_wp2_with fail;refine(jX.o _ ((af.alloc _ _ _).trans (af.alloc _ _ _))).mono ?_;rintro e w1⟨v,rfl,hb1,t,rfl,ht⟩;have h2:=je w (.cells #[.slice va h.cells.length cap,.slice vb h.trail.length aR] 59) (.cells #[.slice none 0 0,.slice none 0 0] 59);have eO:=zh (aL h2.1 hb1);have dI:=zh (aL h2.2 hb1);have HB:=zh (show Below w.heap.size w w1 from eB (eB (hb1.mono (by simp))));have hz:w.heap.size+1<w1.heap.size:=by have :=hb1.size;simp at this;omega
 have hz':w.heap.size<w1.heap.size:=by omega
 have lK:=zh ht;have hcs:=dH;clear h2 hb1 ht;obtain⟨x0,x1,xf⟩:=dO eO.o;obtain⟨y0,y1,yf⟩:=dO dI.o;cases t with
  |false=>
   have hg:¬h.Good:=fun hg=>by have :=lK.o.2 hg;cases this
   go_wp2_with fail;refine dD (v:= .tuple #[.agg #[.slice va h.cells.length cap,.slice vb h.trail.length aR],.int .i64 1]) (by simp[results,Tryz.results106,go_sem,hcs,x0,x1,y0,y1]) rfl ?_;have hb:Below w.heap.size w ((w1.setCell ⟨w.heap.size+1,0,none⟩ (.slice va h.cells.length cap)).setCell ⟨w.heap.size+1,1,none⟩ (.slice vb h.trail.length aR)):=bK (bK HB.o (by simp) _) (by simp) _;rw[qL,ai hg];exact Pure.mk hb ⟨_,rfl,Hp.rep.mono (Hp.rep.keeps HH.o (af.ob hb)) (fun _ _ h=> .inl h)⟩
  |true=>
   have HG:=zh (lK.o.1 rfl);have wS:=zh HG.o.2.2.1;have HL2:=zh HG.o.2.2.2;clear lK;by_cases hin:0<=n/\n<=(h.cells.length:Int);case neg=>have dM:=zh hin;have hin':¬(0<=n/\n<=(h.cells.length:Int)):=hin;clear hin;go_wp2_with fail;all_goals first|(exfalso;omega)|(refine dD (v:= .tuple #[.agg #[.slice va h.cells.length cap,.slice vb h.trail.length aR],.int .i64 2]) (by simp[results,Tryz.results106,go_sem,hcs,x0,x1,y0,y1]) rfl ?_;have hb:Below w.heap.size w ((w1.setCell ⟨w.heap.size+1,0,none⟩ (.slice va h.cells.length cap)).setCell ⟨w.heap.size+1,1,none⟩ (.slice vb h.trail.length aR)):=bK (bK HB.o (by simp) _) (by simp) _;rw[qL,ag (dJ HG.o),ai dM.o];exact Pure.mk hb ⟨_,rfl,Hp.rep.mono (Hp.rep.keeps HH.o (af.ob hb)) (fun _ _ h=> .inl h)⟩)|go_ways
   case pos=>
    have dM:=zh hin;obtain⟨i0,i1⟩:=hin;obtain⟨m,rfl⟩:=dQ i0;have hm:m<=h.cells.length:=by omega
    go_wp2_with fail;all_goals first|(exfalso;omega)|skip
    obtain⟨W0,rfl⟩:∃z,z=w1:=⟨_,rfl⟩;have dV:Hd (∀w',Below W0.heap.size W0 w'->Below w.heap.size w w'/\w'.cell? ⟨w.heap.size,0,none⟩=some (.slice va h.cells.length cap)/\w'.cell? ⟨w.heap.size,1,none⟩=some (.slice vb h.trail.length aR)):=zh fun w' hb=>by have h1:=aL eO.o hb;obtain⟨z0,z1, -⟩:=dO h1;exact⟨HB.o.trans (hb.mono (by omega)),z0,z1⟩
    refine Kk 9 (Inv:=fun w'=>Below W0.heap.size W0 w') (Po:=posts [aQ (.pointer (some ⟨w.heap.size,0,none⟩)),aQ (.slice va h.cells.length cap),aQ (.int .i64 (m:Int)),aQ (.slice va m cap),Kn W0.heap.size (h.cells.take m),aQ (.pointer (some ⟨w.heap.size,1,none⟩)),aQ (.slice vb h.trail.length aR),Xd W0.heap.size (h.cells.take m) (.slice vb h.trail.length aR),yL W0.heap.size 59 #[.slice none 0 0,.slice none 0 0]]) (Rl:=fun w w'=>Below w.heap.size w w') (by kernel_rfl) (by kernel_rfl) (by kernel_rfl) (by kernel_rfl) ((zB _ _).drew) ?_ ?_ ?_ ?_;·refine wK fun R hR=>?_;simp only[gK,uQ,pz]at hR;rcases hR with rfl|rfl|rfl|rfl|rfl|rfl|rfl|rfl|rfl<;>first|exact wJ _|exact EH|exact EI _|exact EJ _|exact EK _|exact EL _|exact EM _|exact EN _|exact EO _|exact CJ _ _|exact A7 _ _|exact aoF _ _ _|exact Lj _ _ _
    ·exact fun w1 w2 h h'=>h.trans (h'.mono h.size)
    ·intro i o ho f ac ww hinv hpo hdst hold;match i,ho with
      |0,ho=>obtain rfl:_=o:=zI ho;have t2:=hold 2 (by kernel_rfl);refine Or.inl ⟨aK rfl,?_⟩;clear hdst hpo hold ho hinv;unfold aI;go_simp;exact⟨rfl,zB _ _⟩
      |1,ho=>obtain rfl:_=o:=zI ho;have t21:=hdst 0 21 (by kernel_rfl) (by kernel_rfl);have p0:=hpo 0 (by kernel_rfl);refine Or.inl ⟨aK rfl,?_⟩;clear hdst hpo hold ho;rw[show f 0=_ from p0]at t21;obtain⟨-,x0,x1⟩:=dV.o ww hinv;unfold aI;go_simp;exact⟨rfl,zB _ _⟩
      |2,ho=>obtain rfl:_=o:=zI ho;have t1:=hold 1 (by kernel_rfl);refine Or.inl ⟨aK rfl,?_⟩;clear hdst hpo hold ho hinv;unfold aI;go_simp;exact⟨rfl,zB _ _⟩
      |3,ho=>
       obtain rfl:_=o:=zI ho;have t22:=hdst 1 22 (by kernel_rfl) (by kernel_rfl);have p1:=hpo 1 (by kernel_rfl);have t23:=hdst 2 23 (by kernel_rfl) (by kernel_rfl);have p2:=hpo 2 (by kernel_rfl);refine Or.inl ⟨aK rfl,?_⟩;clear hdst hpo hold ho;rw[show f 1=_ from p1]at t22;rw[show f 2=_ from p2]at t23;clear hinv;have hmc:m<=cap:=by omega
       unfold aI;go_simp;exact⟨rfl,zB _ _⟩
      |4,ho=>obtain rfl:_=o:=zI ho;have t24:=hdst 3 24 (by kernel_rfl) (by kernel_rfl);have p3:=hpo 3 (by kernel_rfl);refine Or.inl ⟨aK rfl,?_⟩;clear hdst hpo hold ho;rw[show f 3=_ from p3]at t24;unfold aI;go_simp;refine(Qj (h.cells.take m) A _ _ (au.keeps Ce.aj (au.take HC.o hm) (af.ob (dV.o ww hinv).1))).mono ?_;rintro e w1⟨v,rfl,hb,hown⟩;exact⟨_,rfl,ah.rQ hown (fun k hk=>by have :=(hown.lt k hk).1;have :=hinv.size;omega),hb⟩
      |5,ho=>obtain rfl:_=o:=zI ho;have t2:=hold 2 (by kernel_rfl);refine Or.inl ⟨aK rfl,?_⟩;clear hdst hpo hold ho hinv;unfold aI;go_simp;exact⟨rfl,zB _ _⟩
      |6,ho=>obtain rfl:_=o:=zI ho;have t26:=hdst 5 26 (by kernel_rfl) (by kernel_rfl);have p5:=hpo 5 (by kernel_rfl);refine Or.inl ⟨aK rfl,?_⟩;clear hdst hpo hold ho;rw[show f 5=_ from p5]at t26;obtain⟨-,x0,x1⟩:=dV.o ww hinv;unfold aI;go_simp;exact⟨rfl,zB _ _⟩
      |7,ho=>
       obtain rfl:_=o:=zI ho;have t25:=hdst 4 25 (by kernel_rfl) (by kernel_rfl);have p4:(Kn W0.heap.size (h.cells.take m)) (f 4) ww:=hpo 4 (by kernel_rfl);have t27:=hdst 6 27 (by kernel_rfl) (by kernel_rfl);have p6:=hpo 6 (by kernel_rfl);refine Or.inl ⟨aK rfl,?_⟩;clear hdst hpo hold ho;rw[show f 6=_ from p6]at t27;clear hinv;obtain⟨fa,fc,hf, -, -⟩:=ah.val p4;have hlt:(h.cells.take m).length=m:=by rw[eY];omega
       rw[hf,hlt]at t25;have p4':jh ww W0.heap.size (h.cells.take m) (.slice fa m fc):=by rw[hf,hlt]at p4;exact p4
       unfold aI;go_simp;exact⟨⟨_,rfl,p4'⟩,zB _ _⟩
      |8,ho=>obtain rfl:_=o:=zI ho;refine Or.inl ⟨aK rfl,?_⟩;clear hdst hpo hold ho;unfold aI;go_simp;exact⟨⟨_,rfl,hinv.size,bJ _ _⟩,(zB _ _).alloc (zL _) _⟩
      |i+9,ho=>simp at ho
    ·intro f ww hinv hpo;have p7:(Xd W0.heap.size (h.cells.take m) (.slice vb h.trail.length aR)) (f 7) ww:=hpo 7 (by decide);have p8:(yL W0.heap.size 59 #[.slice none 0 0,.slice none 0 0]) (f 8) ww:=hpo 8 (by decide);obtain⟨cv,e7,hown⟩:=p7;obtain⟨g,e8,Dc,pU⟩:=p8;obtain⟨ca,cc,hcv,hcl,hcm⟩:=ah.val hown;rw[show(h.cells.take m).length=m by rw[eY];omega]at hcv hcl;subst hcv;simp only[gY,uP,mE,xI,wC,xK];rw[e7,e8];have hB:=dV.o ww hinv;have HB1:=zh hB.1;have HO:=zh hown;have nQ:=zh pU;have Hz:=zh (aL eO.o hinv);have E9:=zh (aL dI.o hinv);obtain⟨z0,z1,zf⟩:=dO pU;have hgw:g<ww.heap.size:=aJ pU;have oD:=ah.eD hown pU (by decide);clear hinv hpo hB pU hown e7 e8 x0 x1 xf y0 y1 yf;refine qH (i:=9) (by kernel_rfl) (aF rfl (by rfl) ?_);go_simp;refine Co (by kernel_rfl) ?_ _;have hkeep:∀k,k≠g->((ww.setCell ⟨g,0,none⟩ (.slice ca m cc)).setCell ⟨g,1,none⟩ (.slice vb h.trail.length aR)).heap[k]?=ww.heap[k]?:=fun k hk=>by rw[bH _ _ _ _ hk,bH _ _ _ _ hk]
     have hgb:w.heap.size+2<=W0.heap.size:=by omega
     have QY:=zh (show Below w.heap.size w ((ww.setCell ⟨g,0,none⟩ (.slice ca m cc)).setCell ⟨g,1,none⟩ (.slice vb h.trail.length aR))from bK (bK HB1.o (by simp only;omega) _) (by simp only;omega) _);have aew:=zh ((hkeep _ (by omega)).trans Hz.o);have aex:=zh ((hkeep _ (by omega)).trans E9.o);have Xf:Hd (((ww.setCell ⟨g,0,none⟩ (.slice ca m cc)).setCell ⟨g,1,none⟩ (.slice vb h.trail.length aR)).heap[g]?=some (.cells #[.slice ca m cc,.slice vb h.trail.length aR] 59 (0,0))):=zh ((bG (bG nQ.o 0 _) 1 _).trans rfl);have QZ:=zh (ah.kept HO.o (w':=(ww.setCell ⟨g,0,none⟩ (.slice ca m cc)).setCell ⟨g,1,none⟩ (.slice vb h.trail.length aR)) (fun k hk=>hkeep k (fun e=>oD (hk.trans (congrArg some e)))));clear hkeep z0 z1 zf;generalize(ww.setCell ⟨g,0,none⟩ (.slice ca m cc)).setCell ⟨g,1,none⟩ (.slice vb h.trail.length aR)=WS at QY aew aex Xf QZ ⊢;have HRF:Hd (Hp.rep (fun b=>A b\/New w b) WS ⟨h.cells.take m,h.trail⟩ [.slice ca m cc,.slice vb h.trail.length aR]):=zh ⟨_,_,rfl,ah.sl Ce.kC Ce.AV QZ.o (by rw[eY];omega) (fun k hk=> .inr (by have :=(QZ.o.lt k hk).1;unfold New;omega)),au.mono aW (by omega) (au.keeps aW HT.o (af.ob QY.o)) (fun _ _ h=> .inl h)⟩;obtain⟨z0,z1,zf⟩:=dO Xf.o;go_wp2_with fail;refine(Ct ⟨h.cells.take m,h.trail⟩ _ _ [_,_] HRF.o).mono ?_;rintro e w3⟨v,rfl,hb3,t,rfl,ht⟩;have Bh:=zh (aL aew.o hb3);have WJ:=zh (aL aex.o hb3);have aoQ:=zh (aL Xf.o hb3);have HB3:=zh (QY.o.trans (hb3.mono QY.o.size));have HR3:=zh (Hp.rep.below HRF.o hb3);have lK:=zh ht;have Xg:=zh (ah.below QZ.o hb3);have hcs:=dH;clear hb3 ht z0 z1 zf;obtain⟨x0,x1,xf⟩:=dO Bh.o;obtain⟨y0,y1,yf⟩:=dO WJ.o;obtain⟨z0,z1,zf⟩:=dO aoQ.o;cases t with
      |false=>
       have hg:¬Hp.Good ⟨h.cells.take m,h.trail⟩:=fun hg=>by have :=lK.o.2 hg;cases this
       go_wp2_with fail;refine dD (v:= .tuple #[.agg #[.slice va h.cells.length cap,.slice vb h.trail.length aR],.int .i64 1]) (by simp[results,Tryz.results106,go_sem,hcs,x0,x1,y0,y1]) rfl ?_;have hb:Below w.heap.size w ((w3.setCell ⟨w.heap.size+1,0,none⟩ (.slice va h.cells.length cap)).setCell ⟨w.heap.size+1,1,none⟩ (.slice vb h.trail.length aR)):=bK (bK HB3.o (by simp) _) (by simp) _;rw[qL,ag (dJ HG.o),ag (dJ dM.o),dG,ai hg];exact Pure.mk hb ⟨_,rfl,Hp.rep.mono (Hp.rep.keeps HH.o (af.ob hb)) (fun _ _ h=> .inl h)⟩
      |true=>
       have Ll:=zh (lK.o.1 rfl);go_wp2_with fail;refine dD (v:= .tuple #[.agg #[.slice ca m cc,.slice vb h.trail.length aR],.int .i64 0]) (by simp[results,Tryz.results106,go_sem,hcs,y0,y1]) rfl ?_;have hb:Below w.heap.size w ((w3.setCell ⟨w.heap.size+1,0,none⟩ (.slice ca m cc)).setCell ⟨w.heap.size+1,1,none⟩ (.slice vb h.trail.length aR)):=bK (bK HB3.o (by simp) _) (by simp) _;rw[qL,ag (dJ HG.o),ag (dJ dM.o),dG,ag (dJ Ll.o)];refine Pure.mk hb ⟨_,rfl,_,_,rfl,?_,?_⟩;·have h6:=Xg.o;exact ah.sl (A:=fun b=>A b\/New w b) Ce.kC Ce.AV (ah.kept h6 fun k hk=>by have :=(h6.lt k hk).1;rw[bH _ _ _ _ (by simp;omega),bH _ _ _ _ (by simp;omega)]) (by rw[eY];omega) (fun k hk=> .inr (by have :=(h6.lt k hk).1;unfold New;omega))
       ·exact au.mono aW (by omega) (au.keeps aW HT.o (af.ob hb)) (fun _ _ h=> .inl h)
section
variable {base : Nat} {P : List Cl} {q g : Nat} {pv hc ht : Value} {o : Mo} {m : Mv} {w : World}
theorem aez(a:Int)(ha:aA a)(hl:0<=look m.h.cells a)(h:bZ base P q g pv hc ht o m w):Calls Tryz.prog 110 #[.pointer (some ⟨g,0,none⟩),.int .i64 a] w (fun e w'=>e= .returned (.tuple #[.int .i64 (cellAt m.h.cells (look m.h.cells a)).n,.bool (decide ((cellAt m.h.cells (look m.h.cells a)).kind=2))])/\Below w.heap.size w w'):=by
 have HU:=zh h;have H5:=zh (fun(W:World)(hb:Below w.heap.size w W)=>look_ok m.h a ha (MA g o) W _ (h.heap.below hb));obtain⟨hl1,hl2⟩:=h.lt;obtain⟨b0,b1,b2,b3,b4,b5,b6,b7,b8,b9,bf⟩:=bV h.box;obtain⟨_,_,_,_,_,_,_,_,ha0,hac,hb0,hbc, -, -, -, -,rfl,rfl, -⟩:=h.vals;obtain⟨k,hka,hkl,hce⟩:=oq (JP hl).1;rw[hce];obtain⟨c,t,e0,yG, -⟩:=h.heap;simp only[tL,lF]at e0;obtain⟨rfl,rfl⟩:=e0;obtain⟨_,_,hb1,hoff,e9,WC,Hq,hh3,zQ,zR⟩:=au.at yG;simp only[dC,dL]at e9;obtain⟨rfl,rfl⟩:=e9;obtain⟨rfl,bC⟩:=zQ (by omega);have dV:=zh (fun(W:World)(hb:Below w.heap.size w W)=>(show W.cell? ⟨g,1,none⟩=some (.slice (some ⟨hb1,hoff,none⟩) m.h.cells.length hac)/\W.cell? ⟨g,2,none⟩=some (.slice hb0 m.h.trail.length hbc)/\W.cell? ⟨hb1,hoff+k*3,none⟩=some (.int .i64 (m.h.cells[k]).kind)/\W.cell? ⟨hb1,hoff+k*3+1,none⟩=some (.int .i64 (m.h.cells[k]).n)/\W.cell? ⟨hb1,hoff+k*3+2,none⟩=some (.string (m.h.cells[k]).s)/\hb1<W.heap.size from by obtain⟨c0,c1,c2, -⟩:=xO zR bC (af.ob hb) hkl;exact⟨bc hb b1,bc hb b2,c0,c1,c2,fK W _ c0⟩));have aoR:=zh (fun(W:World)(hb:Below w.heap.size w W)=>(H5.o W hb).mono (R':=fun e w1=>e= .returned (.int .i64 (k:Int))/\Below W.heap.size W w1/\True) (by rintro e w1⟨v,rfl,hbb,hv⟩;refine⟨?_,hbb,trivial⟩;rw[show v= .int .i64 (look m.h.cells a)from hv,hka]));have hk0:(0:Int)<=(k:Int):=zN _;have hk1:(k:Int)<(m.h.cells.length:Int):=by omega
 unfold maxLen at Hq;clear h yG zQ zR hce hl hka H5 b0 b1 b2 b3 b4 b5 b6 b7 b8 b9 bf;go_enter Tryz.func110,Tryz.ntmps110;go_wp2_with fail;refine Kk 14 (Inv:=fun w'=>Below w.heap.size w w') (Po:=posts [aQ (.pointer (some ⟨g,0,none⟩)),aQ (.pointer (some ⟨g,0,none⟩)),aQ (.pointer (some ⟨g,1,none⟩)),aQ (.pointer (some ⟨g,1,none⟩)),aQ (.slice (some ⟨hb1,hoff,none⟩) m.h.cells.length hac),aQ (.pointer (some ⟨g,0,none⟩)),aQ (.pointer (some ⟨g,0,none⟩)),aQ (.pointer (some ⟨g,1,none⟩)),aQ (.agg #[.slice (some ⟨hb1,hoff,none⟩) m.h.cells.length hac,.slice hb0 m.h.trail.length hbc]),aQ (.int .i64 a),aQ (.int .i64 (k:Int)),aQ (.pointer (some ⟨hb1,hoff+k*3,none⟩)),aQ (.agg #[.int .i64 (m.h.cells[k]).kind,.int .i64 (m.h.cells[k]).n,.string (m.h.cells[k]).s]),yL w.heap.size 112 #[.int .i64 0,.int .i64 0,.string .empty]]) (Rl:=fun w w'=>Below w.heap.size w w') (by kernel_rfl) (by kernel_rfl) (by kernel_rfl) (by kernel_rfl) ((zB _ _).drew) ?_ ?_ ?_ ?_;·refine wK fun R hR=>?_;simp only[gK,uQ,pz]at hR;rcases hR with rfl|rfl|rfl|rfl|rfl|rfl|rfl|rfl|rfl|rfl|rfl|rfl|rfl|rfl<;>first|exact wJ _|exact EH|exact EI _|exact EJ _|exact EK _|exact EL _|exact EM _|exact EN _|exact EO _|exact CJ _ _|exact A7 _ _|exact Lj _ _ _
 ·exact fun w1 w2 h h'=>h.trans (h'.mono h.size)
 ·intro i o ho f ac ww hinv hpo hdst hold;match i,ho with|0,ho=>obtain rfl:_=o:=zI ho;have t0:=hold 0 (by kernel_rfl);refine Or.inl ⟨aK rfl,?_⟩;clear hdst hpo hold ho hinv;unfold aI;go_simp;exact⟨rfl,zB _ _⟩|1,ho=>obtain rfl:_=o:=zI ho;have t7:=hdst 0 7 (by kernel_rfl) (by kernel_rfl);have p0:=hpo 0 (by kernel_rfl);refine Or.inl ⟨aK rfl,?_⟩;clear hdst hpo hold ho;rw[show f 0=_ from p0]at t7;clear hinv;unfold aI;go_simp;exact⟨rfl,zB _ _⟩|2,ho=>obtain rfl:_=o:=zI ho;have t8:=hdst 1 8 (by kernel_rfl) (by kernel_rfl);have p1:=hpo 1 (by kernel_rfl);refine Or.inl ⟨aK rfl,?_⟩;clear hdst hpo hold ho;rw[show f 1=_ from p1]at t8;clear hinv;unfold aI;go_simp;exact⟨rfl,zB _ _⟩|3,ho=>obtain rfl:_=o:=zI ho;have t9:=hdst 2 9 (by kernel_rfl) (by kernel_rfl);have p2:=hpo 2 (by kernel_rfl);refine Or.inl ⟨aK rfl,?_⟩;clear hdst hpo hold ho;rw[show f 2=_ from p2]at t9;clear hinv;unfold aI;go_simp;exact⟨rfl,zB _ _⟩|4,ho=>obtain rfl:_=o:=zI ho;have t10:=hdst 3 10 (by kernel_rfl) (by kernel_rfl);have p3:=hpo 3 (by kernel_rfl);refine Or.inl ⟨aK rfl,?_⟩;clear hdst hpo hold ho;rw[show f 3=_ from p3]at t10;obtain⟨b1,b2,c0,c1,c2,hbl⟩:=dV.o ww hinv;unfold aI;go_simp;exact⟨rfl,zB _ _⟩|5,ho=>obtain rfl:_=o:=zI ho;have t0:=hold 0 (by kernel_rfl);refine Or.inl ⟨aK rfl,?_⟩;clear hdst hpo hold ho hinv;unfold aI;go_simp;exact⟨rfl,zB _ _⟩|6,ho=>obtain rfl:_=o:=zI ho;have t12:=hdst 5 12 (by kernel_rfl) (by kernel_rfl);have p5:=hpo 5 (by kernel_rfl);refine Or.inl ⟨aK rfl,?_⟩;clear hdst hpo hold ho;rw[show f 5=_ from p5]at t12;clear hinv;unfold aI;go_simp;exact⟨rfl,zB _ _⟩|7,ho=>obtain rfl:_=o:=zI ho;have t13:=hdst 6 13 (by kernel_rfl) (by kernel_rfl);have p6:=hpo 6 (by kernel_rfl);refine Or.inl ⟨aK rfl,?_⟩;clear hdst hpo hold ho;rw[show f 6=_ from p6]at t13;clear hinv;unfold aI;go_simp;exact⟨rfl,zB _ _⟩|8,ho=>obtain rfl:_=o:=zI ho;have t14:=hdst 7 14 (by kernel_rfl) (by kernel_rfl);have p7:=hpo 7 (by kernel_rfl);refine Or.inl ⟨aK rfl,?_⟩;clear hdst hpo hold ho;rw[show f 7=_ from p7]at t14;obtain⟨b1,b2,c0,c1,c2,hbl⟩:=dV.o ww hinv;unfold aI;go_simp;exact⟨rfl,zB _ _⟩|9,ho=>obtain rfl:_=o:=zI ho;have t1:=hold 1 (by kernel_rfl);refine Or.inl ⟨aK rfl,?_⟩;clear hdst hpo hold ho hinv;unfold aI;go_simp;exact⟨rfl,zB _ _⟩|10,ho=>obtain rfl:_=o:=zI ho;have t15:=hdst 8 15 (by kernel_rfl) (by kernel_rfl);have p8:=hpo 8 (by kernel_rfl);have t16:=hdst 9 16 (by kernel_rfl) (by kernel_rfl);have p9:=hpo 9 (by kernel_rfl);refine Or.inl ⟨aK rfl,?_⟩;clear hdst hpo hold ho;rw[show f 8=_ from p8]at t15;rw[show f 9=_ from p9]at t16;unfold aI;go_simp;refine(aoR.o ww hinv).mono ?_;rintro e w1⟨rfl,hb1', -⟩;exact⟨_,rfl,rfl,hb1'⟩|11,ho=>obtain rfl:_=o:=zI ho;have t11:=hdst 4 11 (by kernel_rfl) (by kernel_rfl);have p4:=hpo 4 (by kernel_rfl);have t17:=hdst 10 17 (by kernel_rfl) (by kernel_rfl);have pR:=hpo 10 (by kernel_rfl);refine Or.inl ⟨aK rfl,?_⟩;clear hdst hpo hold ho;rw[show f 4=_ from p4]at t11;rw[show f 10=_ from pR]at t17;clear hinv;unfold aI;go_simp;exact⟨rfl,zB _ _⟩|12,ho=>obtain rfl:_=o:=zI ho;have t18:=hdst 11 18 (by kernel_rfl) (by kernel_rfl);have su:=hpo 11 (by kernel_rfl);refine Or.inl ⟨aK rfl,?_⟩;clear hdst hpo hold ho;rw[show f 11=_ from su]at t18;obtain⟨b1,b2,c0,c1,c2,hbl⟩:=dV.o ww hinv;unfold aI;go_simp;exact⟨rfl,zB _ _⟩|13,ho=>obtain rfl:_=o:=zI ho;refine Or.inl ⟨aK rfl,?_⟩;clear hdst hpo hold ho;unfold aI;go_simp;exact⟨⟨_,rfl,hinv.size,bJ _ _⟩,(zB _ _).alloc (zL _) _⟩|i+14,ho=>simp at ho
 ·intro f ww hinv hpo;have zK:(aQ (.agg #[.int .i64 (m.h.cells[k]).kind,.int .i64 (m.h.cells[k]).n,.string (m.h.cells[k]).s])) (f 12) ww:=hpo 12 (by decide);have EP:(yL w.heap.size 112 #[.int .i64 0,.int .i64 0,.string .empty]) (f 13) ww:=hpo 13 (by decide);obtain⟨xb,e13,hxb,wY⟩:=EP;simp only[gY,uP,mE,xI,wC,xK];rw[show f 12=_ from zK,e13];have fA:=zh hinv;have yM:=zh wY;have hxl:=aJ wY;obtain⟨y0,y1,y2,yf⟩:=gH wY;clear hinv hpo zK e13 wY;refine qH (i:=14) (by kernel_rfl) (aF rfl (by rfl) ?_);go_simp;refine Co (by kernel_rfl) ?_ _;obtain⟨W2,hW2⟩:∃W2,W2=((ww.setCell ⟨xb,0,none⟩ (.int .i64 (m.h.cells[k]).kind)).setCell ⟨xb,1,none⟩ (.int .i64 (m.h.cells[k]).n)).setCell ⟨xb,2,none⟩ (.string (m.h.cells[k]).s):=⟨_,rfl⟩;have HB2:=zh (show Below w.heap.size w W2 by rw[hW2];exact((fA.o.setCell hxb _).setCell hxb _).setCell hxb _);have dI:=zh (show W2.heap[xb]?=some (.cells #[.int .i64 (m.h.cells[k]).kind,.int .i64 (m.h.cells[k]).n,.string (m.h.cells[k]).s] 112 (0,0))by rw[hW2];exact(bG (bG (bG yM.o 0 _) 1 _) 2 _).trans rfl);rw[<-hW2];clear hW2 y0 y1 y2 yf yM;obtain⟨y0,y1,y2, -⟩:=gH dI.o;have ayf:=aJ dI.o;go_wp2_with fail;go_quiet(fail);have HB3:=zh (show Below w.heap.size w (W2.drewN nq)from HB2.o.trans ⟨rfl,rfl,rfl,zL _,fun _ _=>rfl⟩);generalize W2.drewN nq=W3 at*;go_wp2_with fail;go_ret2;exact⟨rfl,HB3.o⟩
end
