import Derived.Test.YtlpmfkpefoegeacDoorQSolve1
import Derived.Test.YtlpmfkpefoegeacDoorQIsHeap
import Derived.Test.YtlpmfkpefoegeacDoorHMark
namespace Go.Proofs.YtlpmfkpefoegeacDoor
set_option maxRecDepth 100000
set_option maxHeartbeats 16000000
set_option linter.all false
open Go.RowKit
theorem ZeQ{P:Program}{t e:TypeId}{z:Value}{bytes:Nat}(W:World)(ht:P.underlying t=some (.slice e))(hi:(P.info? e).map (fun i=>(i.zero,i.size,i.bytes))=some (some z,1,bytes))(hz:z.cells=#[z])(n:Nat)(hn:n<=4194304)(hb:bytes<=256):(Instr.makeSlice t (.int .i64 (n:Int)) (.int .i64 (n:Int))).run P W= .ok (.slice (some ⟨W.heap.size,0,none⟩) n n) (W.alloc (.cells (Array.replicate n z) e)):=by
 obtain⟨i0,hi0,h1,h2,h3⟩:=info_parts hi;have hmul:i0.bytes*n<=256*4194304:=Nat.mul_le_mul (by omega) hn;have hb':(i0.bytes:Int)*(n:Int)<=281474976710656:=by rw[<-Int.natCast_mul];omega
 have hr:=run_make (P:=P) W t e i0 z ht hi0 h1 .i64 .i64 n n (by omega) (Int.le_refl _) hb' (by omega);rw[hr];simp only[Int.toNat_natCast,h2,Nat.mul_one,hz];congr 3;apply Array.toList_inj.1;rw[toList_madeCells_one,Array.toList_replicate]
def Zpj(base:Nat)(x:List Bool×Int)(r:Value)(w':World):Prop:=∃v,r= .tuple #[v,.int .i64 x.2]/\OwnB w' base x.1 v
def Znx(w:World)(g:Nat):Nat->Nat->Nat|_,0=>0|off,n+1=>(match w.cell? ⟨g,off,none⟩with|some (.bool true)=>0|_=>1)+Znx w g (off+1) n
theorem Zfg{w:World}{g:Nat}:∀(m:List Bool)(off:Nat),(∀i(hi:i<m.length),w.cell? ⟨g,off+i,none⟩=some (.bool m[i]))->Znx w g off m.length=unm m|[],_,_=>rfl|b::r,off,h=>by have h0:=h 0 (by simp);simp only[Nat.add_zero,List.getElem_cons_zero]at h0;have ih:=Zfg r (off+1) (fun i hi=>by have :=h (i+1) (by simpa using hi);rw[show off+1+i=off+(i+1)by omega,this];simp);rw[List.length_cons,Znx,unm,h0,ih];cases b<;>simp
def ZcL:Value->Nat| .slice _ n _=>n|_=>0
theorem OwnB.cells{w:World}{base g n cap:Nat}{m:List Bool}(h:OwnB w base m (.slice (some ⟨g,0,none⟩) n cap)):∀i(hi:i<m.length),w.cell? ⟨g,i,none⟩=some (.bool m[i]):=by intro i hi;obtain⟨g',cap',e, -, -, -, -, -, -, -,hc⟩:=OwnF.at ZbS h (by omega);simp only[Value.slice.injEq,Option.some.injEq,Addr.mk.injEq,and_true]at e;obtain⟨rfl, -⟩:=e;simpa using hc i hi 0 _ rfl
theorem OwnB.fresh(w:World)(n:Nat)(hn:n<=maxLen):OwnB (w.alloc (.cells (Array.replicate n (.bool false)) 4)) w.heap.size (List.replicate n false) (.slice (some ⟨w.heap.size,0,none⟩) n n):=by
 refine⟨⟨by rw[Zc2 ZbS],?_⟩,fun _ _=>trivial⟩;rw[List.length_replicate];by_cases h0:n=0;·subst h0;exact .inl ⟨rfl,_,rfl⟩
 ·refine .inr ⟨w.heap.size,n,_,rfl,by omega,zL _,Zar _ _,zL _,hn,by simp,?_⟩;rw[Nat.mul_one,Array.toList_replicate,List.take_of_length_le (by simp)];clear h0 hn;induction n with|zero=>rfl|succ n ih=>rw[List.replicate_succ,List.replicate_succ,List.flatMap_cons,<-ih];rfl
theorem Zny(h:Hp)(roots:List Int)(A:Nat->Prop)(w:World)(vs:List Value)(v:Value)(hh:Hp.rep A w h vs)(hv:ZbB A w roots v):Calls Tryd.prog 100 #[.agg vs.toArray,v] w (Pure w (Zpj w.heap.size (Zfs h roots))):=by
 obtain⟨va,cap,vb,tap,rfl,hc1,hc2,hc3,ht1,ht2,ht3,hc,ht⟩:=Hp.rep2 hh;obtain⟨_,_,cb,coff,e, -, -, -,hca,hce⟩:=hc.at;simp only[Value.slice.injEq,true_and]at e;obtain⟨rfl,rfl⟩:=e;obtain⟨ra,rcap,rb,roff,rfl,hr1,hr2,hr3, -, -⟩:=hv.at;have HH:=zh hh;have HV:=zh hv;have HCA:=zh hca;have HCE:=zh hce;have HG1:=zh (fun w'(hk:Keeps A w w')=>Zdk h A w' _ (Hp.rep.keeps hh hk));clear hh hv hca hce hc ht;go_enter Tryd.func100,Tryd.ntmps100;go_wp2_with fail;refine(HG1.o _ (Keeps.alloc _ _ _)).mono ?_;rintro e w1⟨v,rfl,hb1,t,rfl,ht⟩;have HX1:=zh (Zad (Zar w (.cells #[.slice va h.cells.length cap,.slice vb h.trail.length tap] 82)) hb1);have HB:=zh (show Below w.heap.size w w1 from ZaA (hb1.mono (by simp)));have hz':w.heap.size<w1.heap.size:=by have :=hb1.size;simp at this;omega
 have HTT:=zh ht;have hcs:=Zap;clear hb1 ht;obtain⟨x0,x1,xf⟩:=Zcj HX1.o;cases t with
  |false=>
   have hg:¬h.Good:=fun hg=>by have :=HTT.o.2 hg;cases this
   go_wp2_with fail;refine bodyPost_ret (v:= .tuple #[.slice none 0 0,.int .i64 1]) (by simp[results,Tryd.results100,go_sem]) rfl ?_;rw[Zfs,if_neg hg];exact⟨_,rfl,HB.o,_,rfl,OwnF.nil⟩
  |true=>
   have HG:=zh (HTT.o.1 rfl);have hL1:h.cells.length<=65536:=HG.o.2.2.1;clear HTT;have hlen0:(0:Int)<=(h.cells.length:Int):=zN _;have qM:∀W:World,(Instr.makeSlice 121 (.int .i64 (h.cells.length:Int)) (.int .i64 (h.cells.length:Int))).run Tryd.prog W= .ok (.slice (some ⟨W.heap.size,0,none⟩) h.cells.length h.cells.length) (W.alloc (.cells (Array.replicate h.cells.length (.bool false)) 4)):=fun W=>ZeQ (bytes:=1) W Tryd.underlying121 (by kernel_rfl) rfl _ (by omega) (by omega);go_wp2_with fail;refine(Zf8 roots A _ _ (SlR.keeps Zab HV.o (Keeps.ob (HB.o.alloc (by omega) _)))).mono ?_;rintro e w2⟨v,rfl,hb2,hown⟩;obtain⟨sa,sc,rfl,hsl,hsm⟩:=OwnF.val hown;have HX2:=zh (Zad (Zag HX1.o _) hb2);have HB2:=zh (show Below w.heap.size w w2 from(HB.o.alloc (by omega) _).trans (hb2.mono (by simp;omega)));have HOB:=zh (OwnF.below (OwnB.fresh w1 h.cells.length (by simp[maxLen];omega)) hb2);have HON:=zh (show OwnN w2 w1.heap.size roots (.slice sa roots.length sc)from OwnF.rebase hown (fun k hk=>by have :=(hown.lt k hk).1;simp at this;omega));have hz2:w1.heap.size<w2.heap.size:=by have :=hb2.size;simp at this;omega
   clear hown hb2 x0 x1 xf;have HST:=zh (MkSt.start h.cells roots);obtain⟨gb,hgb⟩:∃g,g=w1.heap.size:=⟨_,rfl⟩;have HGB:=zh hgb;rw[<-hgb]at HOB;go_wp2_with fail;rw[<-HGB.o];clear hgb;go_loopw[7](fun x wr=>∃(m:List Bool)(st:List Int),MkSt h.cells roots m st/\Below w.heap.size w wr/\wr.heap[w.heap.size]?=some (.cells #[.slice va h.cells.length cap,.slice vb h.trail.length tap] 82 (0,0))/\OwnB wr w1.heap.size m (.slice (some ⟨gb,0,none⟩) h.cells.length h.cells.length)/\OwnN wr w1.heap.size st x/\w1.heap.size<=wr.heap.size)(fun x wr=>5*Znx wr gb 0 h.cells.length+ZcL x);case atStart=>exact⟨_,_,HST.o,HB2.o,HX2.o,(by rw[<-HGB.o];exact HOB.o),HON.o,by omega⟩
   case round=>
    obtain⟨m,st,hst,hib,hi1,hob,hon,hzz⟩:=hrel;have HS:=zh hst;have HIB:=zh hib;have HI1:=zh hi1;have HBO:=zh hob;have HNO:=zh hon;obtain⟨xa,xc,rfl,hxl,hxm⟩:=OwnF.val hon;have hml:=hst.len;have hfew:=hst.few;have HUW:=zh (show Znx wr gb 0 h.cells.length=unm m by rw[<-hst.len];exact Zfg m 0 (fun i hi=>by rw[Nat.zero_add];exact OwnB.cells hob i hi));have hzr:=hib.size;obtain⟨x0,x1,xf⟩:=Zcj hi1;by_cases hem:st=[];·subst hem;have hm:=hst.done HG.o.1;clear hst hib hi1 hob hon;go_wp2_with fail;refine bodyPost_ret (v:= .tuple #[.slice (some ⟨gb,0,none⟩) h.cells.length h.cells.length,.int .i64 0]) (by simp[results,Tryd.results100,go_sem]) rfl ?_;rw[Zfs,if_pos HG.o,<-hm];exact⟨_,rfl,HIB.o,_,rfl,OwnF.rebase HBO.o (fun k hk=>by have :=(HBO.o.lt k hk).1;omega)⟩
    ·obtain⟨st0,a,rfl⟩:∃st0 a,st=st0++[a]:=⟨st.dropLast,st.getLast hem,(List.dropLast_concat_getLast hem).symm⟩;have hl1:(st0++[a]).length=st0.length+1:=by simp
     rw[hl1]at hxl hfew HNO hon ⊢;obtain⟨sb,sc2,e, -, -, -,hsob, -,hslt, -,hcell⟩:=OwnF.at Zat hon (by omega);rw[hl1]at e;simp only[Value.slice.injEq,true_and]at e;obtain⟨rfl,rfl⟩:=e;have ha64:I64 a:=hon.2 a (by simp);have HI64:=zh ha64;have s0:wr.cell? ⟨sb,st0.length,none⟩=some (.int .i64 a):=by have :=hcell st0.length (by omega) 0 (.int .i64 a) (by simp[ZmM]);simpa using this
     have hst0:st0.length<=4194304 - 5:=by omega
     have hcases:(a<0)\/((h.cells.length:Int)<=a)\/(0<=a/\a<(h.cells.length:Int)):=by omega
     clear ha64;rcases hcases with h1|h1|⟨h1,h2⟩
     ·have hskip:∀k:Nat,a=(k:Int)->k<h.cells.length->m[k]?=some true:=fun k e _=>by omega
      have HTK:=zh (OwnF.take Zat (a:=some ⟨sb,0,none⟩) (cap:=xc) (l:=st0++[a]) (by rw[hl1];exact HNO.o) (k:=st0.length) (by omega));rw[List.take_left' rfl]at HTK;have HSK:=zh (HS.o.skip hskip HG.o.1);clear hskip hst hib hi1 hob hon hcell;go_wp2_with fail;all_goals first|(exfalso;omega)|skip
      go_roundw;case rel=>exact⟨m,st0,HSK.o,HIB.o,HI1.o,HBO.o,HTK.o,by omega⟩
      case measure=>rw[HUW.o];simp[ZcL]
     ·have hskip:∀k:Nat,a=(k:Int)->k<h.cells.length->m[k]?=some true:=fun k e h=>by omega
      have h3:¬a<0:=by omega
      have HTK:=zh (OwnF.take Zat (a:=some ⟨sb,0,none⟩) (cap:=xc) (l:=st0++[a]) (by rw[hl1];exact HNO.o) (k:=st0.length) (by omega));rw[List.take_left' rfl]at HTK;have HSK:=zh (HS.o.skip hskip HG.o.1);clear hskip hst hib hi1 hob hon hcell;go_wp2_with fail;all_goals first|(exfalso;omega)|skip
      go_roundw;case rel=>exact⟨m,st0,HSK.o,HIB.o,HI1.o,HBO.o,HTK.o,by omega⟩
      case measure=>rw[HUW.o];simp[ZcL]
     ·obtain⟨k,rfl⟩:=Int.eq_ofNat_of_zero_le h1;have hkl:k<h.cells.length:=by omega
      have hkm:k<m.length:=by omega
      have b0:=OwnB.cells hob k hkm;cases hmk:m[k]with
       |true=>
        rw[hmk]at b0;have hskip:∀i:Nat,(k:Int)=(i:Int)->i<h.cells.length->m[i]?=some true:=fun i e _=>by
         obtain rfl:k=i:=by omega
         rw[List.getElem?_eq_getElem hkm,hmk]
        have HTK:=zh (OwnF.take Zat (a:=some ⟨sb,0,none⟩) (cap:=xc) (l:=st0++[(k:Int)]) (by rw[hl1];exact HNO.o) (k:=st0.length) (by omega));rw[List.take_left' rfl]at HTK;have HSK:=zh (HS.o.skip hskip HG.o.1);clear hskip hst hib hi1 hob hon hcell;go_wp2_with fail;all_goals first|(exfalso;omega)|skip
        go_roundw;case rel=>exact⟨m,st0,HSK.o,HIB.o,HI1.o,HBO.o,HTK.o,by omega⟩
        case measure=>rw[HUW.o];simp[ZcL]
       |false=>
        rw[hmk]at b0;have HMK:=zh (show m[k]?=some false by rw[List.getElem?_eq_getElem hkm,hmk]);have hbob:Zai (.slice (some ⟨gb,0,none⟩) h.cells.length h.cells.length)=some gb:=by
         have :h.cells.length≠0:=by omega
         simp only[Zai,this,if_false]
        have HBO1:=zh (show OwnB (wr.setCell ⟨gb,k,none⟩ (.bool true)) w1.heap.size (m.set k true) (.slice (some ⟨gb,0,none⟩) h.cells.length h.cells.length)by have :=OwnF.set (y:=true) (u:= .bool true) ZbS HBO.o hbob (i:=k) (j:=0) hkm (by omega) rfl trivial;simpa using this);obtain⟨g',cap',e', -, -, -, -,bf, -⟩:=OwnF.at ZbS hob (by omega);simp only[Value.slice.injEq,Option.some.injEq,Addr.mk.injEq,and_true]at e';obtain⟨rfl, -⟩:=e';have hgsb:gb≠sb:=fun e=>Za0 (by decide) hob hon gb hbob (hsob.trans (congrArg some e.symm));have hgbz:w1.heap.size<=gb/\gb<wr.heap.size:=by have :=hob.lt gb hbob;omega
        have HB1:=zh (Below.setCell HIB.o (p:=⟨gb,k,none⟩) (by simp only;omega) (.bool true));have HX11:=zh ((Below.heap_setCell wr ⟨gb,k,none⟩ (.bool true) w.heap.size (by simp only;omega)).trans hi1);have HTK:=zh (OwnF.kept (OwnF.take Zat (a:=some ⟨sb,0,none⟩) (cap:=xc) (l:=st0++[(k:Int)]) (by rw[hl1];exact HNO.o) (k:=st0.length) (by omega)) (w':=wr.setCell ⟨gb,k,none⟩ (.bool true)) (fun b hb=>Below.heap_setCell _ _ _ _ (fun e=>by
         simp only at e;have :b=sb:=by
          simp only[Zai]at hb;split at hb;·cases hb
          ·exact(zI hb).symm
         exact hgsb (by rw[<-this];exact e.symm))));rw[List.take_left' rfl]at HTK;have HSM:=zh (HS.o.mark hkl HMK.o HG.o.1);have HUN:=zh (Zjf m k HMK.o);obtain⟨rfl,hAb⟩:=HCA.o (by omega);obtain⟨c0,c1,c2,i0,i1,i2⟩:=ZbP HCE.o hAb (Keeps.ob HIB.o) hkl;have hcbw:cb<w.heap.size:=World.block_lt_of_cell? w _ (ZbP HCE.o hAb (Keeps.refl _ _) hkl).1;have hne1:¬gb=w.heap.size:=by omega
        have hne2:¬gb=cb:=by omega
        have hcbr:cb<wr.heap.size:=by omega
        have hwr:w.heap.size<wr.heap.size:=by omega
        have hokc:=HG.o.1 k hkl;have hpu:pushes k h.cells[k]=if h.cells[k].kind=0 then[h.cells[k].n]else if h.cells[k].kind=3 then Zam (k:Int) h.cells[k].n else[]:=rfl;obtain⟨c,hcc⟩:∃c:Ce,c=h.cells[k]'hkl:=⟨_,rfl⟩;rw[<-hcc]at c0 c1 c2 i0 i1 i2 hokc HSM hpu;have HPU:=zh hpu;have HI1':=zh i1;have HW1:(wr.setCell ⟨gb,k,none⟩ (.bool true)).heap.size=wr.heap.size:=by simp
        clear hst hib hi1 hob hon hcell hcc hpu i0 i1 i2;unfold Ce.OkAt at hokc;rcases hokc with⟨hk0,hn0,hnl, -⟩|⟨hk1, -, -⟩|⟨hk2, -⟩|⟨hk3,hn1,hn4,hnl, -⟩
        ·have hpe:=zh (show pushes k c=[c.n]by rw[HPU.o,if_pos hk0]);rw[hk0]at c0;clear hk0;have HBO2:=zh (OwnF.below HBO1.o ((zB _ _).alloc (zL _) (.cells #[.int .i64 0,.int .i64 c.n,.string c.s] 112)));have HTK2:=zh (OwnF.below HTK.o ((zB _ _).alloc (zL _) (.cells #[.int .i64 0,.int .i64 c.n,.string c.s] 112)));have HB2':=zh (HB1.o.alloc (by omega) (.cells #[.int .i64 0,.int .i64 c.n,.string c.s] 112));have HX12:=zh (Zag HX11.o (.cells #[.int .i64 0,.int .i64 c.n,.string c.s] 112));have HW2:((wr.setCell ⟨gb,k,none⟩ (.bool true)).alloc (.cells #[.int .i64 0,.int .i64 c.n,.string c.s] 112)).heap.size=wr.heap.size+1:=by simp
         have HOR:=zh (OwnF.ownR Zat HTK2.o (fun _=>True));go_wp2_with(at_builtin;go_must(refine Zas rfl (.tmp 60) (.tmp 63) 43 rfl w1.heap.size 3 1 8 Zbd Zab (A:=fun _=>True) (.slice (some ⟨sb,0,none⟩) st0.length xc) (st0) rfl HOR.o (c.n) [.int .i64 (c.n)] (by simp only[World.size_alloc,World.size_setCell];rfl) rfl ⟨by unfold I64;omega,rfl⟩ ⟨by omega,by simp;omega⟩ ?_);go_must(intro v2 w4 hown2 hgrew));have hno:∀b,b<w1.heap.size->Zai (.slice (some ⟨sb,0,none⟩) st0.length xc)≠some b:=fun b hb e=>by have :=(HTK2.o.lt b e).1;omega
         have hno2:∀b,Zai (.slice (some ⟨gb,0,none⟩) h.cells.length h.cells.length)=some b->Zai (.slice (some ⟨sb,0,none⟩) st0.length xc)≠some b:=fun b hb e=>Za0 (by decide) HBO2.o HTK2.o b hb e;have hka:=(Keeps.alloc (fun b=>Zai (.slice (some ⟨sb,0,none⟩) st0.length xc)≠some b) _ _).trans (hgrew.keeps (A:=fun b=>Zai (.slice (some ⟨sb,0,none⟩) st0.length xc)≠some b) (fun _ h=>h));have HBO4:=zh (OwnF.kept HBO2.o (w':=w4) (fun b hb=>hka.block b (HBO2.o.lt b hb).2 (hno2 b hb)));have HX14:=zh (Zaj HX12.o hka (hno _ hz'));have HB4:=zh (hgrew.below (HB2'.o.alloc (by omega) _) (by simp;omega) (fun b hb=>by have :=(HTK2.o.lt b hb).1;omega));have HO4:=zh (OwnF.of_ownR hown2);have hz4:=hgrew.size;simp only[World.size_alloc,World.size_setCell]at hz4;obtain⟨va4,vc4,hv4, -, -⟩:=OwnF.val HO4.o;subst hv4;clear hka hown2;go_roundw;case rel=>exact⟨m.set k true,st0++[c.n],(by rw[<-hpe.out];exact HSM.o),HB4.o,HX14.o,HBO4.o,HO4.o,by omega⟩
         case measure=>
          rw[HUW.o,show Znx w4 gb 0 h.cells.length=unm (m.set k true)by
           have hl:(m.set k true).length=h.cells.length:=by rw[List.length_set];exact hml
           rw[<-hl];exact Zfg _ 0 (fun i hi=>by rw[Nat.zero_add];exact OwnB.cells HBO4.o i hi)];have :=HUN.o;simp[ZcL];omega
        ·have hpe:=zh (show pushes k c=[]by rw[HPU.o,if_neg (by omega),if_neg (by omega)]);rw[hk1]at c0;clear hk1;have HBO2:=zh (OwnF.below HBO1.o ((zB _ _).alloc (zL _) (.cells #[.int .i64 1,.int .i64 c.n,.string c.s] 112)));have HTK2:=zh (OwnF.below HTK.o ((zB _ _).alloc (zL _) (.cells #[.int .i64 1,.int .i64 c.n,.string c.s] 112)));have HB2':=zh (HB1.o.alloc (by omega) (.cells #[.int .i64 1,.int .i64 c.n,.string c.s] 112));have HX12:=zh (Zag HX11.o (.cells #[.int .i64 1,.int .i64 c.n,.string c.s] 112));have HW2:((wr.setCell ⟨gb,k,none⟩ (.bool true)).alloc (.cells #[.int .i64 1,.int .i64 c.n,.string c.s] 112)).heap.size=wr.heap.size+1:=by simp
         have HOR:=zh (OwnF.ownR Zat HTK2.o (fun _=>True));go_wp2_with fail;go_roundw;case rel=>exact⟨m.set k true,st0,(by have :=HSM.o;rw[hpe.out,List.append_nil]at this;exact this),HB2'.o,HX12.o,HBO2.o,HTK2.o,by omega⟩
         case measure=>
          rw[HUW.o,show Znx _ gb 0 h.cells.length=unm (m.set k true)by
           have hl:(m.set k true).length=h.cells.length:=by rw[List.length_set];exact hml
           rw[<-hl];exact Zfg _ 0 (fun i hi=>by rw[Nat.zero_add];exact OwnB.cells HBO2.o i hi)];have :=HUN.o;simp[ZcL];omega
        ·have hpe:=zh (show pushes k c=[]by rw[HPU.o,if_neg (by omega),if_neg (by omega)]);rw[hk2]at c0;clear hk2;have HBO2:=zh (OwnF.below HBO1.o ((zB _ _).alloc (zL _) (.cells #[.int .i64 2,.int .i64 c.n,.string c.s] 112)));have HTK2:=zh (OwnF.below HTK.o ((zB _ _).alloc (zL _) (.cells #[.int .i64 2,.int .i64 c.n,.string c.s] 112)));have HB2':=zh (HB1.o.alloc (by omega) (.cells #[.int .i64 2,.int .i64 c.n,.string c.s] 112));have HX12:=zh (Zag HX11.o (.cells #[.int .i64 2,.int .i64 c.n,.string c.s] 112));have HW2:((wr.setCell ⟨gb,k,none⟩ (.bool true)).alloc (.cells #[.int .i64 2,.int .i64 c.n,.string c.s] 112)).heap.size=wr.heap.size+1:=by simp
         have HOR:=zh (OwnF.ownR Zat HTK2.o (fun _=>True));go_wp2_with fail;go_roundw;case rel=>exact⟨m.set k true,st0,(by have :=HSM.o;rw[hpe.out,List.append_nil]at this;exact this),HB2'.o,HX12.o,HBO2.o,HTK2.o,by omega⟩
         case measure=>
          rw[HUW.o,show Znx _ gb 0 h.cells.length=unm (m.set k true)by
           have hl:(m.set k true).length=h.cells.length:=by rw[List.length_set];exact hml
           rw[<-hl];exact Zfg _ 0 (fun i hi=>by rw[Nat.zero_add];exact OwnB.cells HBO2.o i hi)];have :=HUN.o;simp[ZcL];omega
        ·obtain⟨nn,hnn⟩:=Int.eq_ofNat_of_zero_le (show 0<=c.n by omega);have hpe:=zh (show pushes k c=Zam (k:Int) (nn:Int)by rw[HPU.o,if_neg (by omega),if_pos hk3,hnn]);rw[hk3]at c0;rw[hnn]at c1 hn1 hn4 hnl;have hal:(Zam (k:Int) (nn:Int)).length=nn:=by simp[Zam]
         have HAL:=zh hal;have hn4':nn<=4:=by omega
         clear hk3 hnn hal;have HBO2:=zh (OwnF.below HBO1.o ((zB _ _).alloc (zL _) (.cells #[.int .i64 3,.int .i64 (nn:Int),.string c.s] 112)));have HTK2:=zh (OwnF.below HTK.o ((zB _ _).alloc (zL _) (.cells #[.int .i64 3,.int .i64 (nn:Int),.string c.s] 112)));have HB2':=zh (HB1.o.alloc (by omega) (.cells #[.int .i64 3,.int .i64 (nn:Int),.string c.s] 112));have HX12:=zh (Zag HX11.o (.cells #[.int .i64 3,.int .i64 (nn:Int),.string c.s] 112));have HW2:((wr.setCell ⟨gb,k,none⟩ (.bool true)).alloc (.cells #[.int .i64 3,.int .i64 (nn:Int),.string c.s] 112)).heap.size=wr.heap.size+1:=by simp
         have HCB:=zh (Zar (wr.setCell ⟨gb,k,none⟩ (.bool true)) (.cells #[.int .i64 3,.int .i64 (nn:Int),.string c.s] 112));simp only[World.size_setCell]at HCB;obtain⟨gc,hgc⟩:∃g,g=wr.heap.size:=⟨_,rfl⟩;have HGC:=zh hgc;rw[<-hgc]at HCB;go_wp2_with fail;rw[<-HGC.o];have hgc1:w1.heap.size+1<=gc:=by omega
         rw[<-hgc]at HW2;clear hgc x0 x1 xf c0 c1 c2 s0 b0;go_loopw[10,7](fun i x wr=>∃(j:Nat),j<=nn/\i= .int .i64 ((j:Int)+1)/\Below w.heap.size w wr/\wr.heap[w.heap.size]?=some (.cells #[.slice (some ⟨cb,coff,none⟩) h.cells.length cap,.slice vb h.trail.length tap] 82 (0,0))/\OwnB wr w1.heap.size (m.set k true) (.slice (some ⟨gb,0,none⟩) h.cells.length h.cells.length)/\OwnN wr w1.heap.size (st0++(Zam (k:Int) (nn:Int)).take j) x/\wr.heap[gc]?=some (.cells #[.int .i64 3,.int .i64 (nn:Int),.string c.s] 112 (0,0))/\gc+1<=wr.heap.size)(fun i _ _=>nn+1 - (intOf i).toNat);case atStart=>exact⟨0,Nat.zero_le _,rfl,HB2'.o,HX12.o,HBO2.o,(by rw[List.take_zero,List.append_nil];exact HTK2.o),HCB.o,by omega⟩
         case round=>
          obtain⟨j,hj,rfl,jb,jx,jo,jn,jc,jz⟩:=hrel;have JB:=zh jb;have JX:=zh jx;have JO:=zh jo;have JC:=zh jc;have hjl:(st0++(Zam (k:Int) (nn:Int)).take j).length=st0.length+j:=by rw[List.length_append,List.length_take,HAL.o];omega
          obtain⟨ya,yc,rfl,hyl,hym⟩:=OwnF.val jn;rw[hjl]at hyl jn ⊢;have JN:=zh jn;obtain⟨d0,d1,d2,df⟩:=ZdX jc;have hjz0:gc<wr.heap.size:=by omega
          clear jb jx jo jc;by_cases hlt:j<nn
          ·have HOR:=zh (OwnF.ownR Zat JN.out (fun _=>True));have hlt':(j:Int)+1<=(nn:Int):=by omega
           have hja:j<(Zam (k:Int) (nn:Int)).length:=by rw[HAL.o];exact hlt
           have hnext:=zh (show(Zam (k:Int) (nn:Int)).take (j+1)=(Zam (k:Int) (nn:Int)).take j++[(k:Int)+((j:Int)+1)]by rw[List.take_succ_eq_append_getElem hja,Zcv,show(k:Int)+1+(j:Int)=(k:Int)+((j:Int)+1)by omega]);clear jn hja;go_wp2_with(at_builtin;go_must(refine Zas rfl (.tmp 73) (.tmp 77) 43 rfl w1.heap.size 3 1 8 Zbd Zab (A:=fun _=>True) (.slice ya (st0.length+j) yc) (st0++(Zam (k:Int) (nn:Int)).take j) rfl HOR.o ((k:Int)+((j:Int)+1)) [.int .i64 ((k:Int)+((j:Int)+1))] rfl rfl ⟨by unfold I64;omega,rfl⟩ ⟨by rw[hjl];omega,by omega⟩ ?_);go_must(intro v2 w4 hown2 hgrew));have hno:∀b,b<w1.heap.size->Zai (.slice ya (st0.length+j) yc)≠some b:=fun b hb e=>by have :=(JN.out.lt b e).1;omega
           have hno2:∀b,Zai (.slice (some ⟨gb,0,none⟩) h.cells.length h.cells.length)=some b->Zai (.slice ya (st0.length+j) yc)≠some b:=fun b hb e=>Za0 (by decide) JO.out JN.out b hb e;have hka:=(Keeps.alloc (fun b=>Zai (.slice ya (st0.length+j) yc)≠some b) _ _).trans (hgrew.keeps (A:=fun b=>Zai (.slice ya (st0.length+j) yc)≠some b) (fun _ h=>h));have HBO4:=zh (OwnF.kept JO.out (w':=w4) (fun b hb=>hka.block b (JO.out.lt b hb).2 (hno2 b hb)));have HX14:=zh (Zaj JX.out hka (hno _ hz'));have HB4:=zh (hgrew.below (JB.out.alloc (by omega) _) (by simp;omega) (fun b hb=>by have :=(JN.out.lt b hb).1;omega));have HO4:=zh (OwnF.of_ownR hown2);have hz4:=hgrew.size;simp only[World.size_alloc,World.size_setCell]at hz4;obtain⟨va4,vc4,hv4, -, -⟩:=OwnF.val HO4.o;subst hv4;have JC4:=zh (Zaj JC.out hka (OwnF.ne_box JN.out JC.out (by decide)));have hl4:(st0++(Zam (k:Int) (nn:Int)).take j++[(k:Int)+((j:Int)+1)]).length=st0.length+(j+1):=by rw[List.length_append,hjl];rfl
           rw[hl4];clear hka hown2;go_roundw;case rel=>exact⟨j+1,by omega,by go_num,HB4.o,HX14.o,HBO4.o,(by have :=HO4.o;rw[hl4]at this;rw[hnext.out,<-List.append_assoc];exact this),JC4.out,by omega⟩
           case measure=>simp[intOf];omega
          ·have hje:j=nn:=by omega
           have hall:=zh (show st0++(Zam (k:Int) (nn:Int)).take j=st0++pushes k c by rw[hpe.out,hje,List.take_of_length_le (by rw[HAL.o];exact zL _)]);clear hje jn;go_wp2_with fail;go_roundw;case rel=>exact⟨m.set k true,st0++(Zam (k:Int) (nn:Int)).take j,(by rw[hall.out];exact HSM.o),JB.out,JX.out,JO.out,JN.out,by omega⟩
           case measure=>
            rw[HUW.o,show Znx wr gb 0 h.cells.length=unm (m.set k true)by
             have hl:(m.set k true).length=h.cells.length:=by rw[List.length_set];exact hml
             rw[<-hl];exact Zfg _ 0 (fun i hi=>by rw[Nat.zero_add];exact OwnB.cells JO.out i hi)];have :=HUN.o;simp[ZcL];omega
end Go.Proofs.YtlpmfkpefoegeacDoor
