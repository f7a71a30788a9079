import Derived.Test.YtlpmfkpefoegeacDoorQPrint
import Derived.Test.YtlpmfkpefoegeacDoorQSolve1
import Derived.Test.YtlpmfkpefoegeacDoorROpenL
namespace Go.Proofs.YtlpmfkpefoegeacDoor
set_option maxRecDepth 100000
set_option maxHeartbeats 16000000
set_option linter.all false
open Go.RowKit
def ZpD(w:World):Prop:=∀k:Nat,k<7->w.cell? ⟨0,k,none⟩=some (.string (bs (Zop (k:Int))))
def EndsK(B:Nat)(w:World):Prop:=0<B/\ZpD w
theorem EndsK.below{B:Nat}{w w':World}(h:EndsK B w)(hB:B<=w.heap.size)(hb:Below w.heap.size w w'):EndsK B w':=⟨h.1,fun k hk=>by rw[hb.cell (p:=⟨0,k,none⟩) (by have :=h.1;simp only;omega)];exact h.2 k hk⟩
theorem Zic{k:Int}(h:k<2\/6<k):Zop k=[]:=by unfold Zop;rw[if_neg (by omega),if_neg (by omega),if_neg (by omega),if_neg (by omega),if_neg (by omega)]
theorem Zna(e:Ev)(B:Nat)(A:Nat->Prop)(w:World)(vs:List Value)(hB:B<=w.heap.size)(htab:TabsK B w)(hends:EndsK B w)(hnd:Tm.nodesL e.terms<=4194304)(hv:evR A w e vs):Calls Tryd.prog 37 #[.agg vs.toArray] w (Pure w (fun v _=>v= .string (bs (Zef e)))):=by
 obtain⟨tv,rfl,hl,hk⟩:=hv;have hwl:=Zf7 hl;obtain⟨a,cap,b,off,rfl,hlc,hcm,hlb,ha,he⟩:=hl.at;have HE:=zh he;have HA:=zh ha;have HT:=zh htab;have HEN:=zh hends;have hwl2:wtL e.terms<=4194304*1048600:=Nat.le_trans hwl (Nat.mul_le_mul_right _ hnd);have HND:=zh hnd;obtain⟨K,hK⟩:∃K,K=e.kind:=⟨_,rfl⟩;rw[<-hK]at hk ⊢;have HK:=zh hK;obtain⟨L,hL⟩:∃L,L=e.terms:=⟨_,rfl⟩;rw[<-hL]at HE HA HND hwl2 hlc hlb ⊢;have HL:=zh hL;have HB0:=zh ((Below.refl w.heap.size w).alloc (zL _) (.cells #[.int .i64 K,.slice a L.length cap] 66));have HX0:=zh (Zar w (.cells #[.int .i64 K,.slice a L.length cap] 66));have hk0:=hk.1;have hk1:=hk.2;have hLF:Zef e=if K=1 then[121,101,115]++ZeD 0 L else Zop K:=by rw[hK,hL];rfl
 have HLF:=zh hLF;unfold maxLen at hcm;clear he ha hl hk htab hends hnd hwl hK hL hLF;by_cases hlo:K<1
 ·have hd:decide (K<1)=true:=by simpa using hlo
  have HR:=zh (HLF.o.trans ((if_neg (by omega)).trans (Zic (by omega))));clear hlo;go_enter Tryd.func37,Tryd.ntmps37;go_wp2_with fail;go_ret;rw[HR.o];exact⟨_,rfl,HB0.o,rfl⟩
 have hd:decide (K<1)=false:=by simpa using hlo
 by_cases hhi:6<K
 ·have hd2:decide (6<K)=true:=by simpa using hhi
  have HR:=zh (HLF.o.trans ((if_neg (by omega)).trans (Zic (by omega))));clear hlo hhi;go_enter Tryd.func37,Tryd.ntmps37;go_wp2_with fail;go_ret;rw[HR.o];exact⟨_,rfl,HB0.o,rfl⟩
 have hd2:decide (6<K)=false:=by simpa using hhi
 by_cases h1:K=1
 ·subst h1;have HR:=zh (HLF.o.trans (if_pos rfl));clear hlo hhi hd hd2;go_enter Tryd.func37,Tryd.ntmps37;go_wp2_with fail;obtain⟨W1,hW1⟩:∃W1,W1=w.alloc (.cells #[.int .i64 1,.slice a L.length cap] 66):=⟨_,rfl⟩;rw[<-hW1]at HB0 HX0;rw[<-hW1];clear hW1;go_loopw[3,24](fun u3 u24 wr=>∃(j:Nat)(S:ByteArray),j<=L.length/\u24= .int .i64 (j:Int)/\u3= .string S/\S=bs ([121,101,115]++ZeD 0 (L.take j))/\S.size<=3+j*23+wtL (L.take j)/\Below w.heap.size w wr)(fun _ u24 _=>L.length - (intOf u24).toNat);case atStart=>exact⟨0,⟨#[121,101,115]⟩,Nat.zero_le _,rfl,rfl,by simp[ZeD,bs],by simp[ByteArray.size],HB0.o⟩
  case round=>
   obtain⟨j,S,hj,rfl,rfl,hS,hsz,hb⟩:=hrel;have HS:=zh hS;have HB:=zh hb;have hj0:(0:Int)<=(j:Int):=zN _;have hzb:w.heap.size<=wr.heap.size:=hb.size;clear hS hb;by_cases hlt:j<L.length
   ·obtain⟨rfl,hAb⟩:=HA.o (by omega);have hlt':(j:Int)<(L.length:Int):=by omega
    obtain⟨sa,sc,c0,c1,c2,c3,hr⟩:=ZbD HE.o hAb (Keeps.ob HB.o) hlt;have lb:b<wr.heap.size:=World.block_lt_of_cell? wr _ c0;have htk:=Zho L j hlt;have hpx:=ZcV L[j] (fun _=>trivial) ⟨A,wr,_,hr⟩;obtain⟨X,hX⟩:∃X,X=L[j]:=⟨_,rfl⟩;rw[<-hX]at c0 c1 c2 c3 hr htk hpx;have HXE:=zh hX;have HNX:=zh (show X.nodes<=4194304 by rw[hX];have :=ZdQ (List.getElem_mem hlt);have :=HND.o;omega);have hij:I64 (j:Int):=by unfold I64;omega
    have hil:=Lib.itoa_length_le (j:Int) hij.1 hij.2;have HIJ:=zh hij;obtain⟨I,hI⟩:∃I,I=(⟨(Lib.itoa (j:Int)).toArray⟩:ByteArray):=⟨_,rfl⟩;have hIz:I.size<=21:=by rw[hI];show(bs (Lib.itoa (j:Int))).size<=21;rw[Zaw];exact hil
    obtain⟨P,hP⟩:∃P,P=bs (Za2 X):=⟨_,rfl⟩;have hPz:P.size+1<=wtF X:=by rw[hP,Zaw];exact hpx
    have HI:=zh hI;have HP:=zh hP;have HTK:=zh htk;have hsb:S.size<=5000000000000:=by omega
    have hpb:P.size<=5000000000000:=by omega
    have HRX:=zh (Tm.rep_lasts.1 _ _ (wr.alloc (.cells #[.int .i64 X.kind,.int .i64 X.n,.string X.s,.slice sa X.args.length sc] 27)).drew _ _ hr (Keeps.ob (((Below.refl wr.heap.size wr).alloc (zL _) _).drew)));have HB1:=zh (HB.o.trans ((((Below.refl wr.heap.size wr).alloc (zL _) (.cells #[.int .i64 X.kind,.int .i64 X.n,.string X.s,.slice sa X.args.length sc] 27)).drew).mono HB.o.size));have HXB:=zh (show(wr.alloc (.cells #[.int .i64 X.kind,.int .i64 X.n,.string X.s,.slice sa X.args.length sc] 27)).drew.heap[wr.heap.size]?=some (.cells #[.int .i64 X.kind,.int .i64 X.n,.string X.s,.slice sa X.args.length sc] 27 (0,0))from Zar _ _);clear hX hr hpx htk hij hil hI hP;go_wp2_with fail;refine ZaF (F:=fun k w'=>k=5->w'.cell? ⟨wr.heap.size,0,none⟩=some (.int .i64 X.kind)/\w'.cell? ⟨wr.heap.size,1,none⟩=some (.int .i64 X.n)/\w'.cell? ⟨wr.heap.size,2,none⟩=some (.string X.s)/\w'.cell? ⟨wr.heap.size,3,none⟩=some (.slice sa X.args.length sc)/\∀o,w'.frozen? ⟨wr.heap.size,o,none⟩=false) (by kernel_rfl) ?_;generalize hW0:(wr.alloc (.cells #[.int .i64 X.kind,.int .i64 X.n,.string X.s,.slice sa X.args.length sc] 27)).drew=W0 at*;have HX0:=zh (Zbo HXB.o);clear hW0 c0 c1 c2 c3;have HITO:=zh (Zdp (j:Int) HIJ.o W0 (HT.o.below HB1.o).now.pow);rw[<-HI.o]at HITO;refine ZaO (i:=0) (v:=?_) rfl (Or.inl ⟨by rfl,?_⟩) (fun _=>HX0.o) ?_;rotate_left;·(intro w' hw;go_simp<;>with_reducible rfl)
    try simp only[zP]
    refine ZaO (i:=1) (v:=?_) rfl (Or.inl ⟨by rfl,?_⟩) (fun _=>HX0.o) ?_;rotate_left;·(intro w' hw;go_simp<;>with_reducible rfl)
    try simp only[zP]
    refine ZaO (i:=5) (v:=?_) rfl (Or.inl ⟨by rfl,?_⟩) (fun _=>HX0.o) ?_;rotate_left;·(intro w' hw;obtain⟨q0,q1,q2,q3,qf⟩:=hw (by omega);go_simp<;>with_reducible rfl)
    try simp only[zP]
    refine Zac (i:=2) (by kernel_rfl) (Zae rfl (by rfl) ?_);go_simp;refine HITO.o.mono ?_;rintro e w1⟨rfl,hb1⟩;have HB2:=zh (HB1.o.trans (hb1.mono HB1.o.size));have HXB1:=zh (Zad HXB.o hb1);have HX1:=zh (Zbo HXB1.o);have HPR:=zh (Zm7 X B A w1 [.int .i64 X.kind,.int .i64 X.n,.string X.s,.slice sa X.args.length sc] (Nat.le_trans hB HB2.o.size) (HT.o.below HB2.o) HNX.o (Tm.rep_lasts.1 _ _ _ _ _ HRX.o (Keeps.ob hb1)));rw[<-HP.o]at HPR;clear hb1;refine⟨fun _ _ _ _=>HX1.o,?_⟩;refine ZaO (i:=3) (v:= .string (⟨#[32]⟩++I)) rfl (Or.inl ⟨by rfl,?_⟩) (fun _=>HX1.o) ?_;·(intro w' hw;go_simp<;>omega)
    try simp only[zP]
    refine ZaO (i:=4) (v:= .string (⟨#[32]⟩++I++⟨#[61]⟩)) rfl (Or.inl ⟨by rfl,?_⟩) (fun _=>HX1.o) ?_;·(intro w' hw;go_simp<;>omega)
    try simp only[zP]
    refine Zac (i:=6) (by kernel_rfl) (Zae rfl (by rfl) ?_);go_simp;refine HPR.o.mono ?_;rintro e w2⟨v,rfl,hb2,rfl⟩;have HB3:=zh (HB2.o.trans (hb2.mono HB2.o.size));have HX2:=zh (Zbo (Zad HXB1.o hb2));clear hb2;refine⟨fun _ _ _ _=>HX2.o,?_⟩;refine ZaO (i:=7) (v:= .string (⟨#[32]⟩++I++⟨#[61]⟩++P)) rfl (Or.inl ⟨by rfl,?_⟩) (fun _=>HX2.o) ?_;·(intro w' hw;go_simp<;>omega)
    try simp only[zP]
    refine ZaO (i:=8) (v:= .string (S++(⟨#[32]⟩++I++⟨#[61]⟩++P))) rfl (Or.inl ⟨by rfl,?_⟩) (fun _=>HX2.o) ?_;·(intro w' hw;go_simp<;>omega)
    try simp only[zP]
    refine Zac (i:=9) (by kernel_rfl) (Zae rfl (by rfl) ?_);go_simp;refine⟨fun _ _ _ _=>HX2.o,Zau (by kernel_rfl) ?_ _⟩;go_wp2_with fail;go_roundw;case rel=>
     have h1:=HTK.o;have hsn:L.take (j+1)=L.take j++[L[j]]:=List.take_succ_eq_append_getElem hlt;have hlj:(L.take j).length=j:=by rw[List.length_take];omega
     have hs1:(S++(⟨#[32]⟩++I++⟨#[61]⟩++P)).size=S.size+(1+I.size+1+P.size):=by simp only[ByteArray.size_append];rfl
     refine⟨j+1,S++(⟨#[32]⟩++I++⟨#[61]⟩++P),by omega,by go_num,rfl,?_,?_,HB3.o⟩;·rw[hsn,ZgX,<-HXE.o,HS.o,HI.o,HP.o,hlj,Nat.zero_add];rw[show(⟨#[32]⟩:ByteArray)=bs [32]from rfl,show(⟨(Lib.itoa (j:Int)).toArray⟩:ByteArray)=bs (Lib.itoa (j:Int))from rfl,show(⟨#[61]⟩:ByteArray)=bs [61]from rfl,ZcJ,ZcJ,ZcJ,ZcJ];simp
     ·rw[hsn,ZeC,<-HXE.o,hs1];omega
    case measure=>simp[intOf];omega
   ·have hje:j=L.length:=by omega
    subst hje;go_wp2_with fail;go_ret;rw[HR.o];exact⟨.string S,rfl,HB.o,by rw[HS.o,List.take_length]⟩
 ·have h1':(K != 1)=true:=by simpa using h1
  have hk26:K=2\/K=3\/K=4\/K=5\/K=6:=by omega
  clear hlo hhi hd hd2 h1';rcases hk26 with rfl|rfl|rfl|rfl|rfl;·have HR:=zh (HLF.o.trans (if_neg (by omega)));have hc:=bc HB0.o (HEN.o.2 2 (by omega));have HC:=zh hc;clear hc;have hc0:=HC.o;go_enter Tryd.func37,Tryd.ntmps37;go_wp2_with fail;go_ret;rw[HR.o];exact⟨_,rfl,HB0.o,rfl⟩
  ·have HR:=zh (HLF.o.trans (if_neg (by omega)));have hc:=bc HB0.o (HEN.o.2 3 (by omega));have HC:=zh hc;clear hc;have hc0:=HC.o;go_enter Tryd.func37,Tryd.ntmps37;go_wp2_with fail;go_ret;rw[HR.o];exact⟨_,rfl,HB0.o,rfl⟩
  ·have HR:=zh (HLF.o.trans (if_neg (by omega)));have hc:=bc HB0.o (HEN.o.2 4 (by omega));have HC:=zh hc;clear hc;have hc0:=HC.o;go_enter Tryd.func37,Tryd.ntmps37;go_wp2_with fail;go_ret;rw[HR.o];exact⟨_,rfl,HB0.o,rfl⟩
  ·have HR:=zh (HLF.o.trans (if_neg (by omega)));have hc:=bc HB0.o (HEN.o.2 5 (by omega));have HC:=zh hc;clear hc;have hc0:=HC.o;go_enter Tryd.func37,Tryd.ntmps37;go_wp2_with fail;go_ret;rw[HR.o];exact⟨_,rfl,HB0.o,rfl⟩
  ·have HR:=zh (HLF.o.trans (if_neg (by omega)));have hc:=bc HB0.o (HEN.o.2 6 (by omega));have HC:=zh hc;clear hc;have hc0:=HC.o;go_enter Tryd.func37,Tryd.ntmps37;go_wp2_with fail;go_ret;rw[HR.o];exact⟨_,rfl,HB0.o,rfl⟩
end Go.Proofs.YtlpmfkpefoegeacDoor
namespace Go.Proofs.YtlpmfkpefoegeacDoor
set_option maxRecDepth 100000
set_option maxHeartbeats 16000000
set_option linter.all false
open Go.RowKit Go.ChangeShapes Go.WideShapes
theorem Zhr{H:Type}{enc:TypeId×Value->H}{P:Program}{w:World}{base:Nat}{sp:Nat->Bool}{held:Bool}{fuel:Nat}{t e:TypeId}{n:Nat}{cs:List Value}{zs:List Str}{p:List MemPlace}(ht:P.underlying t=some (.array n e))(he:P.underlying e=some .string)(hce:P.cellsOf e=1)(hct:P.cellsOf t=n)(h:DataW.trod enc P w base sp held fuel t cs=some (.agg (zs.map fun z=> .lit (.string z)),p)):cs=zs.map fun z=>Value.string (bs z):=by
 cases fuel with
  |zero=>simp[DataW.trod]at h
  |succ fuel=>
   simp only[DataW.trod,ht,hce,hct,Nat.mul_one]at h;split at h
   ·rename_i hl;obtain⟨xs,hm,hx⟩:=Option.map_eq_some_iff.1 h;have hxs:xs.map (·.1)=zs.map fun z=>(DataW.lit (.string z):DataW H):=by have :=congrArg Prod.fst hx;simpa using this
    have hxl:xs.length=n:=by simpa using Lib.mapM_length hm
    have hzl:zs.length=n:=by have :=congrArg List.length hxs;simp at this;omega
    apply List.ext_getElem?;intro i;by_cases hi:i<n
    ·obtain⟨b,hb,hf⟩:=Lib.mapM_at hm i i (by simp[hi]);obtain⟨z,hc,rfl,_⟩:=DataW.trod_string he hf;have h1:cs[i]?=some (.string z):=by have :=congrArg (·[0]?) hc;simpa[List.getElem?_take,List.getElem?_drop]using this
     have h2:(xs.map (·.1))[i]?=some (DataW.lit (.string z.data.toList):DataW H):=by simp[hb]
     rw[hxs]at h2;simp only[List.getElem?_map,Option.map_eq_some_iff,DataW.lit.injEq,Lit.string.injEq]at h2;obtain⟨z',hz',e⟩:=h2;simp only[h1,List.getElem?_map,hz',Option.map_some,Option.some.injEq,Value.string.injEq];rw[e,ZmU]
    ·rw[List.getElem?_eq_none (by omega),List.getElem?_eq_none (by simp;omega)]
   ·cases h
theorem ZkM:Program.cellsOf Tryd.prog 97=7:=by kernel_rfl
def endTab:List Str:=[[],[],[100,111,110,101],[102,117,101,108],[108,97,114,103,101],[102,97,117,108,116],[101,110,111,117,103,104]]
theorem ZlJ{r:List (String×DataW Unit)}{W:World}(h:laidMet Tryd.prog (("querist/engine.ends",.agg (endTab.map fun z=> .lit (.string z)))::r) W):EndsK W.heap.size W:=by
 obtain⟨ps,⟨g',t',cs,fuel,p,q,hg',ht',hvar,hd,_,_⟩,_⟩:=h;obtain rfl:=zI ((show Program.globalNamed Tryd.prog "querist/engine.ends" =some 0 by kernel_rfl).symm.trans hg');obtain rfl:=zI ((show(Tryd.prog.globals[0]?).map (·.type)=some 97 by kernel_rfl).symm.trans ht');have hc:=Zhr Tryd.underlying97 Tryd.underlying9 Zf3 ZkM hd;obtain⟨cs⟩:=cs;simp only at hc;subst hc;have hcell:=fun i=>World.var?_cell hg' hvar i;refine⟨?_,fun k hk=>?_⟩
 ·rcases Nat.lt_or_ge 0 W.heap.size with h'|h';·exact h'
  ·have :=hcell 0;simp[World.cell?,Array.getElem?_eq_none h',endTab]at this
 ·rw[hcell k];match k,hk with|0,_=>rfl|1,_=>rfl|2,_=>rfl|3,_=>rfl|4,_=>rfl|5,_=>rfl|6,_=>rfl
end Go.Proofs.YtlpmfkpefoegeacDoor
