import Derived.Test.YtlpmfkpefoegeacGreatDoorQPrint
import Derived.Test.YtlpmfkpefoegeacGreatDoorQSolve1
namespace Go.Proofs.YtlpmfkpefoegeacGreatDoor
set_option maxRecDepth 99999
set_option maxHeartbeats 0
set_option linter.all false
open Go.RowKit
def ao8(w:World):Prop:=∀k:Nat,k<7->w.cell? ⟨0,k,none⟩=some (.string (bs (GG (k:Int))))
def Ey(B:Nat)(w:World):Prop:=0<B/\ao8 w
theorem Ey.below{B:Nat}{w w':World}(h:Ey B w)(hB:B<=w.heap.size)(hb:Below w.heap.size w w'):Ey B w':=⟨h.1,fun k hk=>by rw[hb.cell (p:=⟨0,k,none⟩) (by have :=h.1;simp only;omega)];exact h.2 k hk⟩
theorem afn{k:Int}(h:k<2\/6<k):GG k=[]:=by unfold GG;rw[O (by omega),O (by omega),O (by omega),O (by omega),O (by omega)]
theorem afo(e:Ev)(B:Nat)(A:Nat->Prop)(w:World)(vs:List Value)(hB:B<=w.heap.size)(htab:qh B w)(afp:Ey B w)(hnd:Tm.aC e.terms<=4194304)(hv:uK A w e vs):Calls Tryz.prog 21 #[.agg vs.toArray] w (Pure w (fun v _=>v= .string (bs (qO e)))):=by
 obtain⟨tv,rfl,hl,hk⟩:=hv;have hwl:=Xx hl;obtain⟨a,cap,b,off,rfl,hlc,hcm,hlb,ha,he⟩:=hl.at;have HE:=Y he;have HA:=Y ha;have HT:=Y htab;have kY:=Y afp;have ae4:gU e.terms<=4194304*1048600:=dm hwl (F8 _ hnd);have nG:=Y hnd;obtain⟨K,hK⟩:∃K,K=e.kind:=⟨_,rfl⟩;rw[<-hK]at hk ⊢;have HK:=Y hK;obtain⟨L,hL⟩:∃L,L=e.terms:=⟨_,rfl⟩;rw[<-hL]at HE HA nG ae4 hlc hlb ⊢;have HL:=Y hL;have HB0:=Y ((gQ w.heap.size w).alloc (zL _) (.cells #[.int .i64 K,.slice a L.length cap] 42));have HX0:=Y (bq w (.cells #[.int .i64 K,.slice a L.length cap] 42));have hk0:=hk.1;have hk1:=hk.2;have hLF:qO e=if K=1 then[121,101,115]++uI 0 L else GG K:=by rw[hK,hL];rfl
 have Ez:=Y hLF;unfold maxLen at hcm;clear he ha hl hk htab afp hnd hwl hK hL hLF;by_cases hlo:K<1
 ·have hd:decide (K<1)=true:=by simpa using hlo
  have HR:=Y (Ez.o.trans ((O (by omega)).trans (afn (by omega))));clear hlo;go_enter Tryz.func21,Tryz.ntmps21;go_wp2_with fail;go_ret;rw[HR.o];exact⟨_,rfl,HB0.o,rfl⟩
 have hd:decide (K<1)=false:=by simpa using hlo
 by_cases hhi:6<K
 ·have hd2:decide (6<K)=true:=by simpa using hhi
  have HR:=Y (Ez.o.trans ((O (by omega)).trans (afn (by omega))));clear hlo hhi;go_enter Tryz.func21,Tryz.ntmps21;go_wp2_with fail;go_ret;rw[HR.o];exact⟨_,rfl,HB0.o,rfl⟩
 have hd2:decide (6<K)=false:=by simpa using hhi
 by_cases h1:K=1
 ·subst h1;have HR:=Y (Ez.o.trans (G rfl));clear hlo hhi hd hd2;go_enter Tryz.func21,Tryz.ntmps21;go_wp2_with fail;obtain⟨W1,hW1⟩:∃W1,W1=w.alloc (.cells #[.int .i64 1,.slice a L.length cap] 42):=⟨_,rfl⟩;rw[<-hW1]at HB0 HX0;rw[<-hW1];clear hW1;go_loopw[3,24](fun u3 u24 wr=>∃(j:Nat)(S:ByteArray),j<=L.length/\u24= .int .i64 (j:Int)/\u3= .string S/\S=bs ([121,101,115]++uI 0 (L.take j))/\S.size<=3+j*23+gU (L.take j)/\Below w.heap.size w wr)(fun _ u24 _=>L.length - (intOf u24).toNat);case atStart=>exact⟨0,⟨#[121,101,115]⟩,dA _,rfl,rfl,by simp[uI,bs],by simp[ByteArray.size],HB0.o⟩
  case round=>
   obtain⟨j,S,hj,rfl,rfl,hS,hsz,hb⟩:=hrel;have HS:=Y hS;have HB:=Y hb;have hj0:(0:Int)<=(j:Int):=zN _;have hzb:w.heap.size<=wr.heap.size:=hb.size;clear hS hb;by_cases hlt:j<L.length
   ·obtain⟨rfl,bQ⟩:=HA.o (by omega);have hlt':(j:Int)<(L.length:Int):=by omega
    obtain⟨sa,sc,c0,c1,c2,c3,hr⟩:=lJ HE.o bQ (J.ob HB.o) hlt;have lb:b<wr.heap.size:=iW wr _ c0;have htk:=ae1 L j hlt;have hpx:=RA L[j] (fun _=>trivial) ⟨A,wr,_,hr⟩;obtain⟨X,hX⟩:∃X,X=L[j]:=⟨_,rfl⟩;rw[<-hX]at c0 c1 c2 c3 hr htk hpx;have mW:=Y hX;have dW:=Y (show X.nodes<=4194304 by rw[hX];have :=Xc (bN hlt);have :=nG.o;omega);have hij:ah (j:Int):=by unfold ah;omega
    have hil:=Lib.itoa_length_le (j:Int) hij.1 hij.2;have HIJ:=Y hij;obtain⟨aEW,hI⟩:∃aEW,aEW=(⟨(Lib.itoa (j:Int)).toArray⟩:ByteArray):=⟨_,rfl⟩;have hIz:aEW.size<=21:=by rw[hI];show(bs (Lib.itoa (j:Int))).size<=21;rw[eP];exact hil
    obtain⟨P,hP⟩:∃P,P=bs (kF X):=⟨_,rfl⟩;have hPz:P.size+1<=Et X:=by rw[hP,eP];exact hpx
    have HI:=Y hI;have HP:=Y hP;have dD:=Y htk;have hsb:S.size<=5000000000000:=by omega
    have hpb:P.size<=5000000000000:=by omega
    have RU:=Y (Tm.ae.1 _ _ (wr.alloc (.cells #[.int .i64 X.kind,.int .i64 X.n,.string X.s,.slice sa X.args.length sc] 34)).drew _ _ hr (J.ob (((gQ wr.heap.size wr).alloc (zL _) _).drew)));have HB1:=Y (HB.o.trans ((((gQ wr.heap.size wr).alloc (zL _) (.cells #[.int .i64 X.kind,.int .i64 X.n,.string X.s,.slice sa X.args.length sc] 34)).drew).mono HB.o.size));have HXB:=Y (show(wr.alloc (.cells #[.int .i64 X.kind,.int .i64 X.n,.string X.s,.slice sa X.args.length sc] 34)).drew.heap[wr.heap.size]?=some (.cells #[.int .i64 X.kind,.int .i64 X.n,.string X.s,.slice sa X.args.length sc] 34 (0,0))from bq _ _);clear hX hr hpx htk hij hil hI hP;go_wp2_with fail;refine jd (F:=fun k w'=>k=5->w'.cell? ⟨wr.heap.size,0,none⟩=some (.int .i64 X.kind)/\w'.cell? ⟨wr.heap.size,1,none⟩=some (.int .i64 X.n)/\w'.cell? ⟨wr.heap.size,2,none⟩=some (.string X.s)/\w'.cell? ⟨wr.heap.size,3,none⟩=some (.slice sa X.args.length sc)/\∀o,w'.frozen? ⟨wr.heap.size,o,none⟩=false) (by kernel_rfl) ?_;generalize hW0:(wr.alloc (.cells #[.int .i64 X.kind,.int .i64 X.n,.string X.s,.slice sa X.args.length sc] 34)).drew=W0 at*;have HX0:=Y (aF HXB.o);clear hW0 c0 c1 c2 c3;have afr:=Y (Xq (j:Int) HIJ.o W0 (HT.o.below HB1.o).now.pow);rw[<-HI.o]at afr;refine zY 0 (fun _=>HX0.o) ?_ (z:=by intro w' hw;go_simp<;>with_reducible rfl);try simp only[U]
    refine zY 1 (fun _=>HX0.o) ?_ (z:=by intro w' hw;go_simp<;>with_reducible rfl);try simp only[U]
    refine zY 5 (fun _=>HX0.o) ?_ (z:=by intro w' hw;obtain⟨q0,q1,q2,q3,qf⟩:=hw (by omega);go_simp<;>with_reducible rfl);try simp only[U]
    refine zO 2 ?_;go_simp;refine afr.o.mono ?_;rintro e w1⟨rfl,hb1⟩;have HB2:=Y (HB1.o.trans (hb1.mono HB1.o.size));have afs:=Y (aA HXB.o hb1);have bK:=Y (aF afs.o);have rP:=Y (aoH X B A w1 [.int .i64 X.kind,.int .i64 X.n,.string X.s,.slice sa X.args.length sc] (dm hB HB2.o.size) (HT.o.below HB2.o) dW.o (Tm.ae.1 _ _ _ _ _ RU.o (J.ob hb1)));rw[<-HP.o]at rP;clear hb1;refine⟨fun _ _ _ _=>bK.o,?_⟩;refine zY (v:= .string (⟨#[32]⟩++aEW)) 3 (fun _=>bK.o) ?_ (z:=by intro w' hw;go_simp<;>omega);try simp only[U]
    refine zY (v:= .string (⟨#[32]⟩++aEW++⟨#[61]⟩)) 4 (fun _=>bK.o) ?_ (z:=by intro w' hw;go_simp<;>omega);try simp only[U]
    refine zO 6 ?_;go_simp;refine rP.o.mono ?_;rintro e w2⟨v,rfl,hb2,rfl⟩;have HB3:=Y (HB2.o.trans (hb2.mono HB2.o.size));have bu:=Y (aF (aA afs.o hb2));clear hb2;refine⟨fun _ _ _ _=>bu.o,?_⟩;refine zY (v:= .string (⟨#[32]⟩++aEW++⟨#[61]⟩++P)) 7 (fun _=>bu.o) ?_ (z:=by intro w' hw;go_simp<;>omega);try simp only[U]
    refine zY (v:= .string (S++(⟨#[32]⟩++aEW++⟨#[61]⟩++P))) 8 (fun _=>bu.o) ?_ (z:=by intro w' hw;go_simp<;>omega);try simp only[U]
    refine zO 9 ?_;go_simp;refine⟨fun _ _ _ _=>bu.o,zQ ?_⟩;go_wp2_with fail;go_roundw;case rel=>
     have h1:=dD.o;have hsn:L.take (j+1)=L.take j++[L[j]]:=iq hlt;have hlj:(L.take j).length=j:=by rw[dX];omega
     have hs1:(S++(⟨#[32]⟩++aEW++⟨#[61]⟩++P)).size=S.size+(1+aEW.size+1+P.size):=by simp only[We];rfl
     refine⟨j+1,S++(⟨#[32]⟩++aEW++⟨#[61]⟩++P),by omega,by go_num,rfl,?_,?_,HB3.o⟩;·rw[hsn,ae3,<-mW.o,HS.o,HI.o,HP.o,hlj,qH];rw[show(⟨#[32]⟩:ByteArray)=bs [32]from rfl,show(⟨(Lib.itoa (j:Int)).toArray⟩:ByteArray)=bs (Lib.itoa (j:Int))from rfl,show(⟨#[61]⟩:ByteArray)=bs [61]from rfl,Cv,Cv,Cv,Cv];simp
     ·rw[hsn,Xw,<-mW.o,hs1];omega
    case measure=>simp[intOf];omega
   ·have bZ:j=L.length:=by omega
    subst bZ;go_wp2_with fail;go_ret;rw[HR.o];exact⟨.string S,rfl,HB.o,by rw[HS.o,nQ]⟩
 ·have h1':(K != 1)=true:=by simpa using h1
  have apa:K=2\/K=3\/K=4\/K=5\/K=6:=by omega
  clear hlo hhi hd hd2 h1';rcases apa with rfl|rfl|rfl|rfl|rfl;case' _=>have HR:=Y (Ez.o.trans (O (by omega)));have hc:=bc HB0.o (kY.o.2 2 (by omega))
  rotate_left;case' _=>have HR:=Y (Ez.o.trans (O (by omega)));have hc:=bc HB0.o (kY.o.2 3 (by omega))
  rotate_left;case' _=>have HR:=Y (Ez.o.trans (O (by omega)));have hc:=bc HB0.o (kY.o.2 4 (by omega))
  rotate_left;case' _=>have HR:=Y (Ez.o.trans (O (by omega)));have hc:=bc HB0.o (kY.o.2 5 (by omega))
  rotate_left;case' _=>have HR:=Y (Ez.o.trans (O (by omega)));have hc:=bc HB0.o (kY.o.2 6 (by omega))
  rotate_left;all_goals have HC:=Y hc;clear hc;have hc0:=HC.o;go_enter Tryz.func21,Tryz.ntmps21;go_wp2_with fail;go_ret;rw[HR.o];exact⟨_,rfl,HB0.o,rfl⟩
open Go.RowKit Go.ChangeShapes Go.WideShapes
theorem apb{H:Type}{enc:TypeId×Value->H}{P:Program}{w:World}{base:Nat}{sp:Nat->Bool}{held:Bool}{fuel:Nat}{t e:TypeId}{n:Nat}{cs:List Value}{zs:List Str}{p:List MemPlace}(ht:P.underlying t=some (.array n e))(he:P.underlying e=some .string)(hce:P.cellsOf e=1)(hct:P.cellsOf t=n)(h:DataW.trod enc P w base sp held fuel t cs=some (.agg (zs.map fun z=> .lit (.string z)),p)):cs=zs.map fun z=>Value.string (bs z):=by
 cases fuel with
  |zero=>simp[DataW.trod]at h
  |succ fuel=>
   simp only[DataW.trod,ht,hce,hct,Gc]at h;split at h
   ·rename_i hl;obtain⟨xs,hm,hx⟩:=amS.1 h;have hxs:xs.map (·.1)=zs.map fun z=>(DataW.lit (.string z):DataW H):=by have :=congrArg Prod.fst hx;simpa using this
    have hxl:xs.length=n:=by simpa using Lib.mapM_length hm
    have hzl:zs.length=n:=by have :=congrArg List.length hxs;simp at this;omega
    apply anb;intro i;by_cases hi:i<n
    ·obtain⟨b,hb,hf⟩:=Lib.mapM_at hm i i (by simp[hi]);obtain⟨z,hc,rfl,_⟩:=DataW.trod_string he hf;have h1:cs[i]?=some (.string z):=by have :=congrArg (·[0]?) hc;simpa[List.getElem?_take,adH]using this
     have h2:(xs.map (·.1))[i]?=some (DataW.lit (.string z.data.toList):DataW H):=by simp[hb]
     rw[hxs]at h2;simp only[xg,amS,DataW.lit.injEq,Lit.string.injEq]at h2;obtain⟨z',hz',e⟩:=h2;simp only[h1,xg,hz',pW,bW,Value.string.injEq];rw[e,Rt]
    ·rw[Jc (by omega),Jc (by simp;omega)]
   ·cases h
theorem apc:Program.cellsOf Tryz.prog 89=7:=by kernel_rfl
def aft:List Str:=[[],[],[100,111,110,101],[102,117,101,108],[108,97,114,103,101],[102,97,117,108,116],[101,110,111,117,103,104]]
theorem apd{r:List (String×DataW Unit)}{W:World}(h:laidMet Tryz.prog (("querist/engine.ends",.agg (aft.map fun z=> .lit (.string z)))::r) W):Ey W.heap.size W:=by
 obtain⟨ps,⟨g',t',cs,fuel,p,q,hg',ht',hvar,hd,_,_⟩,_⟩:=h;obtain rfl:=zI ((show Program.globalNamed Tryz.prog "querist/engine.ends" =some 0 by kernel_rfl).symm.trans hg');obtain rfl:=zI ((show(Tryz.prog.globals[0]?).map (·.type)=some 89 by kernel_rfl).symm.trans ht');have hc:=apb Tryz.underlying89 Tryz.underlying9 Xo apc hd;obtain⟨cs⟩:=cs;simp only at hc;subst hc;have hcell:=fun i=>World.var?_cell hg' hvar i;refine⟨?_,fun k hk=>?_⟩
 ·rcases Nat.lt_or_ge 0 W.heap.size with h'|h';·exact h'
  ·have :=hcell 0;simp[World.cell?,Ai h',aft]at this
 ·rw[hcell k];match k,hk with|0,_=>rfl|1,_=>rfl|2,_=>rfl|3,_=>rfl|4,_=>rfl|5,_=>rfl|6,_=>rfl
