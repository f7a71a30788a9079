import Derived.Test.YtlpmfkpefoegeacDoorQMach2
import Derived.Test.YtlpmfkpefoegeacDoorQHUnify
import Derived.Test.YtlpmfkpefoegeacDoorQSolve1
import Derived.Test.YtlpmfkpefoegeacDoorQRead
import Derived.Test.YtlpmfkpefoegeacDoorQMarks
import Derived.Deep.RegionWith
namespace Go.Proofs.YtlpmfkpefoegeacDoor
set_option maxRecDepth 100000
set_option maxHeartbeats 16000000
set_option linter.all false
open Go.RowKit
section
variable {base : Nat} {P : List Cl} {q g : Nat} {pv hc ht : Value} {o : Mo} {m : Mv} {w : World}
noncomputable def Zix(m:Mv)(a b:Int):Option Bool×Mv:=if(Za6 m.h a b).2.2≠0 then(none,m.put 4)else(some (Za6 m.h a b).2.1,{m with h:=(Za6 m.h a b).1})
def Zob:Option Bool->Value|none=> .tuple #[.bool false,.bool false]|some b=> .tuple #[.bool b,.bool true]
def Zkk(base:Nat)(P:List Cl)(q g:Nat)(pv:Value)(o:Mo)(r:Option Bool×Mv)(w:World)(e:Ending)(w':World):Prop:=e= .returned (Zob r.1)/\MaStep base P q g pv o r.2 w w'
theorem MvI.new(h:MvI base P q g pv hc ht o m w){w':World}{x:Hp}{us:List Value}(hx:Hp.rep (fun b=>MA g o b\/New w b) w' x us):Hp.rep (MA g o) w' x us:=hx.mono fun b _ hb=>hb.elim id fun(hn:w.heap.size<=b)hm=>by have :=(h.mm_lt b hm).2;omega
theorem MaStep.below{m':Mv}{w' w'':World}(h:MaStep base P q g pv o m' w w')(hb:Below w'.heap.size w' w''):MaStep base P q g pv o m' w w'':=by obtain⟨c,t,o',h1,h2,h3⟩:=h;exact⟨c,t,o',h1.below hb,h2.trans (Ch.of_below hb) (fun b h=>h),h3⟩
theorem Ziy(a b:Int)(ha:I64 a)(hb:I64 b)(h:MvI base P q g pv hc ht o m w)(hsz:m.out.length+1<=20):Calls Tryd.prog 102 #[.pointer (some ⟨g,0,none⟩),.int .i64 a,.int .i64 b] w (Zkk base P q g pv o (Zix m a b) w):=by
 have HU:=zh h;have HSZ:=zh hsz;have HUN:=zh (Zip m.h a b ha hb (MA g o) w _ h.heap);obtain⟨hl1,hl2⟩:=h.lt;obtain⟨b0,b1,b2,b3,b4,b5,b6,b7,b8,b9,bf⟩:=ZaM h.box;obtain⟨_,_,_,_,_,_,_,_,ha0,hac,hb0,hbc, -, -, -, -,rfl,rfl, -⟩:=h.vals;have hcs:=Zap;clear h ha hb;go_enter Tryd.func102,Tryd.ntmps102;go_wp2_with fail;refine(HUN.o).mono ?_;rintro e w1⟨r,rfl,hb1,us,rfl,hx1⟩;have HB1:=zh hb1;have HX1:=zh (HU.o.new hx1);have HE:=zh (show Zix m a b=if(Za6 m.h a b).2.2≠0 then(none,m.put 4)else(some (Za6 m.h a b).2.1,{m with h:=(Za6 m.h a b).1})from rfl);obtain⟨xa,xac,xb,xbc,rfl, -⟩:=Hp.rep2 hx1;generalize Za6 m.h a b=u at*;obtain⟨ux,uo,ue⟩:=u;clear hb1 hx1 HUN b0 b1 b2 b3 b4 b5 b6 b7 b8 b9 bf;have hz1:=HB1.o.size;have HB2:=zh (show Below w.heap.size w (w1.alloc (.cells #[.slice xa ux.cells.length xac,.slice xb ux.trail.length xbc] 82))from HB1.o.alloc hz1 _);have HX2:=zh (show Hp.rep (MA g o) (w1.alloc (.cells #[.slice xa ux.cells.length xac,.slice xb ux.trail.length xbc] 82)) ux [.slice xa ux.cells.length xac,.slice xb ux.trail.length xbc]from HX1.o.keeps (Keeps.alloc _ _ _));have HU2:=zh (HU.o.below HB2.o);have HS2:=zh (fun(m':Mv)(w':World)(hh:MaStep base P q g pv o m' (w1.alloc (.cells #[.slice xa ux.cells.length xac,.slice xb ux.trail.length xbc] 82)) w')=>(MaStep.trans (Ch.of_below HB2.o) (MGrow.refl _ _) hh:MaStep base P q g pv o m' w w'));obtain⟨b0,b1,b2,b3,b4,b5,b6,b7,b8,b9,bf⟩:=ZaM (HU.o.below HB1.o).box;have hgl:g<w1.heap.size:=by omega
 have hgne:g≠w1.heap.size:=by omega
 by_cases he:ue=0
 ·have hres:=zh (HE.o.trans (if_neg (not_not_intro he)));have hed:(ue != 0)=false:=by simpa using he
  clear he HE;go_wp2_with fail;go_ret2;rw[hres.o];have hst:=(HU.o.below HB1.o).setH HX1.o;refine⟨rfl,MaStep.trans (Ch.of_below HB1.o) (MGrow.refl _ _) (hst.below ?_)⟩;exact(zB _ _).alloc (zL _) _
 ·have hres:=zh (HE.o.trans (if_pos he));have hed:(ue != 0)=true:=by simpa using he
  clear he HE;go_wp2_with fail;refine(Zch 4 (by unfold I64;omega) HU2.o HSZ.o).mono ?_;rintro e w3⟨rfl,hst⟩;have HST:=zh (HS2.o _ _ hst);clear hst;go_wp2_with fail;go_ret2;rw[hres.o];exact⟨rfl,HST.o⟩
theorem Znz(n:Nat)(hn:n<=4)(W:World):(Instr.makeSlice 22 (.int .i64 (n:Int)) (.int .i64 (n:Int))).run Tryd.prog W= .ok (.slice (some ⟨W.heap.size,0,none⟩) n n) (W.alloc (.cells (madeCells #[.int .i64 0,.int .i64 0,.string ByteArray.empty,.slice none 0 0] (n*4)) 27)):=by
 have ht:Tryd.prog.underlying 22=some (.slice 27):=Tryd.underlying22;have hi:(Tryd.prog.info? 27).map (fun i=>(i.zero,i.size,i.bytes))=some (some (.agg #[.int .i64 0,.int .i64 0,.string ByteArray.empty,.slice none 0 0]),4,56):=by kernel_rfl
 obtain⟨i0,hi0,h1,h2,h3⟩:=info_parts hi;have hr:=run_make (P:=Tryd.prog) W 22 27 i0 _ ht hi0 h1 .i64 .i64 n n (by omega) (Int.le_refl _) (by rw[h3];omega) (by omega);rw[hr];simp only[Int.toNat_natCast,h2];rfl
theorem Zpk(n:Nat)(hn:n<=4)(W:World):TmsR (fun _=>True) (W.alloc (.cells (madeCells #[.int .i64 0,.int .i64 0,.string ByteArray.empty,.slice none 0 0] (n*4)) 27)) (List.replicate n tm0) (.slice (some ⟨W.heap.size,0,none⟩) n n):=by
 refine⟨W.heap.size,0,⟨by simp;omega,?_⟩,fun i x hx=>?_⟩
 ·by_cases h0:n=0;·subst h0;exact .inl ⟨rfl,_,0,rfl,by simp[maxLen]⟩
  ·exact .inr ⟨by simp;omega,trivial,n,by simp,by simp,by unfold maxLen;omega⟩
 ·rw[List.getElem?_replicate]at hx;split at hx
  ·rename_i hi;obtain rfl:=zI hx;refine⟨[.int .i64 0,.int .i64 0,.string ByteArray.empty,.slice none 0 0],rfl,?_,fun j u hu=>?_⟩;·exact ZdI _ _
   ·have hj:j<4:=by have :=(List.getElem?_eq_some_iff.1 hu).1;simpa using this
    have hsz:i*4+j<n*4:=by omega
    have hc:(madeCells #[.int .i64 0,.int .i64 0,.string ByteArray.empty,.slice none 0 0] (n*4))[i*4+j]?=some u:=by
     unfold madeCells;rw[Array.getElem?_map,Array.getElem?_range,if_pos hsz];simp only[Option.map_some];have hm:(i*4+j)%4=j:=by omega
     show some (#[Value.int .i64 0,.int .i64 0,.string ByteArray.empty,.slice none 0 0][(i*4+j)%4]!)=_;rw[hm];match j,hj with|0,_=>simpa using hu|1,_=>simpa using hu|2,_=>simpa using hu|3,_=>simpa using hu
    rw[Nat.zero_add];exact(Zao (Zar W _) (i*4+j)).trans hc
  ·cases hx
theorem Zjg(x:Gm)(hx:Inb m.h.cells x.at_)(hn0:0<=(Zaa m.h.cells x.at_).n)(hn4:(Zaa m.h.cells x.at_).n<=4)(hs:(Zaa m.h.cells x.at_).s.size<=1048576)(h:MvI base P q g pv hc ht o m w):Calls Tryd.prog 79 #[.pointer (some ⟨g,0,none⟩),.agg #[.int .i64 x.at_,.int .i64 (x.bar:Int),.int .i64 x.next]] w (fun e w'=>∃t,e= .returned (.bool t)/\Below w.heap.size w w'/\(t=true↔ZdC (Zaa m.h.cells x.at_))):=by
 have HU:=zh h;have HH:=zh (fun(W:World)(hb:Below w.heap.size w W)=>ZhB x hx (h.below hb));have hcs:=Zap;obtain⟨n,hn⟩:=Int.eq_ofNat_of_zero_le hn0;generalize Zaa m.h.cells x.at_=c at*;clear h hx;go_enter Tryd.func79,Tryd.ntmps79;go_wp2_with fail;obtain⟨W1,hW1⟩:∃W1,W1=w.alloc (.cells #[.int .i64 x.at_,.int .i64 (x.bar:Int),.int .i64 x.next] 117):=⟨_,rfl⟩;have HB1:=zh (show Below w.heap.size w W1 by rw[hW1];exact(zB _ _).alloc (zL _) _);rw[<-hW1];clear hW1;refine(HH.o W1 HB1.o).mono ?_;rintro e w2⟨rfl,hb2⟩;have HB2:=zh (HB1.o.trans (hb2.mono HB1.o.size));clear hb2;have hk:n<=4:=by omega
 have HMK:=zh (Znz n hk);have HN:=zh hn;have HS:=zh hs;have HTM:=zh (fun(W:World)=>Zpk n hk W);have hz2:=HB2.o.size;rw[hn];have hnn0:(0:Int)<=(n:Int):=zN _;have hmk:=HMK.o;clear hn hs hn0 hn4 hk;go_wp2_with fail;refine(ZjH (.mk 0 0 c.s (List.replicate n tm0)) (fun _=>True) _ [_,_,_,_] ?_).mono ?_;·rw[Tm.rep_iff];exact⟨by unfold I64;omega,by unfold I64;omega,HS.o,_,rfl,HTM.o w2⟩
 rintro e w3⟨r,rfl,hb3,t,rfl,hkn⟩;have HB3:=zh ((HB2.o.alloc hz2 _).trans (hb3.mono (by simp;omega)));have HK:=zh hkn;clear hb3 hkn;go_wp2_with fail;go_ret;refine⟨_,rfl,HB3.o,?_⟩;unfold ZdC;rw[HN.o,Int.toNat_natCast];exact HK.o
end
end Go.Proofs.YtlpmfkpefoegeacDoor
