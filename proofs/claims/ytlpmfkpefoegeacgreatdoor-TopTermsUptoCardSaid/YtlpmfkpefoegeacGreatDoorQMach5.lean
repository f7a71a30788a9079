import Derived.Test.YtlpmfkpefoegeacGreatDoorQMach4
import Derived.Test.YtlpmfkpefoegeacGreatDoorQMoved
namespace Go.Proofs.YtlpmfkpefoegeacGreatDoor
set_option maxRecDepth 99999
set_option maxHeartbeats 0
set_option linter.all false
open Go.RowKit
section
variable {base : Nat} {P : List Cl} {q g : Nat} {pv hc ht : Value} {o : Mo} {m : Mv} {w : World}
theorem rW.cells{w:World}{base:Nat}{l:List Cm}{ca:Option Addr}{cc:Nat}(h:rW w base l (.slice ca l.length cc)){i:Nat}(hi:i<l.length):∃b,ca=some ⟨b,0,none⟩/\ownB (.slice ca l.length cc)=some b/\b<w.heap.size/\base<=b/\(∀o,w.frozen? ⟨b,o,none⟩=false)/\w.cell? ⟨b,i*4,none⟩=some (.int .i64 (l[i].goal:Int))/\w.cell? ⟨b,i*4+1,none⟩=some (.int .i64 (l[i].from_:Int))/\w.cell? ⟨b,i*4+2,none⟩=some (.int .i64 (l[i].top:Int))/\w.cell? ⟨b,i*4+3,none⟩=some (.int .i64 (l[i].trail:Int))/\TQ l[i]:=by obtain⟨b,cap,e,h0,h1,h2,h3,h4,h5,h6,h7⟩:=I.at TR h (by omega);simp only[cK,dx]at e;obtain⟨rfl,rfl⟩:=e;exact⟨b,rfl,h3,h5,h6,h4,h7 i hi 0 _ rfl,h7 i hi 1 _ rfl,h7 i hi 2 _ rfl,h7 i hi 3 _ rfl,h.2 _ (bN hi)⟩
theorem rV.cells{w:World}{base:Nat}{l:List Gm}{ca:Option Addr}{cc:Nat}(h:rV w base l (.slice ca l.length cc)){i:Nat}(hi:i<l.length):∃b,ca=some ⟨b,0,none⟩/\ownB (.slice ca l.length cc)=some b/\b<w.heap.size/\base<=b/\(∀o,w.frozen? ⟨b,o,none⟩=false)/\w.cell? ⟨b,i*3,none⟩=some (.int .i64 l[i].at_)/\w.cell? ⟨b,i*3+1,none⟩=some (.int .i64 (l[i].bar:Int))/\w.cell? ⟨b,i*3+2,none⟩=some (.int .i64 l[i].next)/\OI l[i]:=by obtain⟨b,cap,e,h0,h1,h2,h3,h4,h5,h6,h7⟩:=I.at ZB h (by omega);simp only[cK,dx]at e;obtain⟨rfl,rfl⟩:=e;exact⟨b,rfl,h3,h5,h6,h4,h7 i hi 0 _ rfl,h7 i hi 1 _ rfl,h7 i hi 2 _ rfl,h.2 _ (bN hi)⟩
theorem aik(h:bS base P q g pv hc ht o m w):Calls Tryz.prog 66 #[.pointer (some ⟨g,0,none⟩)] w (fun e w'=>∃v,e= .returned v/\Below w.heap.size w w'/\dC w' w.heap.size (m.choices.reverse.map fun c=>(c.goal:Int)) v):=by
 have HU:=Y h;obtain⟨hl1,hl2⟩:=h.lt;obtain⟨gv,cv,ov⟩:=o;obtain⟨pa,pc,ga,gc,ca,cc,oa,oc,ha,hac,hb,hbc,rfl,rfl,rfl,rfl,rfl,rfl, -, -, -, -,KP,O0, -⟩:=h.vals;obtain⟨b0,b1,b2,b3,b4,b5,b6,b7,b8,b9,bf⟩:=bM h.box;obtain⟨cs,hcs⟩:∃cs,cs=m.choices.reverse:=⟨_,rfl⟩;have hlen:m.choices.length=cs.length:=by rw[hcs,DZ]
 have Ug:rW w base cs (.slice ca cs.length cc):=by have :=h.bC;rw[<-hcs]at this;simp only at this;rwa[hlen]at this
 have Z7:=Y Ug;have hcl:=h.cl;rw[hlen]at hcl KP b4;rw[<-hcs];unfold maxLen at O0;have hcl0:(0:Int)<=(cs.length:Int):=zN _;clear h Ug hcs hlen HU;go_enter Tryz.func66,Tryz.ntmps66;go_wp2_with fail;go_loopw[3,11](fun i3 i11 wr=>∃(j:Nat)(v:Value),j<=cs.length/\i3=v/\i11= .int .i64 (j:Int)/\Below w.heap.size w wr/\dC wr w.heap.size ((cs.take j).map fun c=>(c.goal:Int)) v)(fun _ i11 _=>cs.length - (intOf i11).toNat);case atStart=>exact⟨0,.slice none 0 0,dA _,rfl,rfl,Z _ _,I.nil⟩
 case round=>
  obtain⟨j,v,hj,rfl,rfl,hbw,hown⟩:=hrel;have HB:=Y hbw;have HO:=Y hown;have hz:=hbw.size;have hj0:(0:Int)<=(j:Int):=zN _;clear hbw hown;by_cases hlt:j<cs.length
  ·have hj1:(j:Int)<(cs.length:Int):=by omega
   obtain⟨b,rfl, -,hbl, -, -,c0,c1,c2,c3,ok⟩:=rW.cells Z7.o hlt;have d0:=bc HB.o c0;have d1:=bc HB.o c1;have d2:=bc HB.o c2;have d3:=bc HB.o c3;have aBx:b<wr.heap.size:=by omega
   have nT:=Y hlt;have hok:=ok.1;have dD:=Y (show(cs.take (j+1)).map (fun c=>(c.goal:Int))=(cs.take j).map (fun c=>(c.goal:Int))++[(cs[j].goal:Int)]by rw[iq hlt,qF,D5];rfl);generalize cs[j]=x at*;obtain⟨va,vc,hv,hvl,qg⟩:=I.val HO.o;rw[show((cs.take j).map fun c=>(c.goal:Int)).length=j by simp;omega]at hv hvl;subst hv;unfold maxLen at qg;clear c0 c1 c2 c3 ok;have dO:=Y (HO.o.gT eu (fun _=>True));have HX:=Y (fun(X:Obj)=>dO.o.alloc aN X);have hjg:x.goal<=1000000:=hok;go_wp2_with(at_builtin;go_must(refine ja rfl (.tmp 15) (.tmp 18) 57 rfl w.heap.size 3 1 8 kC aN (A:=fun _=>True) (.slice va j vc) ((cs.take j).map fun c=>(c.goal:Int)) rfl (HX.o _) (x.goal:Int) [.int .i64 (x.goal:Int)] (by rw[bO];rfl) rfl ⟨by unfold ah;omega,rfl⟩ ⟨by simp;omega,by simp;omega⟩ ?_);go_must(intro v2 w2 hown2 aj));have bA:=Y (I.fJ hown2);have HG2:=Y aj;have HB2:=Y (aj.below ((HB.o.alloc hz _).alloc (by simp;omega) _) (by simp;omega) (fun k hk=>(HO.o.lt k hk).1));clear hown2 aj HX;go_roundw;case rel=>exact⟨j+1,v2,by omega,rfl,by go_num,HB2.o,by rw[dD.o];exact bA.o⟩
   case measure=>simp[intOf];omega
  ·have hj1:(cs.length:Int)<=(j:Int):=by omega
   have h9:=HO.o;rw[kg (by omega)]at h9;have bA:=Y h9;clear h9;go_wp2_with fail;go_ret;exact⟨_,rfl,HB.o,bA.o⟩
end
