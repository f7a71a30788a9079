import Derived.Test.YtlpmfkpefoegeacDoorQSolve1
import Derived.Test.YtlpmfkpefoegeacDoorPMMor
import Derived.Test.YtlpmfkpefoegeacDoorQMach4
namespace Go.Proofs.YtlpmfkpefoegeacDoor
set_option maxRecDepth 100000
set_option maxHeartbeats 16000000
set_option linter.all false
open Go.RowKit
def ZeR(T:List Int)(n:Int):Int:=(T[(max 0 (min n ((T.length:Int) - 1))).toNat]?).getD 0
theorem ZhE(T l:List Int)(hT:0<T.length)(A:Nat->Prop)(w:World)(u v:Value)(hu:ZbB A w T u)(hv:ZbB A w l v):Calls Tryd.prog 101 #[u,v] w (Pure w (ZpA ZmM I64 3 1 w.heap.size (l.map (ZeR T)))):=by
 obtain⟨ua,ucap,ub,uoff,rfl,hu1,hu2,hu3,hua,hue⟩:=hu.at;obtain⟨va,vcap,vb,voff,rfl,hv1,hv2,hv3,hva,hve⟩:=hv.at;obtain⟨rfl,hAu⟩:=hua hT;have HUE:=zh hue;have HVA:=zh hva;have HVE:=zh hve;have HAU:=zh hAu;have hT1:(1:Int)<=(T.length:Int):=by omega
 have hT2:(T.length:Int)<=1048576:=by omega
 clear hu hv hua hue hva hve;go_enter Tryd.func101,Tryd.ntmps101;go_wp2_with fail;go_loopw[10,5](fun i x wr=>∃j:Nat,j<=l.length/\i= .int .i64 (j:Int)/\Below w.heap.size w wr/\OwnN wr w.heap.size ((l.take j).map (ZeR T)) x)(fun i _ _=>l.length - (intOf i).toNat);case atStart=>exact⟨0,Nat.zero_le _,rfl,zB _ _,by rw[List.take_zero];exact OwnF.nil⟩
 case round=>
  obtain⟨j,hj,rfl,hb,hown⟩:=hrel;have HB:=zh hb;have HO:=zh hown;have hzr:=hb.size;obtain⟨xa,xc,rfl,hxl,hxm⟩:=OwnF.val hown;have hxlen:((l.take j).map (ZeR T)).length=j:=by simp;omega
  rw[hxlen]at HO hxl ⊢;by_cases hlt:j<l.length
  ·obtain⟨rfl,hAv⟩:=HVA.o (by omega);obtain⟨c0,ci⟩:=ZcH HVE.o hAv (Keeps.ob hb) hlt;have hlt':(j:Int)<(l.length:Int):=by omega
   have HLT:=zh hlt;obtain⟨lj,hlj⟩:∃x:Int,x=l[j]'hlt:=⟨_,rfl⟩;rw[<-hlj]at c0 ci;have HLJ:=zh hlj;clear hlj;obtain⟨q,hq⟩:∃q:Nat,(q:Int)=max 0 (min lj ((T.length:Int) - 1)):=⟨(max 0 (min lj ((T.length:Int) - 1))).toNat,by omega⟩;have hqT:q<T.length:=by omega
   obtain⟨d0,di⟩:=ZcH HUE.o HAU.o (Keeps.ob hb) hqT;have hval:ZeR T lj=T[q]:=by unfold ZeR;rw[<-hq,Int.toNat_natCast,List.getElem?_eq_getElem hqT];rfl
   have HVAL:=zh hval;have HOR:=zh (OwnF.ownR Zat HO.o (fun _=>True));have hq0:(0:Int)<=(q:Int):=zN _;have hq1:(q:Int)<(T.length:Int):=by omega
   have HDI:=zh di;obtain⟨tq,htq⟩:∃x:Int,x=T[q]'hqT:=⟨_,rfl⟩;rw[<-htq]at d0 hval HVAL HDI;clear htq;have hcases:(lj<=0/\(q:Int)=0)\/(0<lj/\lj<(T.length:Int) - 1/\(q:Int)=lj)\/(0<lj/\(T.length:Int) - 1<=lj/\(q:Int)=(T.length:Int) - 1):=by omega
   clear hb hown hval di ci hq;rcases hcases with⟨k1,k2⟩|⟨k1,k2,k3⟩|⟨k1,k2,k3⟩
   ·obtain rfl:q=0:=by omega
    simp only[Nat.add_zero]at d0;rcases Int.lt_or_eq_of_le k1 with k1|rfl
    ·go_wp2_with(at_builtin;go_must(refine Zas rfl (.tmp 14) (.tmp 24) 43 rfl w.heap.size 3 1 8 Zbd Zab (A:=fun _=>True) (.slice xa j xc) ((l.take j).map (ZeR T)) rfl HOR.o tq [.int .i64 tq] rfl rfl ⟨HDI.o,rfl⟩ ⟨by simp;omega,hzr⟩ ?_);go_must(intro v2 w2 hown2 hgrew));all_goals
      have HO2:=zh (OwnF.of_ownR hown2);have HG2:=zh hgrew;clear hown2 hgrew;go_roundw;case rel=>refine⟨j+1,by omega,by go_num,HG2.o.below (HB.o.alloc (by omega) _) (by simp;omega) (fun k hk=>(HO.o.lt k hk).1),?_⟩;rw[List.take_succ_eq_append_getElem HLT.o,List.map_append,List.map_singleton,<-HLJ.o,HVAL.o];exact HO2.o
      case measure=>simp[intOf];omega
    ·have d1:wr.cell? ⟨ub,uoff+((T.length:Int) - 1).toNat,none⟩=some (.int .i64 tq)\/0<(T.length:Int) - 1:=by
      by_cases h1:T.length=1;·left;rw[h1];exact d0
      ·right;omega
     rcases d1 with d1|d1
     ·go_wp2_with(at_builtin;go_must(refine Zas rfl (.tmp 14) (.tmp 24) 43 rfl w.heap.size 3 1 8 Zbd Zab (A:=fun _=>True) (.slice xa j xc) ((l.take j).map (ZeR T)) rfl HOR.o tq [.int .i64 tq] rfl rfl ⟨HDI.o,rfl⟩ ⟨by simp;omega,hzr⟩ ?_);go_must(intro v2 w2 hown2 hgrew));all_goals
       have HO2:=zh (OwnF.of_ownR hown2);have HG2:=zh hgrew;clear hown2 hgrew;go_roundw;case rel=>refine⟨j+1,by omega,by go_num,HG2.o.below (HB.o.alloc (by omega) _) (by simp;omega) (fun k hk=>(HO.o.lt k hk).1),?_⟩;rw[List.take_succ_eq_append_getElem HLT.o,List.map_append,List.map_singleton,<-HLJ.o,HVAL.o];exact HO2.o
       case measure=>simp[intOf];omega
     ·go_wp2_with(at_builtin;go_must(refine Zas rfl (.tmp 14) (.tmp 24) 43 rfl w.heap.size 3 1 8 Zbd Zab (A:=fun _=>True) (.slice xa j xc) ((l.take j).map (ZeR T)) rfl HOR.o tq [.int .i64 tq] rfl rfl ⟨HDI.o,rfl⟩ ⟨by simp;omega,hzr⟩ ?_);go_must(intro v2 w2 hown2 hgrew));all_goals
       have HO2:=zh (OwnF.of_ownR hown2);have HG2:=zh hgrew;clear hown2 hgrew;go_roundw;case rel=>refine⟨j+1,by omega,by go_num,HG2.o.below (HB.o.alloc (by omega) _) (by simp;omega) (fun k hk=>(HO.o.lt k hk).1),?_⟩;rw[List.take_succ_eq_append_getElem HLT.o,List.map_append,List.map_singleton,<-HLJ.o,HVAL.o];exact HO2.o
       case measure=>simp[intOf];omega
   ·subst k3;go_wp2_with(at_builtin;go_must(refine Zas rfl (.tmp 14) (.tmp 24) 43 rfl w.heap.size 3 1 8 Zbd Zab (A:=fun _=>True) (.slice xa j xc) ((l.take j).map (ZeR T)) rfl HOR.o tq [.int .i64 tq] rfl rfl ⟨HDI.o,rfl⟩ ⟨by simp;omega,hzr⟩ ?_);go_must(intro v2 w2 hown2 hgrew));all_goals
     have HO2:=zh (OwnF.of_ownR hown2);have HG2:=zh hgrew;clear hown2 hgrew;go_roundw;case rel=>refine⟨j+1,by omega,by go_num,HG2.o.below (HB.o.alloc (by omega) _) (by simp;omega) (fun k hk=>(HO.o.lt k hk).1),?_⟩;rw[List.take_succ_eq_append_getElem HLT.o,List.map_append,List.map_singleton,<-HLJ.o,HVAL.o];exact HO2.o
     case measure=>simp[intOf];omega
   ·have d1:wr.cell? ⟨ub,uoff+((T.length:Int) - 1).toNat,none⟩=some (.int .i64 tq):=by rw[<-k3,Int.toNat_natCast];exact d0
    have d2:wr.cell? ⟨ub,uoff+(T.length - 1),none⟩=some (.int .i64 tq):=by rw[show T.length - 1=q by omega];exact d0
    have HK3:=zh k3;have hTm:(0:Int)<=(T.length:Int) - 1:=by omega
    have d3:(wr.cell? ⟨ub,uoff,none⟩=some (.int .i64 tq)/\(T.length:Int) - 1<=0)\/0<(T.length:Int) - 1:=by
     by_cases h1:T.length=1;·left;refine⟨?_,by omega⟩;rw[show q=0 by omega]at d0;exact d0
     ·right;omega
    clear k3 d0 hq0 hq1;rcases d3 with⟨d3,d4⟩|d3
    ·rcases Int.lt_or_eq_of_le k2 with k2|k2
     ·go_wp2_with(at_builtin;go_must(refine Zas rfl (.tmp 14) (.tmp 24) 43 rfl w.heap.size 3 1 8 Zbd Zab (A:=fun _=>True) (.slice xa j xc) ((l.take j).map (ZeR T)) rfl HOR.o tq [.int .i64 tq] rfl rfl ⟨HDI.o,rfl⟩ ⟨by simp;omega,hzr⟩ ?_);go_must(intro v2 w2 hown2 hgrew));all_goals
       have HO2:=zh (OwnF.of_ownR hown2);have HG2:=zh hgrew;clear hown2 hgrew;go_roundw;case rel=>refine⟨j+1,by omega,by go_num,HG2.o.below (HB.o.alloc (by omega) _) (by simp;omega) (fun k hk=>(HO.o.lt k hk).1),?_⟩;rw[List.take_succ_eq_append_getElem HLT.o,List.map_append,List.map_singleton,<-HLJ.o,HVAL.o];exact HO2.o
       case measure=>simp[intOf];omega
     ·have k4:¬lj<(T.length:Int) - 1:=by omega
      go_wp2_with(at_builtin;go_must(refine Zas rfl (.tmp 14) (.tmp 24) 43 rfl w.heap.size 3 1 8 Zbd Zab (A:=fun _=>True) (.slice xa j xc) ((l.take j).map (ZeR T)) rfl HOR.o tq [.int .i64 tq] rfl rfl ⟨HDI.o,rfl⟩ ⟨by simp;omega,hzr⟩ ?_);go_must(intro v2 w2 hown2 hgrew));all_goals
       have HO2:=zh (OwnF.of_ownR hown2);have HG2:=zh hgrew;clear hown2 hgrew;go_roundw;case rel=>refine⟨j+1,by omega,by go_num,HG2.o.below (HB.o.alloc (by omega) _) (by simp;omega) (fun k hk=>(HO.o.lt k hk).1),?_⟩;rw[List.take_succ_eq_append_getElem HLT.o,List.map_append,List.map_singleton,<-HLJ.o,HVAL.o];exact HO2.o
       case measure=>simp[intOf];omega
    ·rcases Int.lt_or_eq_of_le k2 with k2|k2
     ·go_wp2_with(at_builtin;go_must(refine Zas rfl (.tmp 14) (.tmp 24) 43 rfl w.heap.size 3 1 8 Zbd Zab (A:=fun _=>True) (.slice xa j xc) ((l.take j).map (ZeR T)) rfl HOR.o tq [.int .i64 tq] rfl rfl ⟨HDI.o,rfl⟩ ⟨by simp;omega,hzr⟩ ?_);go_must(intro v2 w2 hown2 hgrew));all_goals
       have HO2:=zh (OwnF.of_ownR hown2);have HG2:=zh hgrew;clear hown2 hgrew;go_roundw;case rel=>refine⟨j+1,by omega,by go_num,HG2.o.below (HB.o.alloc (by omega) _) (by simp;omega) (fun k hk=>(HO.o.lt k hk).1),?_⟩;rw[List.take_succ_eq_append_getElem HLT.o,List.map_append,List.map_singleton,<-HLJ.o,HVAL.o];exact HO2.o
       case measure=>simp[intOf];omega
     ·subst k2;go_wp2_with(at_builtin;go_must(refine Zas rfl (.tmp 14) (.tmp 24) 43 rfl w.heap.size 3 1 8 Zbd Zab (A:=fun _=>True) (.slice xa j xc) ((l.take j).map (ZeR T)) rfl HOR.o tq [.int .i64 tq] rfl rfl ⟨HDI.o,rfl⟩ ⟨by simp;omega,hzr⟩ ?_);go_must(intro v2 w2 hown2 hgrew));all_goals
       have HO2:=zh (OwnF.of_ownR hown2);have HG2:=zh hgrew;clear hown2 hgrew;go_roundw;case rel=>refine⟨j+1,by omega,by go_num,HG2.o.below (HB.o.alloc (by omega) _) (by simp;omega) (fun k hk=>(HO.o.lt k hk).1),?_⟩;rw[List.take_succ_eq_append_getElem HLT.o,List.map_append,List.map_singleton,<-HLJ.o,HVAL.o];exact HO2.o
       case measure=>simp[intOf];omega
  ·have hje:j=l.length:=by omega
   subst hje;rw[List.take_of_length_le (zL _)]at HO;go_wp2_with fail;go_ret;exact⟨_,rfl,HB.o,HO.o⟩
section
variable {base : Nat} {P : List Cl} {q g : Nat} {pv hc ht : Value} {o : Mo} {m : Mv} {w : World}
theorem OwnM.cells{w:World}{base:Nat}{l:List Cm}{ca:Option Addr}{cc:Nat}(h:OwnM w base l (.slice ca l.length cc)){i:Nat}(hi:i<l.length):∃b,ca=some ⟨b,0,none⟩/\Zai (.slice ca l.length cc)=some b/\b<w.heap.size/\base<=b/\(∀o,w.frozen? ⟨b,o,none⟩=false)/\w.cell? ⟨b,i*4,none⟩=some (.int .i64 (l[i].goal:Int))/\w.cell? ⟨b,i*4+1,none⟩=some (.int .i64 (l[i].from_:Int))/\w.cell? ⟨b,i*4+2,none⟩=some (.int .i64 (l[i].top:Int))/\w.cell? ⟨b,i*4+3,none⟩=some (.int .i64 (l[i].trail:Int))/\Zpu l[i]:=by obtain⟨b,cap,e,h0,h1,h2,h3,h4,h5,h6,h7⟩:=OwnF.at ZhA h (by omega);simp only[Value.slice.injEq,true_and]at e;obtain⟨rfl,rfl⟩:=e;exact⟨b,rfl,h3,h5,h6,h4,h7 i hi 0 _ rfl,h7 i hi 1 _ rfl,h7 i hi 2 _ rfl,h7 i hi 3 _ rfl,h.2 _ (List.getElem_mem hi)⟩
theorem OwnG.cells{w:World}{base:Nat}{l:List Gm}{ca:Option Addr}{cc:Nat}(h:OwnG w base l (.slice ca l.length cc)){i:Nat}(hi:i<l.length):∃b,ca=some ⟨b,0,none⟩/\Zai (.slice ca l.length cc)=some b/\b<w.heap.size/\base<=b/\(∀o,w.frozen? ⟨b,o,none⟩=false)/\w.cell? ⟨b,i*3,none⟩=some (.int .i64 l[i].at_)/\w.cell? ⟨b,i*3+1,none⟩=some (.int .i64 (l[i].bar:Int))/\w.cell? ⟨b,i*3+2,none⟩=some (.int .i64 l[i].next)/\Zph l[i]:=by obtain⟨b,cap,e,h0,h1,h2,h3,h4,h5,h6,h7⟩:=OwnF.at Zjd h (by omega);simp only[Value.slice.injEq,true_and]at e;obtain⟨rfl,rfl⟩:=e;exact⟨b,rfl,h3,h5,h6,h4,h7 i hi 0 _ rfl,h7 i hi 1 _ rfl,h7 i hi 2 _ rfl,h.2 _ (List.getElem_mem hi)⟩
theorem Zgy(h:MvI base P q g pv hc ht o m w):Calls Tryd.prog 77 #[.pointer (some ⟨g,0,none⟩)] w (fun e w'=>∃v,e= .returned v/\Below w.heap.size w w'/\OwnN w' w.heap.size (m.choices.reverse.map fun c=>(c.goal:Int)) v):=by
 have HU:=zh h;obtain⟨hl1,hl2⟩:=h.lt;obtain⟨gv,cv,ov⟩:=o;obtain⟨pa,pc,ga,gc,ca,cc,oa,oc,ha,hac,hb,hbc,rfl,rfl,rfl,rfl,rfl,rfl, -, -, -, -,hcl1,hcl2, -⟩:=h.vals;obtain⟨b0,b1,b2,b3,b4,b5,b6,b7,b8,b9,bf⟩:=ZaM h.box;obtain⟨cs,hcs⟩:∃cs,cs=m.choices.reverse:=⟨_,rfl⟩;have hlen:m.choices.length=cs.length:=by rw[hcs,List.length_reverse]
 have hchc:OwnM w base cs (.slice ca cs.length cc):=by have :=h.chc;rw[<-hcs]at this;simp only at this;rwa[hlen]at this
 have HCHC:=zh hchc;have hcl:=h.cl;rw[hlen]at hcl hcl1 b4;rw[<-hcs];unfold maxLen at hcl2;have hcl0:(0:Int)<=(cs.length:Int):=zN _;clear h hchc hcs hlen HU;go_enter Tryd.func77,Tryd.ntmps77;go_wp2_with fail;go_loopw[3,11](fun i3 i11 wr=>∃(j:Nat)(v:Value),j<=cs.length/\i3=v/\i11= .int .i64 (j:Int)/\Below w.heap.size w wr/\OwnN wr w.heap.size ((cs.take j).map fun c=>(c.goal:Int)) v)(fun _ i11 _=>cs.length - (intOf i11).toNat);case atStart=>exact⟨0,.slice none 0 0,Nat.zero_le _,rfl,rfl,zB _ _,OwnF.nil⟩
 case round=>
  obtain⟨j,v,hj,rfl,rfl,hbw,hown⟩:=hrel;have HB:=zh hbw;have HO:=zh hown;have hz:=hbw.size;have hj0:(0:Int)<=(j:Int):=zN _;clear hbw hown;by_cases hlt:j<cs.length
  ·have hj1:(j:Int)<(cs.length:Int):=by omega
   obtain⟨b,rfl, -,hbl, -, -,c0,c1,c2,c3,ok⟩:=OwnM.cells HCHC.o hlt;have d0:=bc HB.o c0;have d1:=bc HB.o c1;have d2:=bc HB.o c2;have d3:=bc HB.o c3;have hbl':b<wr.heap.size:=by omega
   have HLT:=zh hlt;have hok:=ok.1;have HTK:=zh (show(cs.take (j+1)).map (fun c=>(c.goal:Int))=(cs.take j).map (fun c=>(c.goal:Int))++[(cs[j].goal:Int)]by rw[List.take_succ_eq_append_getElem hlt,List.map_append,List.map_singleton];rfl);generalize cs[j]=x at*;obtain⟨va,vc,hv,hvl,hvm⟩:=OwnF.val HO.o;rw[show((cs.take j).map fun c=>(c.goal:Int)).length=j by simp;omega]at hv hvl;subst hv;unfold maxLen at hvm;clear c0 c1 c2 c3 ok;have HOR:=zh (HO.o.ownR Zat (fun _=>True));have HX:=zh (fun(X:Obj)=>HOR.o.alloc Zab X);have hjg:x.goal<=1000000:=hok;go_wp2_with(at_builtin;go_must(refine Zas rfl (.tmp 15) (.tmp 18) 43 rfl w.heap.size 3 1 8 Zbd Zab (A:=fun _=>True) (.slice va j vc) ((cs.take j).map fun c=>(c.goal:Int)) rfl (HX.o _) (x.goal:Int) [.int .i64 (x.goal:Int)] (by rw[World.size_alloc];rfl) rfl ⟨by unfold I64;omega,rfl⟩ ⟨by simp;omega,by simp;omega⟩ ?_);go_must(intro v2 w2 hown2 hgrew));have HO2:=zh (OwnF.of_ownR hown2);have HG2:=zh hgrew;have HB2:=zh (hgrew.below ((HB.o.alloc hz _).alloc (by simp;omega) _) (by simp;omega) (fun k hk=>(HO.o.lt k hk).1));clear hown2 hgrew HX;go_roundw;case rel=>exact⟨j+1,v2,by omega,rfl,by go_num,HB2.o,by rw[HTK.o];exact HO2.o⟩
   case measure=>simp[intOf];omega
  ·have hj1:(cs.length:Int)<=(j:Int):=by omega
   have h9:=HO.o;rw[List.take_of_length_le (by omega)]at h9;have HO2:=zh h9;clear h9;go_wp2_with fail;go_ret;exact⟨_,rfl,HB.o,HO2.o⟩
end
end Go.Proofs.YtlpmfkpefoegeacDoor
