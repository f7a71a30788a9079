import Derived.Test.YtlpmfkpefoegeacDoorQPs2
import Derived.Laws.IdiomStrings
import Derived.Deep.DeepCutAuto
import Derived.Deep.CutBlock
namespace Go.Proofs.YtlpmfkpefoegeacDoor
set_option maxRecDepth 100000
set_option maxHeartbeats 16000000
set_option linter.all false
open Go.RowKit
theorem Zfa(t:Str):(t.head?=some 45/\∃r,t=45::r)\/(t.head?≠some 45/\Zaq t=t):=by
 cases t with
  |nil=>exact .inr ⟨by simp,by simp[Zaq]⟩
  |cons c r=>
   by_cases h:c=45;·subst h;exact .inl ⟨rfl,r,rfl⟩
   ·exact .inr ⟨by simpa using h,by simp[Zaq,h]⟩
theorem ZdL(t:Str)(ht:t.length<=2000)(w:World):Calls Tryd.prog 115 #[.string (bs t),.string (bs [45])] w (fun e w'=>e= .returned (.bool (decide (t.head?=some 45)))/\w'=w):=by
 have hz1:(bs [45]).size=1:=by rw[Zab];rfl
 have hz:(bs t).size<=2000:=by rw[Zab];exact ht
 cases t with
  |nil=>
   have hd:decide ((bs []).size<(bs [45]).size)=true:=by rw[Zab,Zab];rfl
   have hz0:(bs []).size=0:=by rw[Zab];rfl
   go_enter Tryd.func115,Tryd.ntmps115;go_wp2_with fail;go_ret;exact⟨rfl,rfl⟩
  |cons c r=>
   have hd:decide ((bs (c::r)).size<(bs [45]).size)=false:=by rw[Zab,Zab];simp
   have hle:(bs [45]).size<=(bs (c::r)).size:=by rw[Zab,Zab];simp
   have hE:(((bs (c::r)).extract 0 (bs [45]).size).toList==(bs [45]).toList)=decide ((c::r).head?=some 45):=by
    rw[Zar,Zaa,Zaa,Zab];by_cases h:c=45;·subst h;simp
    ·simp[h]
   clear ht hz1;generalize decide ((c::r).head?=some 45)=q at hE;go_enter Tryd.func115,Tryd.ntmps115;go_wp2_with fail;go_ret;exact⟨rfl,rfl⟩
theorem ZcZ(t:Str)(ht:t.length<=2000)(w:World):Calls Tryd.prog 92 #[.string (bs t),.string (bs [45])] w (fun e w'=>e= .returned (.string (bs (Zaq t)))/\w'=w):=by
 have HH:=zh (ZdL t ht w);have hz:(bs t).size<=2000:=by rw[Zab];exact ht
 rcases Zfa t with⟨h1,r,rfl⟩|⟨h1,h2⟩
 ·have HD:=zh (show(bs (45::r)).extract (bs [45]).size (bs (45::r)).size=bs (Zaq (45::r))by rw[Zar,Zab,Zab];simp[Zaq]);have hle:(bs [45]).size<=(bs (45::r)).size:=by rw[Zab,Zab];simp
  have hz1:(bs [45]).size<=1:=by rw[Zab];simp
  rw[decide_eq_true h1]at HH;clear h1 ht;go_enter Tryd.func92,Tryd.ntmps92;go_wp2_with fail;refine HH.o.mono ?_;rintro e w'⟨rfl,rfl⟩;go_wp2_with fail;go_ret;exact⟨by rw[HD.o];rfl,rfl⟩
 ·rw[decide_eq_false h1]at HH;have HD:=zh h2;clear h1 ht h2;go_enter Tryd.func92,Tryd.ntmps92;go_wp2_with fail;refine HH.o.mono ?_;rintro e w'⟨rfl,rfl⟩;go_wp2_with fail;go_ret;exact⟨by rw[HD.o];rfl,rfl⟩
theorem Zdk(t:Str)(ht:t.length<=2000)(w:World):Calls Tryd.prog 66 #[.string (bs t),.string ⟨#[45]⟩] w (fun e w'=>e= .returned (.string (bs (Zaq t)))/\w'=w):=by have HH:=zh (ZcZ t ht w);go_enter Tryd.func66,Tryd.ntmps66;go_wp2_with fail;refine HH.o.mono ?_;rintro e w'⟨rfl,rfl⟩;go_wp2_with fail;go_ret;exact⟨rfl,rfl⟩
theorem Zfb(d:Str)(c:UInt8):Zc6 (d++[c])=10*Zc6 d+((c.toNat:Int) - 48):=by unfold Zc6;rw[List.foldl_append];rfl
theorem Zfc{d:Str}{k:Nat}(h:k<d.length):Zc6 (d.take (k+1))=10*Zc6 (d.take k)+((d[k].toNat:Int) - 48):=by rw[List.take_succ_eq_append_getElem h,Zfb]
theorem ZfZ{d:Str}(hd:Digs d)(hl:d.length<=13):0<=Zc6 d/\Zc6 d<10000000000000:=by
 rw[ZdE hd];have h1:=ZdF d hd;have h2:10 ^ d.length<=10 ^ 13:=Nat.pow_le_pow_right (by omega) hl;constructor;·exact zN _
 ·omega
theorem Digs.take{d:Str}(hd:Digs d)(k:Nat):Digs (d.take k):=fun c hc=>hd c (List.mem_of_mem_take hc)
theorem Zdl(t:Str)(ht:t.length<=2000)(hdg:Digs (Zaq t))(w:World):Calls Tryd.prog 49 #[.string (bs t)] w (Pure w (fun r _=>r= .tuple #[.int .i64 ((Za3 t).getD 0),.bool (Za3 t).isSome])):=by
 have HTR:=zh (Zdk t ht w);obtain⟨d,hd⟩:∃d,d=Zaq t:=⟨_,rfl⟩;have hdl:d.length<=2000:=by
  rw[hd];unfold Zaq;split;·rw[List.length_tail];omega
  ·exact ht
 have hv:Za3 t=if d=[]\/d.length>13\/(d.head?=some 48/\t≠[48])then none else if Zc6 d>1099511627776 then none else some (if d=t then Zc6 d else - Zc6 d):=by rw[hd];rfl
 rw[<-hd]at HTR hdg;have HV:=zh hv;have HDG:=zh hdg;have hzs:(bs d).size=d.length:=Zab d;clear hv ht hd hdg;go_enter Tryd.func49,Tryd.ntmps49;go_wp2_with fail;refine HTR.o.mono ?_;rintro e w1⟨rfl,rfl⟩;clear HTR;by_cases h0:d=[]
 ·have hE:((bs d).toList==[])=true:=by rw[Zaa,h0];rfl
  have hE':(bs d).toList.isEmpty=true:=by rw[Zaa,h0];rfl
  have HN:=zh (HV.o.trans (if_pos (.inl h0)));clear h0;go_wp2_with fail;go_ret2;rw[HN.o];exact⟨_,rfl,zB _ _,rfl⟩
 obtain⟨c,r,hcr0⟩:=List.exists_cons_of_ne_nil h0;have HCR:=zh hcr0;have HN0:=zh h0;clear hcr0 h0;have hE':(bs d).toList.isEmpty=false:=by rw[Zaa,HCR.o];rfl
 have hE:((bs d).toList==[])=false:=by rw[Zaa,HCR.o];rfl
 have hEn:¬(bs d).toList=[]:=by rw[Zaa,HCR.o];simp
 by_cases h13:13<d.length
 ·have hlt:decide ((13:Int)<(d.length:Int))=true:=by exact decide_eq_true (by omega)
  have HN:=zh (HV.o.trans (if_pos (.inr (.inl h13))));clear h13;go_wp2_with fail;go_ret2;rw[HN.o];exact⟨_,rfl,zB _ _,rfl⟩
 have hlt:decide ((13:Int)<(d.length:Int))=false:=by exact decide_eq_false (by omega)
 have h0s:0<(bs d).size:=by rw[hzs,HCR.o];simp
 have hg0:(bs d)[0]=c:=by rw[ZbY _ _ h0s];simp[HCR.o]
 by_cases h3:d.head?=some 48/\t≠[48]
 ·have hc48:c=48:=by have :=h3.1;rw[HCR.o]at this;simpa using this
  have hx:(((bs d)[0].toNat:Int)==48)=true:=by rw[hg0,hc48];rfl
  have hE3:((bs t).toList==[48])=false:=by rw[Zaa];simpa using h3.2
  have HN:=zh (HV.o.trans (if_pos (.inr (.inr h3))));clear h13 h3 hc48 hg0;go_wp2_with fail;go_ret2;rw[HN.o];exact⟨_,rfl,zB _ _,rfl⟩
 have HV2:=zh (HV.o.trans (if_neg (fun h=>by
  rcases h with h|h|h;·exact HN0.o h
  ·exact h13 h
  ·exact h3 h)));have HD13:=zh (show d.length<=13 by omega);go_upto_region 2 with fail;go_cut[25](fun x wx=>x= .bool false/\wx=w1);case first=>
  by_cases hc48:c=48
  ·have hx:(((bs d)[0].toNat:Int)==48)=true:=by rw[hg0,hc48];rfl
   have ht48:t=[48]:=by
    by_cases e:t=[48];·exact e
    ·exact absurd ⟨by rw[HCR.o,hc48];rfl,e⟩ h3
   have hE3:((bs t).toList==[48])=true:=by rw[Zaa,ht48];rfl
   clear h3 hc48 hg0 ht48;go_wp2_with fail;go_meet;case rel=>exact⟨rfl,rfl⟩
  ·have hx:(((bs d)[0].toNat:Int)==48)=false:=by rw[hg0,beq_eq_false_iff_ne];intro e;exact hc48 (UInt8.toNat_inj.1 (by have e48:(48:UInt8).toNat=48:=rfl;omega))
   clear h3 hc48 hg0;go_wp2_with fail;go_meet;case rel=>exact⟨rfl,rfl⟩
 case rest=>
  obtain⟨rfl,hwc⟩:=hcut;subst hwc;clear hE' hE hEn hlt h0s hg0 h3 h13;have hconv:=run_bytes_of_string (P:=Tryd.prog) wc 9 49 5 (bs d) Tryd.underlying9 Tryd.underlying49 Tryd.underlying5;generalize grownCap wc (bs d).size 0 5=cap at hconv;obtain⟨W2,hW2⟩:∃W2,W2=wc.drew.alloc (.cells (bytesRow (bs d) cap) 5 ((bytesRow (bs d) cap).size,(bytesRow (bs d) cap).size+1)):=⟨_,rfl⟩;have HCL:=zh (show ∀(j:Nat)(hj:j<d.length),W2.cell? ⟨wc.heap.size,j,none⟩=some (.int .u8 (d[j].toNat:Int))from fun j hj=>by have h1:=World.cell?_alloc_mark wc.drew (bytesRow (bs d) cap) 5 ((bytesRow (bs d) cap).size,(bytesRow (bs d) cap).size+1) j;rw[<-hW2]at h1;refine h1.trans ((bytesRow_at (bs d) cap j (by show j<(bs d).size;rw[hzs];exact hj)).trans ?_);congr 3);have HBW:=zh (show Below wc.heap.size wc W2 by rw[hW2];exact((Below.refl _ wc).drew).alloc (zL _) _);rw[<-hW2,hzs]at hconv;have hbl2:wc.heap.size<W2.heap.size:=by rw[hW2];simp
  clear hW2;have hcv:(convert 9 49 (.string (bs d))).run Tryd.prog wc= .ok (.slice (some ⟨wc.heap.size,0,none⟩) d.length cap) W2:=hconv;clear hconv;go_wp2_with fail;go_loopw[5,29](fun x i wr=>∃k:Nat,k<=d.length/\i= .int .i64 (k:Int)/\x= .int .i64 (Zc6 (d.take k))/\wr=W2)(fun _ i _=>d.length - (intOf i).toNat);case atStart=>exact⟨0,Nat.zero_le _,rfl,by simp[Zc6],rfl⟩
  case round=>
   obtain⟨k,hk,rfl,rfl,rfl⟩:=hrel;have hk0:(0:Int)<=(k:Int):=zN _;have hbd:=ZfZ (HDG.o.take k) (by have :=HD13.o;rw[List.length_take];omega);obtain⟨v,hv⟩:∃v,v=Zc6 (d.take k):=⟨_,rfl⟩;rw[<-hv]at hbd ⊢;have HVV:=zh hv;clear hv;by_cases hlt:k<d.length
   ·have hc:=HCL.o k hlt;have hdc:=digB_iff.1 (HDG.o d[k] (List.getElem_mem hlt));obtain⟨c,hcc⟩:∃c:Nat,c=d[k].toNat:=⟨_,rfl⟩;have HST:=zh (Zfc hlt);rw[<-HVV.o,<-hcc]at HST;rw[<-hcc]at hc hdc;have hlt':(k:Int)<(d.length:Int):=by omega
    have hc1:(48:Int)<=(c:Int):=by omega
    have hc2:(c:Int)<=57:=by omega
    clear hcc;go_wp2_with fail;exact⟨⟨k+1,by omega,by go_num,by rw[HST.o],trivial⟩,by simp[intOf];omega⟩
   ·have hke:k=d.length:=by omega
    subst hke;rw[List.take_length]at HVV;have hlt':¬(d.length:Int)<(d.length:Int):=by omega
    by_cases hbig:v>1099511627776;·have hbi:(1099511627776:Int)<v:=hbig;have HN:=zh (HV2.o.trans (if_pos (by rw[<-HVV.o];exact hbig)));clear hbig;go_wp2_with fail;refine bodyPost_ret (v:= .tuple #[.int .i64 0,.bool false]) (by simp[results,Tryd.results49,go_sem];try rfl) rfl ?_;rw[HN.o];exact⟨_,rfl,HBW.o,rfl⟩
    ·have hbi:¬(1099511627776:Int)<v:=hbig;have HN:=zh (HV2.o.trans (if_neg (by rw[<-HVV.o];exact hbig)));rw[<-HVV.o]at HN;clear hbig;by_cases hdt:d=t
     ·have hE9:((bs d).toList==(bs t).toList)=true:=by rw[hdt];simp
      have HN2:=zh (HN.o.trans (congrArg some (if_pos hdt)));clear hdt;go_wp2_with fail;refine bodyPost_ret (v:= .tuple #[.int .i64 v,.bool true]) (by simp[results,Tryd.results49,go_sem];try rfl) rfl ?_;rw[HN2.o];exact⟨_,rfl,HBW.o,rfl⟩
     ·have hE9:((bs d).toList==(bs t).toList)=false:=by rw[Zaa,Zaa];simpa using hdt
      have HN2:=zh (HN.o.trans (congrArg some (if_neg hdt)));clear hdt;go_wp2_with fail;refine bodyPost_ret (v:= .tuple #[.int .i64 (-v),.bool true]) (by simp[results,Tryd.results49,go_sem];try rfl) rfl ?_;rw[HN2.o];exact⟨_,rfl,HBW.o,rfl⟩
end Go.Proofs.YtlpmfkpefoegeacDoor
