import Derived.Test.YtlpmfkpefoegeacPSolveF
namespace Go.Proofs.Ytlpmfkpefoegeac
set_option maxRecDepth 100000
set_option maxHeartbeats 16000000
set_option linter.all false
open Go.RowKit
theorem ZlM{w:World}{g:Nat}{E:TypeId}{c:Array Value}(h:w.heap[g]?=some (.cells c E (0,0)))(o:Nat):w.frozen? ⟨g,o,none⟩=false:=by simp[World.frozen?,h]
theorem OwnR.elems{α:Type}{w:World}{base:Nat}{E:TypeId}{size:Nat}{R:(Nat->Prop)->World->α->List Value->Prop}{A:Nat->Prop}{xs:List α}{v:Value}(hR:Lasts R)(h:OwnR w base E size R A xs v):∃b off,(0<xs.length->∃cap,v= .slice (some ⟨b,off,none⟩) xs.length cap)/\Elems A w size R xs b off:=by
 obtain⟨vals,hl,ho,he⟩:=h;have hsz:∀(i:Nat)(vs:List Value),vals[i]?=some vs->vs.length=size:=fun i vs hv=>by
  have hi:i<xs.length:=by have :=(List.getElem?_eq_some_iff.1 hv).1;omega
  exact(he i _ vs (List.getElem?_eq_getElem hi) hv).1
 rcases ho.2 with⟨h0,a,rfl⟩|⟨g,cap,cur,rfl,hc,hb,hg,hnc,hcm,hcs,htake⟩;·have :xs=[]:=List.eq_nil_of_length_eq_zero h0;subst this;exact⟨0,0,fun h=>by simp at h,fun i x hx=>by simp at hx⟩
 ·refine⟨g,0,fun _=>⟨cap,rfl⟩,fun i x hx=>?_⟩;have hi:i<vals.length:=by have :=(List.getElem?_eq_some_iff.1 hx).1;omega
  have hv:=List.getElem?_eq_getElem hi;obtain⟨h1,h2⟩:=he i x _ hx hv;refine⟨vals[i],h1,hR.2.1 _ _ w x _ h2 (fun b _ hb=>hb.1),fun j u hj=>?_⟩;have hjl:j<size:=by have :=(List.getElem?_eq_some_iff.1 hj).1;omega
  rw[Nat.zero_add];exact ho.cells rfl hc _ u (by rw[ZbX vals hsz i j _ hv hjl];exact hj)
def Zn6(_:Nat->Prop)(_:World)(n:Int)(vs:List Value):Prop:=vs=[.int .i64 n]/\I64 n
theorem Zf9:Lasts Zn6:=⟨fun _ _ _ _ _ h _=>h,fun _ _ _ _ _ h _=>h,fun _ _ _ _ h u hu=>by obtain⟨rfl,_⟩:=h;simp at hu;subst hu;rfl⟩
theorem Zny:ElemTy Try.prog 37 3 1 8:= .mk' (z:= .int .i64 0) Try.underlying37 (by kernel_rfl) rfl (by omega) (by omega)
def ZlN(base bs:Nat)(st:List Int)(M:Nat->Prop)(w:World):Prop:=∃v,w.heap[bs]?=some (.cells #[v] 37 (0,0))/\OwnR w base 3 1 Zn6 (fun _=>True) st v/\base<=w.heap.size/\bs<base/\(∀b,M b↔(b=bs\/Zai v=some b))
theorem Zhg(base bs:Nat):StLaw (ZlN base bs):=by
 refine⟨fun st M w h b hb=>?_,fun st M w w' h hk=>?_⟩
 ·obtain⟨v,h1,h2,h3,h4,h5⟩:=h;rcases(h5 b).1 hb with rfl|h6;·exact Zag h1
  ·exact(h2.lt b h6).2
 ·obtain⟨v,h1,h2,h3,h4,h5⟩:=h;exact⟨v,Zaj h1 hk ((h5 _).2 (.inl rfl)),by obtain⟨vals,k1,k2,k3⟩:=h2;exact⟨vals,k1,k2.keeps hk (fun b hb=>(h5 b).2 (.inr hb)),k3⟩,Nat.le_trans h3 hk.size,h4,h5⟩
theorem Zh5{st:List Int}{n:Int}{k:Nat}(hk:k<st.length)(h:st[k]=n)(hb:∀i(hi:i<k),st[i]'(by omega)≠n):n∈st/\st.idxOf n=k:=by
 have hm:n∈st:=h▸List.getElem_mem hk;refine⟨hm,?_⟩;have h1:=List.idxOf_lt_length_of_mem hm;have h2:st[st.idxOf n]=n:=List.getElem_idxOf h1;rcases Nat.lt_trichotomy (st.idxOf n) k with h3|h3|h3;·exact absurd h2 (hb _ h3)
 ·exact h3
 ·have h4:=List.not_of_lt_findIdx (p:=(· ==n)) (xs:=st) (i:=k) (by simpa[List.idxOf]using h3);simp[h]at h4
theorem ZlO(base bs:Nat)(st:List Int)(M:Nat->Prop)(w:World)(n:Int)(hi:ZlN base bs st M w)(hsz:st.length<4194304)(hn:I64 n):Calls Try.prog 52 #[.pointer (some ⟨bs,0,none⟩),.int .i64 n] w (Zka (ZlN base bs) M w (Zat st n)):=by
 have HI:=zh hi;obtain⟨v,hblk,hown,hbase,hbs,hM⟩:=hi;obtain⟨va,vc,rfl,hvc⟩:=hown.val;have HO:=zh hown;have HM:=zh hM;have hc0:w.cell? ⟨bs,0,none⟩=some (.slice va st.length vc):=by rw[Zax hblk];rfl
 have hf0:w.frozen? ⟨bs,0,none⟩=false:=by simp[World.frozen?,hblk]
 have HB:=zh hblk;have HE:=zh (show ∃b off,(0<st.length->va=some ⟨b,off,none⟩)/\∀i(hi:i<st.length),w.cell? ⟨b,off+i,none⟩=some (.int .i64 st[i])by obtain⟨b,off,h1,h2⟩:=hown.elems Zf9;refine⟨b,off,fun h0=>by have :=h1 h0;simpa using this,fun i hi=>?_⟩;obtain⟨vs, -,⟨rfl, -⟩,h3⟩:=h2 i _ (List.getElem?_eq_getElem hi);have :=h3 0 _ rfl;simpa using this);clear hown hM hblk;obtain⟨b,off,hva,hel⟩:=HE.o;have HVA:=zh hva;have HEL:=zh hel;clear hva hel HE;go_enter Try.func52,Try.ntmps52;go_wp2_with fail;go_loopw[11](fun i wr=>∃j:Nat,j<=st.length/\i= .int .i64 j/\w=wr/\∀i(hi:i<j)(hj:j<=st.length),st[i]'(by omega)≠n)(fun i _=>st.length - (intOf i).toNat);case atStart=>exact⟨0,Nat.zero_le _,rfl,rfl,fun i hi=>by omega⟩
 case round=>
  obtain⟨j,hj,rfl,rfl,hpre⟩:=hrel;have HP:=zh hpre;clear hpre;by_cases hlt:j<st.length
  ·obtain rfl:=HVA.o (by omega);have hcell:=HEL.o j hlt;by_cases he:st[j]=n
   ·have he':(st[j]==n)=true:=by simpa using he
    have HEQ:=zh he;clear he;go_wp2_with fail;go_ret;obtain⟨h1,h2⟩:=Zh5 hlt HEQ.o (fun i hi=>HP.o i hi hj);refine⟨by simp[Zat,h1,h2],by simp only[Zat,h1,if_true,h2];exact Zkj (by omega),M,Ch.refl M _,fun b hb=> .inl hb,by simpa[Zat,h1]using HI.o⟩
   ·have he':(st[j]==n)=false:=by simpa using he
    have HEQ:=zh he;clear he;go_wp2_with fail;go_roundw;case rel=>
     refine⟨j+1,by omega,by go_num,(by first|rfl|trivial),fun i hi hj'=>?_⟩;by_cases hij:i=j;·subst hij;exact HEQ.o
     ·exact HP.o i (by omega) hj
    case measure=>simp[intOf];omega
  ·have :j=st.length:=by omega
   subst this;have hnin:n∉st:=fun h=>by obtain⟨i,hi,he⟩:=List.mem_iff_getElem.1 h;exact HP.o i hi (zL _) he
   have HNIN:=zh hnin;have HL:=zh (show st.length<4194304/\base<=w.heap.size from⟨hsz,hbase⟩);have hlt2:=HO.o.lt;have hnbs:Zai (.slice va st.length vc)≠some bs:=fun e=>by have :=(hlt2 _ e).1;omega
   clear hnin;go_wp2_with(at_builtin;go_must(refine Zau rfl (.tmp 24) (.tmp 26) 37 rfl base 3 1 8 Zny Zf9 (.slice va st.length vc) st rfl HO.o n [.int .i64 n] rfl rfl ⟨rfl,hn⟩ HL.o ?_);go_must(intro v2 w2 hown2 hgrew;obtain⟨va2,vc2,hv2,hvc2⟩:=hown2.val;rw[show(st++[n]).length=st.length+1 by simp]at hv2;subst hv2;have hB2:=Zaj HB.o ((Keeps.alloc (fun b=>Zai (.slice va st.length vc)≠some b) w (.cells #[.int .i64 n] 3)).trans (hgrew.keeps (fun _ h=>h))) hnbs;have hcs:=Zak;have hc2:w2.cell? ⟨bs,0,none⟩=some (.slice va st.length vc):=(Zax hB2 0).trans rfl;have hf2:=ZlM hB2 0;have HB2:=zh hB2;have HO2:=zh hown2;have HG:=zh hgrew;clear hB2 hown2 hgrew));go_ret;have hs1:(Zat st n)=(((st.length:Nat):Int),st++[n]):=by simp[Zat,HNIN.o]
   rw[hs1];have hG:=HG.o;have hz2:=hG.size;simp only[World.size_alloc]at hz2;have hlt3:=HO2.o.lt;have hbs2:Zai (.slice va2 (st.length+1) vc2)≠some bs:=fun e=>by have :=(hlt3 _ e).1;omega
   refine⟨rfl,Zkj (by omega),fun b=>b=bs\/Zai (.slice va2 (st.length+1) vc2)=some b,?_,fun b hb=>?_,?_⟩;·exact(hG.ch ((Ch.refl M w).alloc _) (fun b hb=> .inl ((HM.o b).2 (.inr hb)))).setCell (.inl ((HM.o bs).2 (.inl rfl))) _
   ·rcases hb with rfl|hb;·exact .inl ((HM.o _).2 (.inl rfl))
    ·rcases hG.block with h1|h1;·exact .inl ((HM.o b).2 (.inr (h1.symm.trans hb)))
     ·have :=h1 b hb;simp only[World.size_alloc]at this;exact .inr (by omega)
   ·refine⟨_,Zal HB2.o 0 _,?_,by simp;omega,hbs,fun b=>Iff.rfl⟩;obtain⟨vals,k1,k2,k3⟩:=HO2.o;exact⟨vals,k1,k2.keeps (Keeps.setCell (fun b=>b≠bs) w2 ⟨bs,0,none⟩ _ (by simp)) (fun k hk e=>hbs2 (e▸hk)),k3⟩
def TdInv(pb bs bw:Nat)(st:List Int)(M:Nat->Prop)(w:World):Prop:=∃M0,ZlN pb bs st M0 w/\w.cell? ⟨bw,0,none⟩=some (.func (.func 51) #[] #[.pointer (some ⟨bs,0,none⟩),.pointer (some ⟨bw,0,none⟩)])/\(∀b,M b↔(M0 b\/b=bw))/\¬M0 bw
theorem TdInv.cw{pb bs bw:Nat}{st:List Int}{M:Nat->Prop}{w:World}(h:TdInv pb bs bw st M w):w.cell? ⟨bw,0,none⟩=some (.func (.func 51) #[] #[.pointer (some ⟨bs,0,none⟩),.pointer (some ⟨bw,0,none⟩)]):=by obtain⟨_,_,h,_⟩:=h;exact h
theorem TdInv.mw{pb bs bw:Nat}{st:List Int}{M:Nat->Prop}{w:World}(h:TdInv pb bs bw st M w):M bw:=by obtain⟨_,_,_,h,_⟩:=h;exact(h bw).2 (.inr rfl)
theorem Zdk(pb bs bw:Nat):StLaw (TdInv pb bs bw):=by
 refine⟨fun st M w h b hb=>?_,fun st M w w' h hk=>?_⟩
 ·obtain⟨M0,h1,h2,h3,h4⟩:=h;rcases(h3 b).1 hb with h5|rfl;·exact(Zhg pb bs).lt _ _ _ h1 b h5
  ·exact World.block_lt_of_cell? w _ h2
 ·obtain⟨M0,h1,h2,h3,h4⟩:=h;exact⟨M0,(Zhg pb bs).keeps _ _ _ _ h1 (hk.mono fun b _ hb=>(h3 b).2 (.inl hb)),hk.cell ((h3 bw).2 (.inr rfl)) h2,h3,h4⟩
theorem ZlP(pb bs bw:Nat)(st:List Int)(M:Nat->Prop)(w:World)(n:Int)(hi:TdInv pb bs bw st M w)(hsz:st.length<4194304)(hn:I64 n):Calls Try.prog 52 #[.pointer (some ⟨bs,0,none⟩),.int .i64 n] w (Zka (TdInv pb bs bw) M w (Zat st n)):=by
 obtain⟨M0,h1,h2,h3,h4⟩:=hi;refine(ZlO pb bs st M0 w n h1 hsz hn).mono ?_;rintro e w'⟨rfl,h5,M1,h6,h7,h8⟩;have hbw:bw<w.heap.size:=World.block_lt_of_cell? w ⟨bw,0,none⟩ h2;refine⟨rfl,h5,fun b=>M1 b\/b=bw,h6.mono (fun b _ hb=>(h3 b).2 (.inl hb)),fun b hb=>?_,⟨M1,h8,?_,fun b=>Iff.rfl,fun hb=>?_⟩⟩
 ·rcases hb with hb|rfl
  ·rcases h7 b hb with h9|h9;·exact .inl ((h3 b).2 (.inl h9))
   ·exact .inr h9
  ·exact .inl ((h3 _).2 (.inr rfl))
 ·rw[<-h2];exact World.cell?_of_block (h6.block _ hbw h4)
 ·rcases h7 bw hb with h9|h9;·exact h4 h9
  ·omega
namespace Tm
theorem ZlQ(st:List Int)(n:Int):st.length<=(Zat st n).2.length:=by unfold Zat;split<;>simp
theorem Znz(st:List Int)(k n:Int):st.length<=(num Zat st k n).2.length:=by
 unfold num;split;·exact ZlQ st n
 ·exact zL _
theorem renS_ge:∀(t:Tm)(st:List Int),st.length<=(renS Zat st t).2.length:=by
 intro t;induction t using induct with
  |h k n s l ih=>
   intro st;have hL:∀(r:List Tm),(∀t∈r,t∈l)->∀st:List Int,st.length<=(renSL Zat st r).2.length:=by intro r;induction r with|nil=>intro _ st;simp[renSL]|cons x r ihr=>intro hm st;simp only[renSL];exact Nat.le_trans (ih x (hm x (List.mem_cons_self ..)) st) (ihr (fun t ht=>hm t (List.mem_cons_of_mem _ ht)) _)
   simp only[renS];exact Nat.le_trans (Znz st k n) (hL l (fun _ h=>h) _)
theorem ZiV:∀(l:List Tm)(st:List Int),st.length<=(renSL Zat st l).2.length|[],st=>by simp[renSL]|x::r,st=>by simp only[renSL];exact Nat.le_trans (renS_ge x st) (ZiV r _)
theorem renSL_part:∀(l:List Tm)(st:List Int)(j:Nat)(hj:j<l.length),(renS Zat (renSL Zat st (l.take j)).2 l[j]).2.length<=(renSL Zat st l).2.length|x::r,st,0,_=>by simp only[List.take_zero,renSL,List.getElem_cons_zero];exact ZiV r _|x::r,st,j+1,hj=>by simp only[List.take_succ_cons,renSL,List.getElem_cons_succ];exact renSL_part r _ j (by simpa using hj)
end Tm
def Zh6(pb bs bw:Nat)(t:Tm):Prop:=∀(st:List Int)(M A:Nat->Prop)(w:World)(vs:List Value),TdInv pb bs bw st M w->(t.renS Zat st).2.length<=4194303->Tm.rep A w t vs->(∀b,A b->b<w.heap.size/\¬M b)->Calls Try.prog 51 #[.agg vs.toArray,.pointer (some ⟨bs,0,none⟩),.pointer (some ⟨bw,0,none⟩)] w (ZmH (TdInv pb bs bw) M w (t.renS Zat st))
theorem ZlR(pb bs bw:Nat)(k n:Int)(s:ByteArray)(l:List Tm)(ih:∀t∈l,Zh6 pb bs bw t):Zh6 pb bs bw (.mk k n s l):=by
 intro st M A w vs hst hnd hv hA;rw[Tm.rep_iff]at hv;obtain⟨hk,hn,hs,v,rfl,hl⟩:=hv;obtain⟨a,cap,b,off,rfl,hlc,hcm,hlb,ha,he⟩:=hl.at;have HE:=zh he;have HA:=zh ha;have IH:=zh ih;have HI:=zh (Zdk pb bs bw);have HSZ:=zh ZiI;have HST:=zh hst;have HAM:=zh hA;have HND:=zh hnd;have HMlt:=zh ((Zdk pb bs bw).lt _ _ _ hst);clear he ha hl ih hst hA hnd;obtain⟨m,st1,hm⟩:∃m st1,(m,st1)=Tm.num Zat st k n:=⟨_,_,rfl⟩;have HM:=zh hm;clear hm;by_cases e:k=0;all_goals
  try have e':(k==0)=false:=by simpa using e
  try have e':(k==0)=true:=by simpa using e
  have HE':=zh e;clear e;go_enter Try.func51,Try.ntmps51;go_wp2_with fail
 ·have hst0:=HI.o.keeps _ _ _ (((w.alloc (.cells #[.int .i64 k,.int .i64 n,.string s,.slice a l.length cap] 43)).alloc (.cells #[.int .i64 0,.int .i64 0,.string ByteArray.empty,.slice none 0 0] 43)).alloc (.cells #[.int .i64 k,.int .i64 n,.string s,.slice a l.length cap] 43)) HST.o (((Keeps.alloc _ _ _).trans (Keeps.alloc _ _ _)).trans (Keeps.alloc _ _ _));have hcl:=ZlP pb bs bw st M _ n hst0 (by have h1:=HND.o;have h2:=Tm.renS_ge (.mk k n s l) st;omega) hn;rw[show Zat st n=(m,st1)by rw[HM.o,Tm.num,if_pos HE'.o]]at hcl;refine hcl.mono ?_;rintro e w1⟨rfl,hm64,M1,hch,hM1,hst1⟩;have hq1:=Zj7 w (.cells #[.int .i64 k,.int .i64 n,.string s,.slice a l.length cap] 43) (.cells #[.int .i64 0,.int .i64 0,.string ByteArray.empty,.slice none 0 0] 43) (.cells #[.int .i64 k,.int .i64 n,.string s,.slice a l.length cap] 43);have hMl:=HMlt.o;have hz1:=hch.size;simp only[World.size_alloc]at hz1;have HB0:=zh ((hch.block _ (by simp<;>omega) (fun h=>by have :=hMl _ h;omega)).trans hq1.1);have HB2:=zh ((hch.block _ (by simp<;>omega) (fun h=>by have :=hMl _ h;omega)).trans hq1.2.1);have HB1:=zh ((hch.block _ (by simp<;>omega) (fun h=>by have :=hMl _ h;omega)).trans hq1.2.2);have HM1:Hd (∀b,M1 b->M b\/w.heap.size+3<=b):=fun b hb=>by have :=hM1 b hb;simpa[Nat.add_assoc]using this
  have HCH:=zh (((((Ch.refl M w).alloc _).alloc _).alloc _).trans hch (fun b hb=> .inl hb));have HST1:=zh hst1;have HM64:=zh (show I64 m from hm64);obtain⟨x0,x1,x2,x3,xf⟩:=Za0 HB1.o;obtain⟨z0,z1,z2,z3,zf⟩:=Za0 HB0.o;have hcs:=Zak;have HS4:Hd (st1.length<=st.length+1):=by have h5:=congrArg Prod.snd HM.o;simp only[Tm.num,if_pos HE'.o]at h5;rw[h5];exact HSZ.o st n
  clear hst0 hq1 hMl hch hM1 hst1 hm64 hcl HST;go_wp2_with fail;go_loopw[20](fun i wr=>∃(j:Nat)(v:Value)(sj:List Int)(Mj:Nat->Prop),j<=l.length/\i= .int .i64 j/\w.heap.size+3<=wr.heap.size/\Ch M w wr/\(∀b,Mj b->M b\/w.heap.size+3<=b)/\TdInv pb bs bw sj Mj wr/\wr.heap[w.heap.size+1]?=some (.cells #[.int .i64 0,.int .i64 0,.string ByteArray.empty,.slice none 0 0] 43 (0,0))/\wr.heap[w.heap.size+1+1]?=some (.cells #[.int .i64 k,.int .i64 m,.string s,v] 43 (0,0))/\sj=(Tm.renSL Zat st1 (l.take j)).2/\(∀b,Zai v=some b->¬Mj b)/\OwnR wr (w.heap.size+3) 43 4 Tm.rep (fun b=>w.heap.size+3<=b/\¬Mj b) (Tm.renSL Zat st1 (l.take j)).1 v)(fun i _=>l.length - (intOf i).toNat);case atStart=>
   refine⟨0,.slice none 0 0,st1,M1,Nat.zero_le _,rfl,by simp;omega,(HCH.o.setCell (by simp<;>omega) _).setCell (by simp<;>omega) _,HM1.o,HI.o.keeps _ _ _ _ HST1.o ((Keeps.setCell _ _ _ _ ?_).trans (Keeps.setCell _ _ _ _ ?_)),?_,?_,by simp[Tm.renSL],by simp[Zai],by simpa[Tm.renSL]using OwnR.nil ..⟩;·exact fun(h:M1 (w.heap.size+1+1))=>(HM1.o _ h).elim (fun h1=>by have :=HMlt.o _ h1;omega) (fun h1=>by omega)
   ·exact fun(h:M1 (w.heap.size+1+1))=>(HM1.o _ h).elim (fun h1=>by have :=HMlt.o _ h1;omega) (fun h1=>by omega)
   ·exact Zaj (A:=fun b=>b≠w.heap.size+1+1) HB2.o ((Keeps.setCell _ _ _ _ (by simp)).trans (Keeps.setCell _ _ _ _ (by simp))) (by omega)
   ·exact Zal (Zal HB1.o 1 _) 3 _
  case round=>
   obtain⟨j,v,sj,Mj,hj,rfl,hz,hch,hMj,hst,hB2,hB1,hsj,hob,hown⟩:=hrel;have hvl:(Tm.renSL Zat st1 (l.take j)).1.length=j:=by rw[Tm.renSL_length];simp;omega
   obtain⟨va,vc,hv,hvc⟩:=hown.val;rw[hvl]at hv;subst hv;have HCJ:=zh hch;have HB1J:=zh hB1;have HB2J:=zh hB2;have HMJ:=zh hMj;have HSTJ:=zh hst;have HSJ:=zh hsj;have HOB:=zh hob;have HO:=zh hown;have HVL:=zh hvl;obtain⟨g0,g1,g2,g3,gf⟩:=Za0 HB1J.o;clear hch hMj hst hB2 hB1 hsj hob hown hvl;by_cases hlt:j<l.length
   ·obtain⟨rfl,hAb⟩:=HA.o (by omega);obtain⟨sa,sc,c0,c1,c2,c3,hr⟩:=ZaG HE.o hAb (HCJ.o.keeps fun b _ h=>(HAM.o b h).2) hlt;have HR:=zh hr;have lb:b<wr.heap.size:=World.block_lt_of_cell? wr _ c0;clear hr;try clear HB0
    try clear HB1 HB2 HCH HST1
    try clear x0 x1 x2 x3 xf z0 z1 z2 z3 zf hcs
    go_wp2_with fail;generalize hW:wr.alloc (.cells #[.int .i64 l[j].kind,.int .i64 l[j].n,.string l[j].s,.slice sa l[j].args.length sc] 43)=W0;have hW1:W0.drew.cell? ⟨w.heap.size+1+1,3,none⟩=some (.slice va j vc):=by subst hW;exact(Keeps.alloc (fun _=>True) _ _).cell trivial g3
    obtain⟨hx0,hx1,hx2,hx3, -⟩:=Za0 (show W0.drew.heap[wr.heap.size]?=_ by subst hW;exact Zao _ _);have hxw:W0.drew.cell? ⟨bw,0,none⟩=some (.func (.func 51) #[] #[.pointer (some ⟨bs,0,none⟩),.pointer (some ⟨bw,0,none⟩)]):=by subst hW;exact(Keeps.alloc (fun _=>True) _ _).cell trivial HSTJ.o.cw
    refine Zav (F:=fun k w'=>(k=1\/k=2\/k=3)->w'.cell? ⟨w.heap.size+1+1,3,none⟩=some (.slice va j vc)/\w'.cell? ⟨wr.heap.size,0,none⟩=some (.int .i64 l[j].kind)/\w'.cell? ⟨wr.heap.size,1,none⟩=some (.int .i64 l[j].n)/\w'.cell? ⟨wr.heap.size,2,none⟩=some (.string l[j].s)/\w'.cell? ⟨wr.heap.size,3,none⟩=some (.slice sa l[j].args.length sc)/\w'.cell? ⟨bw,0,none⟩=some (.func (.func 51) #[] #[.pointer (some ⟨bs,0,none⟩),.pointer (some ⟨bw,0,none⟩)])) (by kernel_rfl) ?_;refine ZaE (i:=0) (v:=?_) rfl (Or.inl ⟨by rfl,?_⟩) (fun _=>⟨hW1,hx0,hx1,hx2,hx3,hxw⟩) ?_;rotate_left;·(intro w' hw;clear hw;go_simp<;>with_reducible rfl)
    try simp only[zP]
    refine ZaE (i:=1) (v:=?_) rfl (Or.inl ⟨by rfl,?_⟩) (fun _=>⟨hW1,hx0,hx1,hx2,hx3,hxw⟩) ?_;rotate_left;·(intro w' hw;obtain⟨q0,q1,q2,q3,q4,q5⟩:=hw (by omega);go_simp<;>with_reducible rfl)
    try simp only[zP]
    refine ZaE (i:=2) (v:=?_) rfl (Or.inl ⟨by rfl,?_⟩) (fun _=>⟨hW1,hx0,hx1,hx2,hx3,hxw⟩) ?_;rotate_left;·(intro w' hw;obtain⟨q0,q1,q2,q3,q4,q5⟩:=hw (by omega);go_simp<;>with_reducible rfl)
    try simp only[zP]
    refine ZaE (i:=3) (v:=?_) rfl (Or.inl ⟨by rfl,?_⟩) (fun _=>⟨hW1,hx0,hx1,hx2,hx3,hxw⟩) ?_;rotate_left;·(intro w' hw;obtain⟨q0,q1,q2,q3,q4,q5⟩:=hw (by omega);go_simp<;>with_reducible rfl)
    try simp only[zP]
    refine Zab (i:=4) (by kernel_rfl) (Zad rfl (by rfl) ?_);go_simp;have hKd:Keeps (fun _=>True) wr W0.drew:=by subst hW;exact(Keeps.alloc _ _ _).trans (Keeps.drew _ _)
    have hsW:W0.heap.size=wr.heap.size+1:=by subst hW;simp
    have hrd:Tm.rep A W0.drew l[j] _:=Tm.rep_lasts.1 _ _ _ _ _ HR.o (hKd.mono fun _ _ _=>trivial);have hnd:(Tm.renS Zat sj l[j]).2.length<=4194303:=by have h1:=Tm.renSL_part l st1 j hlt;have h3:=HND.o;simp only[Tm.renS]at h3;rw[<-HM.o]at h3;dsimp only at h3;rw[HSJ.o];omega
    have hMA:∀b,A b->b<W0.drew.heap.size/\¬Mj b:=fun b hb=>by
     have h1:=HAM.o b hb;refine⟨by simp only[World.size_drew];omega,fun h2=>?_⟩;rcases HMJ.o b h2 with h3|h3;·exact h1.2 h3
     ·omega
    refine(IH.out _ (List.getElem_mem hlt) sj Mj A _ _ (HI.o.keeps _ _ _ _ HSTJ.o (hKd.mono fun _ _ _=>trivial)) hnd hrd hMA).mono ?_;rintro e w1⟨us,M2,rfl,hch1,hM2,hst2,hr⟩;obtain⟨sa',sc',rfl, -⟩:=Tm.rep4 hr;have hsz:=hch1.size;simp only[World.size_drew]at hsz hM2 hr;have hlt2:=HO.o.lt;have hM2l:=HI.o.lt _ _ _ hst2;have hMM:∀b,M2 b->M b\/w.heap.size+3<=b:=fun b hb=>by
     rcases hM2 b hb with h1|h1;·exact HMJ.o b h1
     ·exact .inr (by omega)
    have hn2:∀b,b<W0.heap.size->¬Mj b->¬M2 b:=fun b hb hn h=>by
     rcases hM2 b h with h1|h1;·exact hn h1
     ·omega
    have hHO:OwnR W0.drew _ _ _ _ _ _ _:=HO.o.keeps Tm.rep_lasts hKd (fun _ _=>trivial) (fun _ _=>trivial);have hHO2:OwnR w1 _ _ _ _ (fun b=>w.heap.size+3<=b/\¬M2 b) _ _:=((hHO.mono (A':=fun b=>w.heap.size+3<=b/\¬M2 b/\¬Mj b) Tm.rep_lasts (fun b hb hb'=>⟨hb'.1,hn2 b hb hb'.2,hb'.2⟩)).keeps (B:=fun b=>¬Mj b) Tm.rep_lasts (hch1.keeps fun _ _ h=>h) (fun _ h=>h.2.2) HOB.o).mono Tm.rep_lasts (fun b _ hb=>⟨hb.1,hb.2.1⟩);have HO1:=zh hHO2;have HOB2:Hd (∀b,Zai (.slice va j vc)=some b->¬M2 b):=fun b hb=>hn2 b (by have :=(hlt2 b hb).2;omega) (HOB.o b hb);have HN:=zh (show Tm.rep (fun b=>(w.heap.size+3<=b/\¬M2 b)/\Zai (.slice va j vc)≠some b) w1 _ _ from Tm.rep_lasts.2.1 _ _ _ _ _ hr fun b _ hb=>⟨⟨by omega,hb.2⟩,fun e=>by have :=(hlt2 b e).2;omega⟩);have HL:=zh (show(Tm.renSL Zat st1 (l.take j)).1.length<4194304/\w.heap.size+3<=w1.heap.size by rw[HVL.o];omega);have hnb:∀b,b<w.heap.size+3->w.heap.size<=b->¬Mj b:=fun b h1 h2 h3=>by
     rcases HMJ.o b h3 with h4|h4;·have :=HMlt.o b h4;omega
     ·omega
    have HCH2:Hd (Ch M w w1):=zh (((show Ch M w W0.drew by subst hW;exact(HCJ.o.alloc _).drew)).trans hch1 (fun b hb=>by rcases HMJ.o b hb with h|h;exact .inl h;exact .inr (by omega)));have hkj:=hch1.keeps (A:=fun b=>¬Mj b) (fun _ _ h=>h);have nwr:¬Mj wr.heap.size:=fun h=>by have :=HI.o.lt _ _ _ HSTJ.o _ h;omega
    have HQ:=zh (show w1.cell? ⟨w.heap.size+1+1,3,none⟩=some (.slice va j vc)/\w1.cell? ⟨wr.heap.size,0,none⟩=some (.int .i64 l[j].kind)/\w1.cell? ⟨wr.heap.size,1,none⟩=some (.int .i64 l[j].n)/\w1.cell? ⟨wr.heap.size,2,none⟩=some (.string l[j].s)/\w1.cell? ⟨wr.heap.size,3,none⟩=some (.slice sa l[j].args.length sc)/\w1.cell? ⟨bw,0,none⟩=some (.func (.func 51) #[] #[.pointer (some ⟨bs,0,none⟩),.pointer (some ⟨bw,0,none⟩)])from⟨hkj.cell (hnb _ (by omega) (by omega)) hW1,hkj.cell nwr hx0,hkj.cell nwr hx1,hkj.cell nwr hx2,hkj.cell nwr hx3,hst2.cw⟩);have HB1':=zh (show w1.heap[w.heap.size+1+1]?=_ from Zaj (w:=W0.drew) (by subst hW;exact Zaf HB1J.o _) hkj (hnb _ (by omega) (by omega)));have HB2':=zh (show w1.heap[w.heap.size+1]?=_ from Zaj (w:=W0.drew) (by subst hW;exact Zaf HB2J.o _) hkj (hnb _ (by omega) (by omega)));have HST2:=zh hst2;have HM2l:=zh hM2l;have HMM:=zh hMM;clear hrd hr hch1 hHO hHO2 hst2 hM2l hMM hn2 hnb hkj nwr hM2 hMA hnd hKd;refine⟨fun _ _ _ _=>HQ.o,?_⟩;refine Zab (i:=5) (by kernel_rfl) (Zad rfl (by rfl) ?_);go_simp;refine⟨fun _ _ _ _=>?_,?_⟩;·obtain⟨q0,q1,q2,q3,q4,q5⟩:=HQ.o;have ka:=Keeps.alloc (fun _=>True) w1 (.cells #[.int .i64 (Tm.renS Zat sj l[j]).1.kind,.int .i64 (Tm.renS Zat sj l[j]).1.n,.string (Tm.renS Zat sj l[j]).1.s,.slice sa' (Tm.renS Zat sj l[j]).1.args.length sc'] 43);exact⟨ka.cell trivial q0,ka.cell trivial q1,ka.cell trivial q2,ka.cell trivial q3,ka.cell trivial q4,ka.cell trivial q5⟩
    refine Zab (i:=6) (by kernel_rfl) (Zad rfl (by rfl) ?_);refine ZbI (.tmp 25) (.tmp 29) 23 rfl (w.heap.size+3) 43 4 56 ZdN Tm.rep_lasts _ _ rfl HO1.o (Tm.renS Zat sj l[j]).1 [_,_,_,_] rfl rfl HN.o HL.o ?_;intro v2 w2 hown2 hgrew;have hk2:=hgrew.keeps (A:=fun b=>Zai (.slice va j vc)≠some b) (fun _ h=>h);have hka:=(Keeps.alloc (fun b=>Zai (.slice va j vc)≠some b) w1 (.cells #[.int .i64 (Tm.renS Zat sj l[j]).1.kind,.int .i64 (Tm.renS Zat sj l[j]).1.n,.string (Tm.renS Zat sj l[j]).1.s,.slice sa' (Tm.renS Zat sj l[j]).1.args.length sc'] 43)).trans hk2;have n1:Zai (.slice va j vc)≠some (w.heap.size+1+1):=fun e=>by have :=(hlt2 _ e).1;omega
    have n2:Zai (.slice va j vc)≠some wr.heap.size:=fun e=>by have :=(hlt2 _ e).2;omega
    have n3:Zai (.slice va j vc)≠some (w.heap.size+1):=fun e=>by have :=(hlt2 _ e).1;omega
    have n4:Zai (.slice va j vc)≠some bw:=fun e=>HOB.o bw e HSTJ.o.mw;have HB12:=zh (Zaj HB1'.o hka n1);have HB22:=zh (Zaj HB2'.o hka n3);have HCH3:=zh (hgrew.ch (HCH2.o.alloc (.cells #[.int .i64 (Tm.renS Zat sj l[j]).1.kind,.int .i64 (Tm.renS Zat sj l[j]).1.n,.string (Tm.renS Zat sj l[j]).1.s,.slice sa' (Tm.renS Zat sj l[j]).1.args.length sc'] 43)) (fun b hb=> .inr (by have :=(hlt2 b hb).1;omega)));have HST3:=zh (HI.o.keeps _ _ _ _ HST2.o (hka.mono fun b _ hb e=>HOB2.o b e hb));have HOB3:Hd (∀b,Zai v2=some b->¬M2 b):=fun b hb hm=>by
     have h1:=hgrew.block;rcases h1 with h1|h1;·exact HOB2.o b (h1.symm.trans hb) hm
     ·have h2:=h1 b hb;have h3:=HM2l.o b hm;simp only[World.size_alloc]at h2;omega
    obtain⟨va2,vc2,hv2,hvc2⟩:=hown2.val;rw[show((Tm.renSL Zat st1 (l.take j)).1++[(Tm.renS Zat sj l[j]).1]).length=j+1 by rw[List.length_append,HVL.o];rfl]at hv2;subst hv2;have hz2:=hgrew.size;have HO2:=zh hown2;simp only[World.size_alloc]at hz2;obtain⟨y0,y1,y2,y3,yf⟩:=Za0 HB12.o;refine⟨fun _ _ _ _=>?_,?_⟩;·obtain⟨q0,q1,q2,q3,q4,q5⟩:=HQ.o;exact⟨hka.cell n1 q0,hka.cell n2 q1,hka.cell n2 q2,hka.cell n2 q3,hka.cell n2 q4,hka.cell n4 q5⟩
    clear hown2 hka hk2;simp only[zP];refine ZaE (i:=7) (v:=?_) rfl (Or.inl ⟨by rfl,?_⟩) (fun h=>by omega) ?_;rotate_left;·(intro w' hw;clear hw;go_simp<;>with_reducible rfl)
    try simp only[zP]
    refine Zab (i:=8) (by kernel_rfl) (Zad rfl (by rfl) ?_);go_simp;refine⟨fun k0 hk0 _ h12=>?_,Zan (by kernel_rfl) ?_ _⟩
    ·rcases h12 with rfl|rfl|rfl;·exact absurd (show waits _ 8 1=true by kernel_rfl) (by rw[hk0];decide)
     ·exact absurd (show waits _ 8 2=true by kernel_rfl) (by rw[hk0];decide)
     ·exact absurd (show waits _ 8 3=true by kernel_rfl) (by rw[hk0];decide)
    have HB3:=zh (Zal HB12.o 3 (.slice va2 (j+1) vc2));have hz3:(w2.setCell ⟨w.heap.size+1+1,3,none⟩ (.slice va2 (j+1) vc2)).heap.size=w2.heap.size:=by simp
    have HK3:=zh (Keeps.setCell (fun b=>b≠w.heap.size+1+1) w2 ⟨w.heap.size+1+1,3,none⟩ (.slice va2 (j+1) vc2) (by simp));clear hgrew;go_wp2_with fail;go_roundw;case rel=>
     have hnw:∀b,M2 b->b≠w.heap.size+1+1:=fun b hb e=>by
      rcases HMM.o b hb with h|h;·have :=HMlt.o b h;omega
      ·omega
     refine⟨j+1,_,_,M2,by omega,by go_num,by omega,HCH3.o.setCell (.inr (by simp<;>omega)) _,HMM.o,HI.o.keeps _ _ _ _ HST3.o (HK3.o.mono fun b _ hb=>hnw b hb),Zaj HB22.o HK3.o (by omega),HB3.o,?_,HOB3.o,?_⟩;·rw[List.take_succ_eq_append_getElem hlt,Tm.renSL_snoc,<-HSJ.o]
     ·rw[List.take_succ_eq_append_getElem hlt,Tm.renSL_snoc,<-HSJ.o];exact HO2.o.keeps Tm.rep_lasts HK3.o (fun b hb=>by omega) (fun b hb=>by have :=(HO2.o.lt b hb).1;omega)
    case measure=>simp[intOf];omega
   ·have :j=l.length:=by omega
    subst this;try clear z0 z1 z2 z3 zf
    obtain⟨z0,z1,z2,z3,zf⟩:=Za0 HB2J.o;try clear hcs
    have hcs:=Zak;try clear HB0
    try clear HB1 HB2 HCH HST1
    try clear x0 x1 x2 x3 xf
    go_wp2_with fail;refine bodyPost_ret (v:= .agg #[.int .i64 k,.int .i64 m,.string s,.slice va l.length vc]) (by simp[results,Try.results51,go_sem,hcs,z0,z1,z2,z3]) rfl ⟨[_,_,_,_],Mj,rfl,?_,fun b hb=>?_,?_,?_⟩;·refine Ch.setCell (Ch.setCell (Ch.setCell (Ch.setCell HCJ.o ?_ _) ?_ _) ?_ _) ?_ _<;>simp
    ·rcases HMJ.o b hb with h|h;·exact .inl h
     ·exact .inr (by omega)
    ·have hs2:=HSJ.o;rw[List.take_length]at hs2;have h2:(Tm.renS Zat st (.mk k n s l)).2=sj:=by rw[Tm.renS,<-HM.o];exact hs2.symm
     rw[h2];have hnw:∀b,Mj b->b≠w.heap.size+1:=fun b hb e=>by
      rcases HMJ.o b hb with h|h;·have :=HMlt.o b h;omega
      ·omega
     refine HI.o.keeps _ _ _ _ HSTJ.o (Keeps.trans (Keeps.trans (Keeps.trans (Keeps.setCell _ _ _ _ ?_) (Keeps.setCell _ _ _ _ ?_)) (Keeps.setCell _ _ _ _ ?_)) (Keeps.setCell _ _ _ _ ?_))<;>exact fun h=>hnw _ h rfl
    ·have hO:=HO.o;rw[List.take_length]at hO;have hsl:=(hO.mono (A':=fun b=>w.heap.size+3<=b/\¬Mj b) Tm.rep_lasts (fun b _ hb=>hb));have hsl2:SlR 4 Tm.rep (fun b=>w.heap.size+3<=b/\¬Mj b) wr (Tm.renSL Zat st1 l).1 (.slice va l.length vc):=hO.sl' Tm.rep_lasts (by rw[Tm.renSL_length];exact hlb) (fun b hb=>⟨by have :=(HO.o.lt b hb).1;omega,HOB.o b hb⟩);rw[Tm.renS,<-HM.o];rw[Tm.rep_iff];refine⟨hk,HM64.o,hs,_,rfl,?_⟩;refine SlR.mono Tm.rep_lasts (by omega) (SlR.keeps Tm.rep_lasts hsl2 ?_) (fun b _ hb=>⟨by omega,hb.2⟩);refine Keeps.trans (Keeps.trans (Keeps.trans (Keeps.setCell _ _ _ _ ?_) (Keeps.setCell _ _ _ _ ?_)) (Keeps.setCell _ _ _ _ ?_)) (Keeps.setCell _ _ _ _ ?_)<;>simp
 ·have HB1:=zh (Zj7 w (.cells #[.int .i64 k,.int .i64 n,.string s,.slice a l.length cap] 43) (.cells #[.int .i64 0,.int .i64 0,.string ByteArray.empty,.slice none 0 0] 43) (.cells #[.int .i64 k,.int .i64 n,.string s,.slice none 0 0] 43)).2.2;have HB2:=zh (Zj7 w (.cells #[.int .i64 k,.int .i64 n,.string s,.slice a l.length cap] 43) (.cells #[.int .i64 0,.int .i64 0,.string ByteArray.empty,.slice none 0 0] 43) (.cells #[.int .i64 k,.int .i64 n,.string s,.slice none 0 0] 43)).2.1;have HMN:m=n/\st1=st:=by have :=HM.o;rw[Tm.num,if_neg HE'.o]at this;simpa using this
  obtain⟨rfl,rfl⟩:=HMN;have HM64:=zh hn;have HCH:=zh ((((Ch.refl M w).alloc (.cells #[.int .i64 k,.int .i64 m,.string s,.slice a l.length cap] 43)).alloc (.cells #[.int .i64 0,.int .i64 0,.string ByteArray.empty,.slice none 0 0] 43)).alloc (.cells #[.int .i64 k,.int .i64 m,.string s,.slice none 0 0] 43));have HST1:=zh (HI.o.keeps _ _ _ (((w.alloc (.cells #[.int .i64 k,.int .i64 m,.string s,.slice a l.length cap] 43)).alloc (.cells #[.int .i64 0,.int .i64 0,.string ByteArray.empty,.slice none 0 0] 43)).alloc (.cells #[.int .i64 k,.int .i64 m,.string s,.slice none 0 0] 43)) HST.o (((Keeps.alloc _ _ _).trans (Keeps.alloc _ _ _)).trans (Keeps.alloc _ _ _)));have HS4:Hd (st1.length<=st1.length+1):=Nat.le_succ _;clear HST;go_loopw[20](fun i wr=>∃(j:Nat)(v:Value)(sj:List Int)(Mj:Nat->Prop),j<=l.length/\i= .int .i64 j/\w.heap.size+3<=wr.heap.size/\Ch M w wr/\(∀b,Mj b->M b\/w.heap.size+3<=b)/\TdInv pb bs bw sj Mj wr/\wr.heap[w.heap.size+1]?=some (.cells #[.int .i64 0,.int .i64 0,.string ByteArray.empty,.slice none 0 0] 43 (0,0))/\wr.heap[w.heap.size+1+1]?=some (.cells #[.int .i64 k,.int .i64 m,.string s,v] 43 (0,0))/\sj=(Tm.renSL Zat st1 (l.take j)).2/\(∀b,Zai v=some b->¬Mj b)/\OwnR wr (w.heap.size+3) 43 4 Tm.rep (fun b=>w.heap.size+3<=b/\¬Mj b) (Tm.renSL Zat st1 (l.take j)).1 v)(fun i _=>l.length - (intOf i).toNat);case atStart=>exact⟨0,.slice none 0 0,st1,M,Nat.zero_le _,rfl,by simp,HCH.o,fun b hb=> .inl hb,HST1.o,HB2.o,HB1.o,by simp[Tm.renSL],by simp[Zai],by simpa[Tm.renSL]using OwnR.nil ..⟩
  case round=>
   obtain⟨j,v,sj,Mj,hj,rfl,hz,hch,hMj,hst,hB2,hB1,hsj,hob,hown⟩:=hrel;have hvl:(Tm.renSL Zat st1 (l.take j)).1.length=j:=by rw[Tm.renSL_length];simp;omega
   obtain⟨va,vc,hv,hvc⟩:=hown.val;rw[hvl]at hv;subst hv;have HCJ:=zh hch;have HB1J:=zh hB1;have HB2J:=zh hB2;have HMJ:=zh hMj;have HSTJ:=zh hst;have HSJ:=zh hsj;have HOB:=zh hob;have HO:=zh hown;have HVL:=zh hvl;obtain⟨g0,g1,g2,g3,gf⟩:=Za0 HB1J.o;clear hch hMj hst hB2 hB1 hsj hob hown hvl;by_cases hlt:j<l.length
   ·obtain⟨rfl,hAb⟩:=HA.o (by omega);obtain⟨sa,sc,c0,c1,c2,c3,hr⟩:=ZaG HE.o hAb (HCJ.o.keeps fun b _ h=>(HAM.o b h).2) hlt;have HR:=zh hr;have lb:b<wr.heap.size:=World.block_lt_of_cell? wr _ c0;clear hr;try clear HB0
    try clear HB1 HB2 HCH HST1
    try clear x0 x1 x2 x3 xf z0 z1 z2 z3 zf hcs
    go_wp2_with fail;generalize hW:wr.alloc (.cells #[.int .i64 l[j].kind,.int .i64 l[j].n,.string l[j].s,.slice sa l[j].args.length sc] 43)=W0;have hW1:W0.drew.cell? ⟨w.heap.size+1+1,3,none⟩=some (.slice va j vc):=by subst hW;exact(Keeps.alloc (fun _=>True) _ _).cell trivial g3
    obtain⟨hx0,hx1,hx2,hx3, -⟩:=Za0 (show W0.drew.heap[wr.heap.size]?=_ by subst hW;exact Zao _ _);have hxw:W0.drew.cell? ⟨bw,0,none⟩=some (.func (.func 51) #[] #[.pointer (some ⟨bs,0,none⟩),.pointer (some ⟨bw,0,none⟩)]):=by subst hW;exact(Keeps.alloc (fun _=>True) _ _).cell trivial HSTJ.o.cw
    refine Zav (F:=fun k w'=>(k=1\/k=2\/k=3)->w'.cell? ⟨w.heap.size+1+1,3,none⟩=some (.slice va j vc)/\w'.cell? ⟨wr.heap.size,0,none⟩=some (.int .i64 l[j].kind)/\w'.cell? ⟨wr.heap.size,1,none⟩=some (.int .i64 l[j].n)/\w'.cell? ⟨wr.heap.size,2,none⟩=some (.string l[j].s)/\w'.cell? ⟨wr.heap.size,3,none⟩=some (.slice sa l[j].args.length sc)/\w'.cell? ⟨bw,0,none⟩=some (.func (.func 51) #[] #[.pointer (some ⟨bs,0,none⟩),.pointer (some ⟨bw,0,none⟩)])) (by kernel_rfl) ?_;refine ZaE (i:=0) (v:=?_) rfl (Or.inl ⟨by rfl,?_⟩) (fun _=>⟨hW1,hx0,hx1,hx2,hx3,hxw⟩) ?_;rotate_left;·(intro w' hw;clear hw;go_simp<;>with_reducible rfl)
    try simp only[zP]
    refine ZaE (i:=1) (v:=?_) rfl (Or.inl ⟨by rfl,?_⟩) (fun _=>⟨hW1,hx0,hx1,hx2,hx3,hxw⟩) ?_;rotate_left;·(intro w' hw;obtain⟨q0,q1,q2,q3,q4,q5⟩:=hw (by omega);go_simp<;>with_reducible rfl)
    try simp only[zP]
    refine ZaE (i:=2) (v:=?_) rfl (Or.inl ⟨by rfl,?_⟩) (fun _=>⟨hW1,hx0,hx1,hx2,hx3,hxw⟩) ?_;rotate_left;·(intro w' hw;obtain⟨q0,q1,q2,q3,q4,q5⟩:=hw (by omega);go_simp<;>with_reducible rfl)
    try simp only[zP]
    refine ZaE (i:=3) (v:=?_) rfl (Or.inl ⟨by rfl,?_⟩) (fun _=>⟨hW1,hx0,hx1,hx2,hx3,hxw⟩) ?_;rotate_left;·(intro w' hw;obtain⟨q0,q1,q2,q3,q4,q5⟩:=hw (by omega);go_simp<;>with_reducible rfl)
    try simp only[zP]
    refine Zab (i:=4) (by kernel_rfl) (Zad rfl (by rfl) ?_);go_simp;have hKd:Keeps (fun _=>True) wr W0.drew:=by subst hW;exact(Keeps.alloc _ _ _).trans (Keeps.drew _ _)
    have hsW:W0.heap.size=wr.heap.size+1:=by subst hW;simp
    have hrd:Tm.rep A W0.drew l[j] _:=Tm.rep_lasts.1 _ _ _ _ _ HR.o (hKd.mono fun _ _ _=>trivial);have hnd:(Tm.renS Zat sj l[j]).2.length<=4194303:=by have h1:=Tm.renSL_part l st1 j hlt;have h3:=HND.o;simp only[Tm.renS]at h3;rw[<-HM.o]at h3;dsimp only at h3;rw[HSJ.o];omega
    have hMA:∀b,A b->b<W0.drew.heap.size/\¬Mj b:=fun b hb=>by
     have h1:=HAM.o b hb;refine⟨by simp only[World.size_drew];omega,fun h2=>?_⟩;rcases HMJ.o b h2 with h3|h3;·exact h1.2 h3
     ·omega
    refine(IH.out _ (List.getElem_mem hlt) sj Mj A _ _ (HI.o.keeps _ _ _ _ HSTJ.o (hKd.mono fun _ _ _=>trivial)) hnd hrd hMA).mono ?_;rintro e w1⟨us,M2,rfl,hch1,hM2,hst2,hr⟩;obtain⟨sa',sc',rfl, -⟩:=Tm.rep4 hr;have hsz:=hch1.size;simp only[World.size_drew]at hsz hM2 hr;have hlt2:=HO.o.lt;have hM2l:=HI.o.lt _ _ _ hst2;have hMM:∀b,M2 b->M b\/w.heap.size+3<=b:=fun b hb=>by
     rcases hM2 b hb with h1|h1;·exact HMJ.o b h1
     ·exact .inr (by omega)
    have hn2:∀b,b<W0.heap.size->¬Mj b->¬M2 b:=fun b hb hn h=>by
     rcases hM2 b h with h1|h1;·exact hn h1
     ·omega
    have hHO:OwnR W0.drew _ _ _ _ _ _ _:=HO.o.keeps Tm.rep_lasts hKd (fun _ _=>trivial) (fun _ _=>trivial);have hHO2:OwnR w1 _ _ _ _ (fun b=>w.heap.size+3<=b/\¬M2 b) _ _:=((hHO.mono (A':=fun b=>w.heap.size+3<=b/\¬M2 b/\¬Mj b) Tm.rep_lasts (fun b hb hb'=>⟨hb'.1,hn2 b hb hb'.2,hb'.2⟩)).keeps (B:=fun b=>¬Mj b) Tm.rep_lasts (hch1.keeps fun _ _ h=>h) (fun _ h=>h.2.2) HOB.o).mono Tm.rep_lasts (fun b _ hb=>⟨hb.1,hb.2.1⟩);have HO1:=zh hHO2;have HOB2:Hd (∀b,Zai (.slice va j vc)=some b->¬M2 b):=fun b hb=>hn2 b (by have :=(hlt2 b hb).2;omega) (HOB.o b hb);have HN:=zh (show Tm.rep (fun b=>(w.heap.size+3<=b/\¬M2 b)/\Zai (.slice va j vc)≠some b) w1 _ _ from Tm.rep_lasts.2.1 _ _ _ _ _ hr fun b _ hb=>⟨⟨by omega,hb.2⟩,fun e=>by have :=(hlt2 b e).2;omega⟩);have HL:=zh (show(Tm.renSL Zat st1 (l.take j)).1.length<4194304/\w.heap.size+3<=w1.heap.size by rw[HVL.o];omega);have hnb:∀b,b<w.heap.size+3->w.heap.size<=b->¬Mj b:=fun b h1 h2 h3=>by
     rcases HMJ.o b h3 with h4|h4;·have :=HMlt.o b h4;omega
     ·omega
    have HCH2:Hd (Ch M w w1):=zh (((show Ch M w W0.drew by subst hW;exact(HCJ.o.alloc _).drew)).trans hch1 (fun b hb=>by rcases HMJ.o b hb with h|h;exact .inl h;exact .inr (by omega)));have hkj:=hch1.keeps (A:=fun b=>¬Mj b) (fun _ _ h=>h);have nwr:¬Mj wr.heap.size:=fun h=>by have :=HI.o.lt _ _ _ HSTJ.o _ h;omega
    have HQ:=zh (show w1.cell? ⟨w.heap.size+1+1,3,none⟩=some (.slice va j vc)/\w1.cell? ⟨wr.heap.size,0,none⟩=some (.int .i64 l[j].kind)/\w1.cell? ⟨wr.heap.size,1,none⟩=some (.int .i64 l[j].n)/\w1.cell? ⟨wr.heap.size,2,none⟩=some (.string l[j].s)/\w1.cell? ⟨wr.heap.size,3,none⟩=some (.slice sa l[j].args.length sc)/\w1.cell? ⟨bw,0,none⟩=some (.func (.func 51) #[] #[.pointer (some ⟨bs,0,none⟩),.pointer (some ⟨bw,0,none⟩)])from⟨hkj.cell (hnb _ (by omega) (by omega)) hW1,hkj.cell nwr hx0,hkj.cell nwr hx1,hkj.cell nwr hx2,hkj.cell nwr hx3,hst2.cw⟩);have HB1':=zh (show w1.heap[w.heap.size+1+1]?=_ from Zaj (w:=W0.drew) (by subst hW;exact Zaf HB1J.o _) hkj (hnb _ (by omega) (by omega)));have HB2':=zh (show w1.heap[w.heap.size+1]?=_ from Zaj (w:=W0.drew) (by subst hW;exact Zaf HB2J.o _) hkj (hnb _ (by omega) (by omega)));have HST2:=zh hst2;have HM2l:=zh hM2l;have HMM:=zh hMM;clear hrd hr hch1 hHO hHO2 hst2 hM2l hMM hn2 hnb hkj nwr hM2 hMA hnd hKd;refine⟨fun _ _ _ _=>HQ.o,?_⟩;refine Zab (i:=5) (by kernel_rfl) (Zad rfl (by rfl) ?_);go_simp;refine⟨fun _ _ _ _=>?_,?_⟩;·obtain⟨q0,q1,q2,q3,q4,q5⟩:=HQ.o;have ka:=Keeps.alloc (fun _=>True) w1 (.cells #[.int .i64 (Tm.renS Zat sj l[j]).1.kind,.int .i64 (Tm.renS Zat sj l[j]).1.n,.string (Tm.renS Zat sj l[j]).1.s,.slice sa' (Tm.renS Zat sj l[j]).1.args.length sc'] 43);exact⟨ka.cell trivial q0,ka.cell trivial q1,ka.cell trivial q2,ka.cell trivial q3,ka.cell trivial q4,ka.cell trivial q5⟩
    refine Zab (i:=6) (by kernel_rfl) (Zad rfl (by rfl) ?_);refine ZbI (.tmp 25) (.tmp 29) 23 rfl (w.heap.size+3) 43 4 56 ZdN Tm.rep_lasts _ _ rfl HO1.o (Tm.renS Zat sj l[j]).1 [_,_,_,_] rfl rfl HN.o HL.o ?_;intro v2 w2 hown2 hgrew;have hk2:=hgrew.keeps (A:=fun b=>Zai (.slice va j vc)≠some b) (fun _ h=>h);have hka:=(Keeps.alloc (fun b=>Zai (.slice va j vc)≠some b) w1 (.cells #[.int .i64 (Tm.renS Zat sj l[j]).1.kind,.int .i64 (Tm.renS Zat sj l[j]).1.n,.string (Tm.renS Zat sj l[j]).1.s,.slice sa' (Tm.renS Zat sj l[j]).1.args.length sc'] 43)).trans hk2;have n1:Zai (.slice va j vc)≠some (w.heap.size+1+1):=fun e=>by have :=(hlt2 _ e).1;omega
    have n2:Zai (.slice va j vc)≠some wr.heap.size:=fun e=>by have :=(hlt2 _ e).2;omega
    have n3:Zai (.slice va j vc)≠some (w.heap.size+1):=fun e=>by have :=(hlt2 _ e).1;omega
    have n4:Zai (.slice va j vc)≠some bw:=fun e=>HOB.o bw e HSTJ.o.mw;have HB12:=zh (Zaj HB1'.o hka n1);have HB22:=zh (Zaj HB2'.o hka n3);have HCH3:=zh (hgrew.ch (HCH2.o.alloc (.cells #[.int .i64 (Tm.renS Zat sj l[j]).1.kind,.int .i64 (Tm.renS Zat sj l[j]).1.n,.string (Tm.renS Zat sj l[j]).1.s,.slice sa' (Tm.renS Zat sj l[j]).1.args.length sc'] 43)) (fun b hb=> .inr (by have :=(hlt2 b hb).1;omega)));have HST3:=zh (HI.o.keeps _ _ _ _ HST2.o (hka.mono fun b _ hb e=>HOB2.o b e hb));have HOB3:Hd (∀b,Zai v2=some b->¬M2 b):=fun b hb hm=>by
     have h1:=hgrew.block;rcases h1 with h1|h1;·exact HOB2.o b (h1.symm.trans hb) hm
     ·have h2:=h1 b hb;have h3:=HM2l.o b hm;simp only[World.size_alloc]at h2;omega
    obtain⟨va2,vc2,hv2,hvc2⟩:=hown2.val;rw[show((Tm.renSL Zat st1 (l.take j)).1++[(Tm.renS Zat sj l[j]).1]).length=j+1 by rw[List.length_append,HVL.o];rfl]at hv2;subst hv2;have hz2:=hgrew.size;have HO2:=zh hown2;simp only[World.size_alloc]at hz2;obtain⟨y0,y1,y2,y3,yf⟩:=Za0 HB12.o;refine⟨fun _ _ _ _=>?_,?_⟩;·obtain⟨q0,q1,q2,q3,q4,q5⟩:=HQ.o;exact⟨hka.cell n1 q0,hka.cell n2 q1,hka.cell n2 q2,hka.cell n2 q3,hka.cell n2 q4,hka.cell n4 q5⟩
    clear hown2 hka hk2;simp only[zP];refine ZaE (i:=7) (v:=?_) rfl (Or.inl ⟨by rfl,?_⟩) (fun h=>by omega) ?_;rotate_left;·(intro w' hw;clear hw;go_simp<;>with_reducible rfl)
    try simp only[zP]
    refine Zab (i:=8) (by kernel_rfl) (Zad rfl (by rfl) ?_);go_simp;refine⟨fun k0 hk0 _ h12=>?_,Zan (by kernel_rfl) ?_ _⟩
    ·rcases h12 with rfl|rfl|rfl;·exact absurd (show waits _ 8 1=true by kernel_rfl) (by rw[hk0];decide)
     ·exact absurd (show waits _ 8 2=true by kernel_rfl) (by rw[hk0];decide)
     ·exact absurd (show waits _ 8 3=true by kernel_rfl) (by rw[hk0];decide)
    have HB3:=zh (Zal HB12.o 3 (.slice va2 (j+1) vc2));have hz3:(w2.setCell ⟨w.heap.size+1+1,3,none⟩ (.slice va2 (j+1) vc2)).heap.size=w2.heap.size:=by simp
    have HK3:=zh (Keeps.setCell (fun b=>b≠w.heap.size+1+1) w2 ⟨w.heap.size+1+1,3,none⟩ (.slice va2 (j+1) vc2) (by simp));clear hgrew;go_wp2_with fail;go_roundw;case rel=>
     have hnw:∀b,M2 b->b≠w.heap.size+1+1:=fun b hb e=>by
      rcases HMM.o b hb with h|h;·have :=HMlt.o b h;omega
      ·omega
     refine⟨j+1,_,_,M2,by omega,by go_num,by omega,HCH3.o.setCell (.inr (by simp<;>omega)) _,HMM.o,HI.o.keeps _ _ _ _ HST3.o (HK3.o.mono fun b _ hb=>hnw b hb),Zaj HB22.o HK3.o (by omega),HB3.o,?_,HOB3.o,?_⟩;·rw[List.take_succ_eq_append_getElem hlt,Tm.renSL_snoc,<-HSJ.o]
     ·rw[List.take_succ_eq_append_getElem hlt,Tm.renSL_snoc,<-HSJ.o];exact HO2.o.keeps Tm.rep_lasts HK3.o (fun b hb=>by omega) (fun b hb=>by have :=(HO2.o.lt b hb).1;omega)
    case measure=>simp[intOf];omega
   ·have :j=l.length:=by omega
    subst this;try clear z0 z1 z2 z3 zf
    obtain⟨z0,z1,z2,z3,zf⟩:=Za0 HB2J.o;try clear hcs
    have hcs:=Zak;try clear HB0
    try clear HB1 HB2 HCH HST1
    try clear x0 x1 x2 x3 xf
    go_wp2_with fail;refine bodyPost_ret (v:= .agg #[.int .i64 k,.int .i64 m,.string s,.slice va l.length vc]) (by simp[results,Try.results51,go_sem,hcs,z0,z1,z2,z3]) rfl ⟨[_,_,_,_],Mj,rfl,?_,fun b hb=>?_,?_,?_⟩;·refine Ch.setCell (Ch.setCell (Ch.setCell (Ch.setCell HCJ.o ?_ _) ?_ _) ?_ _) ?_ _<;>simp
    ·rcases HMJ.o b hb with h|h;·exact .inl h
     ·exact .inr (by omega)
    ·have hs2:=HSJ.o;rw[List.take_length]at hs2;have h2:(Tm.renS Zat st1 (.mk k m s l)).2=sj:=by rw[Tm.renS,<-HM.o];exact hs2.symm
     rw[h2];have hnw:∀b,Mj b->b≠w.heap.size+1:=fun b hb e=>by
      rcases HMJ.o b hb with h|h;·have :=HMlt.o b h;omega
      ·omega
     refine HI.o.keeps _ _ _ _ HSTJ.o (Keeps.trans (Keeps.trans (Keeps.trans (Keeps.setCell _ _ _ _ ?_) (Keeps.setCell _ _ _ _ ?_)) (Keeps.setCell _ _ _ _ ?_)) (Keeps.setCell _ _ _ _ ?_))<;>exact fun h=>hnw _ h rfl
    ·have hO:=HO.o;rw[List.take_length]at hO;have hsl:=(hO.mono (A':=fun b=>w.heap.size+3<=b/\¬Mj b) Tm.rep_lasts (fun b _ hb=>hb));have hsl2:SlR 4 Tm.rep (fun b=>w.heap.size+3<=b/\¬Mj b) wr (Tm.renSL Zat st1 l).1 (.slice va l.length vc):=hO.sl' Tm.rep_lasts (by rw[Tm.renSL_length];exact hlb) (fun b hb=>⟨by have :=(HO.o.lt b hb).1;omega,HOB.o b hb⟩);rw[Tm.renS,<-HM.o];rw[Tm.rep_iff];refine⟨hk,HM64.o,hs,_,rfl,?_⟩;refine SlR.mono Tm.rep_lasts (by omega) (SlR.keeps Tm.rep_lasts hsl2 ?_) (fun b _ hb=>⟨by omega,hb.2⟩);refine Keeps.trans (Keeps.trans (Keeps.trans (Keeps.setCell _ _ _ _ ?_) (Keeps.setCell _ _ _ _ ?_)) (Keeps.setCell _ _ _ _ ?_)) (Keeps.setCell _ _ _ _ ?_)<;>simp
theorem ZlS(pb bs bw:Nat):∀t,Zh6 pb bs bw t:=by intro t;induction t using Tm.induct with|h k n s l ih=>exact ZlR pb bs bw k n s l ih
theorem ZlT(l:List Tm)(hnd:(Tm.renSL Zat [] l).2.length<=4194303)(A:Nat->Prop)(w:World)(v:Value)(hv:TmsR A w l v):Calls Try.prog 26 #[v] w (Pure w fun v' w'=>TmsR (New w) w' (Tm.renSL Zat [] l).1 v'):=by
 obtain⟨a,cap,b,off,rfl,hlc,hcm,hlb,ha,he⟩:=hv.at;have HE:=zh he;have HA:=zh ha;have HV:=zh hv;clear hv he ha;go_enter Try.func26,Try.ntmps26;go_wp2_with fail;go_loopw[5,11](fun v i wr=>∃(j:Nat)(sj:List Int)(Mj:Nat->Prop),j<=l.length/\i= .int .i64 j/\w.heap.size+2<=wr.heap.size/\Below w.heap.size w wr/\(∀b,Mj b->w.heap.size<=b)/\TdInv (w.heap.size+2) w.heap.size (w.heap.size+1) sj Mj wr/\sj=(Tm.renSL Zat [] (l.take j)).2/\(∀b,Zai v=some b->¬Mj b)/\OwnR wr (w.heap.size+2) 43 4 Tm.rep (fun b=>w.heap.size+2<=b/\¬Mj b) (Tm.renSL Zat [] (l.take j)).1 v)(fun _ i _=>l.length - (intOf i).toNat);case atStart=>
  have hq:=Zcv w (.cells #[.slice none 0 0] 37) (.cells #[.func (.func 51) #[] #[.pointer (some ⟨w.heap.size,0,none⟩),.pointer (some ⟨w.heap.size+1,0,none⟩)]] 116);refine⟨0,[],fun b=>(b=w.heap.size\/Zai (.slice none 0 0)=some b)\/b=w.heap.size+1,Nat.zero_le _,rfl,by simp,Zas (Zas (zB _ _)),fun b hb=>?_,⟨_,⟨_,hq.1,OwnR.nil ..,by simp,by omega,fun b=>Iff.rfl⟩,(Zax hq.2 0).trans rfl,fun b=>Iff.rfl,fun h=>?_⟩,by simp[Tm.renSL],by simp[Zai],by simpa[Tm.renSL]using OwnR.nil ..⟩
  ·rcases hb with(rfl|hb)|rfl;·omega
   ·simp[Zai]at hb
   ·omega
  ·rcases h with h|h;·omega
   ·simp[Zai]at h
 case round=>
  obtain⟨j,sj,Mj,hj,rfl,hz,hb,hMj,hst,hsj,hob,hown⟩:=hrel;have hvl:(Tm.renSL Zat [] (l.take j)).1.length=j:=by rw[Tm.renSL_length];simp;omega
  have HB:=zh hb;have HMJ:=zh hMj;have HST:=zh hst;have HSJ:=zh hsj;have HOB:=zh hob;have HO:=zh hown;have HVL:=zh hvl;clear hb hMj hst hsj hob hown hvl;by_cases hlt:j<l.length
  ·obtain⟨rfl,hAb⟩:=HA.o (by omega);obtain⟨sa,sc,c0,c1,c2,c3,hr⟩:=ZaG HE.o hAb (Keeps.ob HB.o) hlt;have lb:b<wr.heap.size:=World.block_lt_of_cell? wr _ c0;have hr0:=HE.o;obtain⟨vs0,hl0,hrep0,hrow0⟩:=hr0 j _ (List.getElem?_eq_getElem hlt);obtain⟨sa0,sc0,rfl, -⟩:=Tm.rep4 hrep0;obtain⟨-, -, -,d3⟩:=Zmv (RowAt.keeps hAb hrow0 (Keeps.ob (A:=A) HB.o));have hsame:Value.slice sa l[j].args.length sc=Value.slice sa0 l[j].args.length sc0:=zI (c3.symm.trans d3);simp only[Value.slice.injEq,true_and]at hsame;obtain⟨rfl,rfl⟩:=hsame;have hrep1:=Tm.rep_lasts.2.1 _ (fun b=>A b/\b<w.heap.size) _ _ _ hrep0 (fun b hb h=>⟨h,hb⟩);have HR:=zh (Tm.rep_lasts.1 _ _ wr _ _ hrep1 (Keeps.ob HB.o));clear hr hr0 hl0 hrep0 hrow0 d3 hrep1;have hcw:=fun o=>(Keeps.alloc (fun _=>True) wr o).cell trivial HST.o.cw;go_wp2_with fail;have hnd2:(Tm.renS Zat sj l[j]).2.length<=4194303:=by have h1:=Tm.renSL_part l [] j hlt;rw[HSJ.o];omega
   refine(ZlS _ _ _ l[j] sj Mj (fun b=>A b/\b<w.heap.size) _ [_,_,_,_] ((Zdk _ _ _).keeps _ _ _ _ HST.o (Keeps.alloc _ _ _)) hnd2 (Tm.rep_lasts.1 _ _ _ _ _ HR.o (Keeps.alloc _ _ _)) (fun b hb=>⟨by simp;omega,fun h=>by have :=HMJ.o b h;omega⟩)).mono ?_;rintro e w1⟨us,M2,rfl,hch,hM2,hst2,hr⟩;obtain⟨sa',sc',rfl, -⟩:=Tm.rep4 hr;have hsz:=hch.size;simp only[World.size_alloc]at hsz hM2 hr;have hlt2:=HO.o.lt;have hM2l:=(Zdk _ _ _).lt _ _ _ hst2;have hMM:∀b,M2 b->w.heap.size<=b:=fun b hb=>by
    rcases hM2 b hb with h1|h1;·exact HMJ.o b h1
    ·omega
   have hn2:∀b,b<wr.heap.size+1->¬Mj b->¬M2 b:=fun b hb hn h=>by
    rcases hM2 b h with h1|h1;·exact hn h1
    ·omega
   have hHO:=HO.o.alloc Tm.rep_lasts (.cells #[.int .i64 l[j].kind,.int .i64 l[j].n,.string l[j].s,.slice sa l[j].args.length sc] 43);have HO1:=zh (((hHO.mono (A':=fun b=>w.heap.size+2<=b/\¬M2 b/\¬Mj b) Tm.rep_lasts (fun b hb hb'=>⟨hb'.1,hn2 b (by simpa using hb) hb'.2,hb'.2⟩)).keeps (B:=fun b=>¬Mj b) Tm.rep_lasts (hch.keeps fun _ _ h=>h) (fun _ h=>h.2.2) HOB.o).mono (A':=fun b=>w.heap.size+2<=b/\¬M2 b) Tm.rep_lasts (fun b _ hb=>⟨hb.1,hb.2.1⟩));have HOB2:Hd (∀b,Zai u5=some b->¬M2 b):=fun b hb=>hn2 b (by have :=(hlt2 b hb).2;omega) (HOB.o b hb);have HN:=zh (show Tm.rep (fun b=>(w.heap.size+2<=b/\¬M2 b)/\Zai u5≠some b) w1 _ _ from Tm.rep_lasts.2.1 _ _ _ _ _ hr fun b _ hb=>⟨⟨by omega,hb.2⟩,fun e=>by have :=(hlt2 b e).2;omega⟩);have HL:=zh (show(Tm.renSL Zat [] (l.take j)).1.length<4194304/\w.heap.size+2<=w1.heap.size by rw[HVL.o];omega);have HB2:=zh (show Below w.heap.size w w1 from((Ch.of_below (M:=fun _=>False) (HB.o.alloc (by omega) _)).trans hch (fun b hb=> .inr (HMJ.o b hb))).below (fun _ _ h=>h));have HST2:=zh hst2;have HM2l:=zh hM2l;have HMM:=zh hMM;clear hr hch hHO hst2 hM2l hMM hn2 hM2;go_wp2_with(at_builtin;refine Zau rfl (.tmp 15) (.tmp 19) 23 rfl (w.heap.size+2) 43 4 56 ZdN Tm.rep_lasts u5 _ rfl HO1.o (Tm.renS Zat sj l[j]).1 [_,_,_,_] rfl rfl HN.o HL.o ?_;intro v2 w2 hown2 hgrew);go_roundw;case rel=>
    have hk2:=hgrew.keeps (A:=fun b=>Zai u5≠some b) (fun _ h=>h);have hka:=(Keeps.alloc (fun b=>Zai u5≠some b) w1 (.cells #[.int .i64 (Tm.renS Zat sj l[j]).1.kind,.int .i64 (Tm.renS Zat sj l[j]).1.n,.string (Tm.renS Zat sj l[j]).1.s,.slice sa' (Tm.renS Zat sj l[j]).1.args.length sc'] 43)).trans hk2;refine⟨j+1,(Tm.renS Zat sj l[j]).2,M2,by omega,by go_num,by have :=hgrew.size;simp only[World.size_alloc]at this;omega,hgrew.below (HB2.o.alloc (by omega) _) (by simp;omega) (fun b hb=>by have :=(hlt2 b hb).1;omega),HMM.o,(Zdk _ _ _).keeps _ _ _ _ HST2.o (hka.mono fun b _ hb e=>HOB2.o b e hb),?_,fun b hb hm=>?_,?_⟩;·rw[List.take_succ_eq_append_getElem hlt,Tm.renSL_snoc,<-HSJ.o]
    ·rcases hgrew.block with h1|h1;·exact HOB2.o b (h1.symm.trans hb) hm
     ·have h2:=h1 b hb;have h3:=HM2l.o b hm;simp only[World.size_alloc]at h2;omega
    ·rw[List.take_succ_eq_append_getElem hlt,Tm.renSL_snoc,<-HSJ.o];exact hown2
   case measure=>simp[intOf];omega
  ·have :j=l.length:=by omega
   subst this;go_wp2_with fail;go_ret;have hO:=HO.o;rw[List.take_length]at hO;exact⟨_,rfl,HB.o,(hO.mono Tm.rep_lasts (fun b _ hb=>show New w b by unfold New;omega)).sl Tm.rep_lasts (by rw[Tm.renSL_length];exact hlb) (fun b hb=>by unfold New;omega)⟩
theorem Zkz(l:List Tm)(hnd:Tm.nodesL l<=4194303)(A:Nat->Prop)(w:World)(v:Value)(hv:TmsR A w l v):Calls Try.prog 26 #[v] w (Pure w fun v' w'=>TmsR (New w) w' (Tm.renSL Zat [] l).1 v'):=ZlT l (by have h1:=Tm.renSL_szL (sz:=List.length) ZiI l [];simp only[List.length_nil]at h1;omega) A w v hv
end Go.Proofs.Ytlpmfkpefoegeac
namespace Go.Proofs.Ytlpmfkpefoegeac
set_option maxRecDepth 100000
set_option maxHeartbeats 16000000
set_option linter.all false
theorem Zhh(E:Env):∀(w:Nat)(s ts:List Tm)(w':Nat),flL E w s=some (ts,w')->Tm.nodesL ts+w'=w:=by
 intro w;induction w using Nat.strongRecOn with
  |_ w ih=>
   intro s ts w' h;match w,s,ih,h with
    |w,[],_,h=>rw[Zb8]at h;simp at h;obtain⟨rfl,rfl⟩:=h;simp[Tm.nodesL]
    |0,_::_,_,h=>rw[ZcT]at h;cases h
    |w+1,a::r,ih,h=>
     rw[flL]at h;try simp only at h
     split at h;·simp at h
     ·rename_i _ ts1 w1 h1;have k0:=Zf5 E w _ _ _ h1;have k1:=ih w (by omega) _ _ _ h1;rw[Nat.min_eq_right k0.1]at h;split at h;·simp at h
      ·rename_i _ rs w2 h2;have k2:=ih w1 (by omega) _ _ _ h2;simp only[Option.some.injEq,Prod.mk.injEq]at h;obtain⟨rfl,rfl⟩:=h;simp only[Tm.nodesL,Tm.nodes];omega
theorem ZlU{N:Int}{E:Env}(hE:EnvOk N E):∀(w:Nat)(s ts:List Tm)(w':Nat),(∀t∈s,t.In N)->flL E w s=some (ts,w')->∀t∈ts,t.In N:=by
 intro w;induction w using Nat.strongRecOn with
  |_ w ih=>
   intro s ts w' hs h;match w,s,ih,h,hs with
    |w,[],_,h,_=>rw[Zb8]at h;simp at h;obtain⟨rfl,rfl⟩:=h;simp
    |0,_::_,_,h,_=>rw[ZcT]at h;cases h
    |w+1,a::r,ih,h,hs=>
     have hx:=ZaY hE (hs a (by simp));rw[flL]at h;try simp only at h
     generalize slook E a=x at*;split at h;·simp at h
     ·rename_i _ ts1 w1 h1;have k0:=Zf5 E w _ _ _ h1;have k1:=ih w (by omega) _ _ _ (fun t ht=>hx.arg ht) h1;rw[Nat.min_eq_right k0.1]at h;split at h;·simp at h
      ·rename_i _ rs w2 h2;have k2:=ih w1 (by omega) _ _ _ (fun t ht=>hs t (by simp[ht])) h2;simp only[Option.some.injEq,Prod.mk.injEq]at h;obtain⟨rfl,rfl⟩:=h;intro t ht;rcases List.mem_cons.1 ht with rfl|ht;·have k3:=k0.2;cases hx with|var n h0 h1'=>simp only[Tm.args,List.length_nil,List.length_eq_zero_iff]at k3;subst k3;exact .var n h0 h1'|atom s h9=>simp only[Tm.args,List.length_nil,List.length_eq_zero_iff]at k3;subst k3;exact .atom s h9|int n h0 h1'=>simp only[Tm.args,List.length_nil,List.length_eq_zero_iff]at k3;subst k3;exact .int n h0 h1'|comp s l a1 a2 a3 a4 a5=>simp only[Tm.args]at k3;exact .comp s ts1 a1 a2 (by omega) (by omega) k1
       ·exact k2 t ht
namespace Tm
theorem ZjF{σ:Type}(f:σ->Int->Int×σ):∀(t:Tm)(st:σ),(renS f st t).1.nodes=t.nodes:=by
 intro t;induction t using induct with
  |h k n s l ih=>
   intro st;have hL:∀(r:List Tm),(∀t∈r,t∈l)->∀st:σ,nodesL (renSL f st r).1=nodesL r:=by intro r;induction r with|nil=>intro _ st;rfl|cons x r ihr=>intro hm st;simp only[renSL,nodesL,ih x (hm x (by simp)),ihr (fun t ht=>hm t (by simp[ht]))]
   simp only[renS,nodes,hL l (fun _ h=>h)]
theorem renSL_nodes{σ:Type}(f:σ->Int->Int×σ):∀(l:List Tm)(st:σ),nodesL (renSL f st l).1=nodesL l|[],st=>rfl|x::r,st=>by simp only[renSL,nodesL,ZjF,renSL_nodes f r]
theorem ZkA(st:List Int)(n:Int):st.length<=(Zat st n).2.length/\0<=(Zat st n).1/\(Zat st n).1<(Zat st n).2.length:=by
 unfold Zat;split;·rename_i h;have :=List.idxOf_lt_length_of_mem h;exact⟨zL _,by simp only;omega,by simp only;omega⟩
 ·simp;omega
theorem ZkB{N:Int}:∀(t:Tm)(st:List Int),t.Good N->st.length<=(renS Zat st t).2.length/\(renS Zat st t).2.length<=st.length+t.nodes/\∀M:Int,((renS Zat st t).2.length:Int)<=M->(renS Zat st t).1.Good M:=by
 intro t;induction t using induct with
  |h k n s l ih=>
   intro st hg;have hL:∀(r:List Tm),(∀t∈r,t∈l)->∀st:List Int,(∀t∈r,t.Good N)->st.length<=(renSL Zat st r).2.length/\(renSL Zat st r).2.length<=st.length+nodesL r/\∀M:Int,((renSL Zat st r).2.length:Int)<=M->∀t∈(renSL Zat st r).1,t.Good M:=by
    intro r;induction r with
     |nil=>intro _ st _;simp[renSL,nodesL]
     |cons x r ihr=>
      intro hm st hg;obtain⟨a1,a2,a3⟩:=ih x (hm x (by simp)) st (hg x (by simp));obtain⟨b1,b2,b3⟩:=ihr (fun t ht=>hm t (by simp[ht])) (renS Zat st x).2 (fun t ht=>hg t (by simp[ht]));refine⟨by simp only[renSL];omega,by simp only[renSL,nodesL];omega,fun M hM t ht=>?_⟩;simp only[renSL]at hM ht;rcases List.mem_cons.1 ht with rfl|ht;·exact a3 M (by omega)
      ·exact b3 M hM t ht
   cases hg with
    |var n h0 h1=>have :=ZkA st n;simp only[renS,num,if_true,renSL,nodes,nodesL];refine⟨this.1,?_,fun M hM=> .var _ this.2.1 (by omega)⟩;unfold Zat;split<;>simp
    |atom s h=>simp only[renS,num,renSL,nodes,nodesL];exact⟨by simp,by simp,fun M hM=> .atom s h⟩
    |int n h0 h1=>simp only[renS,num,renSL,nodes,nodesL];exact⟨by simp,by simp,fun M hM=> .int n h0 h1⟩
    |comp s l a1 a2 a3 a4 a5=>
     obtain⟨b1,b2,b3⟩:=hL l (fun _ h=>h) st a5;have e3:num Zat st 3 0=((0:Int),st):=rfl;simp only[renS,e3,nodes];refine⟨b1,by omega,fun M hM=> .comp s _ a1 a2 ?_ ?_ (b3 M hM)⟩;·rw[renSL_length];exact a3
     ·rw[renSL_length];exact a4
theorem renSL_good{N:Int}:∀(r:List Tm)(st:List Int),(∀t∈r,t.Good N)->st.length<=(renSL Zat st r).2.length/\(renSL Zat st r).2.length<=st.length+nodesL r/\∀M:Int,((renSL Zat st r).2.length:Int)<=M->∀t∈(renSL Zat st r).1,t.Good M
 |[],st,_=>by simp[renSL,nodesL]
 |x::r,st,hg=>by
  obtain⟨a1,a2,a3⟩:=ZkB x st (hg x (by simp));obtain⟨b1,b2,b3⟩:=renSL_good r (renS Zat st x).2 (fun t ht=>hg t (by simp[ht]));refine⟨by simp only[renSL];omega,by simp only[renSL,nodesL];omega,fun M hM t ht=>?_⟩;simp only[renSL]at hM ht;rcases List.mem_cons.1 ht with rfl|ht;·exact a3 M (by omega)
  ·exact b3 M hM t ht
end Tm
def ZnA(q:Nat)(l:List Tm):Prop:=l.length=q/\(∀t∈l,t.Good 200)/\Tm.nodesL l<=200
theorem ZjG{N:Int}{q:Nat}{s s':Sv}{b:Bool}(hE:EnvOk N s.env)(hq:(q:Int)<=N)(e:ZaV q s=(b,s')):(b=false/\s'.out=s.out++[⟨4,[]⟩])\/(∃l,ZnA q l/\((b=true/\s'.out=s.out++[⟨1,l⟩]/\s.out.length<11/\s'.env=s.env/\s'.choices=s.choices/\s'.vars=s.vars/\s'.fuel=s.fuel)\/(b=false/\11<=s.out.length/\s'.out=s.out++[⟨1,l⟩]++[⟨6,[]⟩]))):=by
 unfold ZaV at e;split at e;·simp only[Prod.mk.injEq]at e;obtain⟨rfl,rfl⟩:=e;exact .inl ⟨rfl,rfl⟩
 ·rename_i l w' h;have h1:=Zf5 _ _ _ _ _ h;have h2:=Zhh _ _ _ _ _ h;have h3:=ZlU hE _ _ _ _ (by intro t ht;simp only[List.mem_map,List.mem_range]at ht;obtain⟨i,hi,rfl⟩:=ht;exact .var _ (by omega) (by omega)) h;obtain⟨k1,k2,k3⟩:=Tm.renSL_good l [] h3;have hA:ZnA q (tidy l):=by
   refine⟨?_,k3 200 (by simp only[List.length_nil]at k2;omega),?_⟩;·unfold tidy;rw[Tm.renSL_length,h1.2];simp
   ·unfold tidy;rw[Tm.renSL_nodes];omega
  refine .inr ⟨_,hA,?_⟩;simp only[List.length_append,List.length_singleton]at e;split at e;·simp only[Prod.mk.injEq]at e;obtain⟨rfl,rfl⟩:=e;exact .inr ⟨rfl,by omega,rfl⟩
  ·simp only[Prod.mk.injEq]at e;obtain⟨rfl,rfl⟩:=e;exact .inl ⟨rfl,rfl,by omega,rfl,rfl,rfl,rfl⟩
section
variable {P : List Cl}
end
end Go.Proofs.Ytlpmfkpefoegeac
