import Derived.Test.YtlpmfkpefoegeacGreatDoorQUin
import Derived.Deep.RegionLaw
import Derived.Deep.DeepCutAuto
import Derived.StillTailTactics
import Derived.Test.YtlpmfkpefoegeacGreatDoorPSolve
namespace Go.Proofs.YtlpmfkpefoegeacGreatDoor
set_option maxRecDepth 99999
set_option maxHeartbeats 0
set_option linter.all false
open Go.RowKit
theorem vg{w:World}{g:Nat}{E:TypeId}{v0:Value}(h:w.heap[g]?=some (.cells #[v0] E (0,0))):w.cell? ⟨g,0,none⟩=some v0/\∀o,w.frozen? ⟨g,o,none⟩=false:=⟨(bW h 0).trans rfl,fun o=>by simp[World.frozen?,h]⟩
mutual
def dS : List Ce → Nat → Tm → List Ce
  | c, k, .mk kd n s l =>
    if kd = 0 then c.set k ⟨0, n, .empty⟩ else if kd = 1 then c.set k ⟨1, 0, s⟩ else if kd = 2 then c.set k ⟨2, n, .empty⟩ else
    if kd = 3 then eU (c.set k ⟨0, (c.length : Int), .empty⟩ ++ ⟨3, (l.length : Int), s⟩ :: List.replicate l.length ⟨0, 0, .empty⟩) (c.length + 1) l else c
def eU : List Ce → Nat → List Tm → List Ce
  | c, _, [] => c
  | c, k, t :: r => eU (dS c k t) (k + 1) r
end
def wO(c:List Ce):Tm->List Ce| .mk _ _ s l=>eU (c++⟨3,(l.length:Int),s⟩::List.replicate l.length ⟨0,0,.empty⟩) (c.length+1) l
theorem adG:∀(r:List Tm)(c:List Ce)(k:Nat)(t:Tm),eU c k (r++[t])=dS (eU c k r) (k+r.length) t|[],c,k,t=>by simp[eU]|x::r,c,k,t=>by simp only[tJ,eU,adG r,cK];congr 1;omega
theorem Et:∀(t:Tm)(c:List Ce)(k:Nat),c.length<=(dS c k t).length/\(dS c k t).length+1<=c.length+2*t.nodes:=by
 intro t;induction t using Tm.induct with
  |h kd n s l ih=>
   intro c k;have hL:∀(r:List Tm),(∀t∈r,t∈l)->∀(c:List Ce)(k:Nat),c.length<=(eU c k r).length/\(eU c k r).length+r.length<=c.length+2*Tm.bq r:=by intro r;induction r with|nil=>intro _ c k;simp[eU,Tm.bq]|cons x r ihr=>intro hm c k;simp only[eU,Tm.bq,cK];have h1:=ih x (hm x (nk ..)) c k;have h2:=ihr (fun t ht=>hm t (ni _ ht)) (dS c k x) (k+1);omega
   simp only[dS,Tm.nodes];repeat' split
   ·simp;omega
   ·simp;omega
   ·simp;omega
   ·have h1:=hL l (fun _ h=>h) (c.set k ⟨0,(c.length:Int),.empty⟩++⟨3,(l.length:Int),s⟩::List.replicate l.length ⟨0,0,.empty⟩) (c.length+1);simp only[bT,xL,cK,Au]at h1;omega
   ·omega
theorem wP:∀(r:List Tm)(c:List Ce)(k:Nat),c.length<=(eU c k r).length/\(eU c k r).length+r.length<=c.length+2*Tm.bq r|[],c,k=>by simp[eU,Tm.bq]|x::r,c,k=>by simp only[eU,Tm.bq,cK];have h1:=Et x c k;have h2:=wP r (dS c k x) (k+1);omega
theorem VX:∀(l:List Tm),l.length<=Tm.bq l
 |[]=>zL _
 |x::r=>by
  have h1:=VX r;have h2:1<=x.nodes:=by cases x;simp only[Tm.nodes];omega
  simp only[cK,Tm.bq];omega
theorem VY:∀(l:List Tm)(j:Nat)(hj:j<l.length),Tm.bq (l.take j)+l[j].nodes+(l.length - j - 1)<=Tm.bq l|x::r,0,_=>by have h1:=VX r;simp only[mE,Tm.bq,Jt,cK];omega|x::r,j+1,hj=>by have h1:=VY r j (by simpa using hj);simp only[uP,Tm.bq,abY,cK];omega
structure oC (g base : Nat) (l : List Ce) (cv : Value) (w : World) : Prop where
  box : w.heap[g]? = some (.cells #[cv] 108 (0, 0))
  own : jh w base l cv
  lt : g < base
  len : l.length ≤ 4194304
  A9 : base ≤ w.heap.size
def iV(g:Nat)(cv:Value)(b:Nat):Prop:=b=g\/ownB cv=some b
def nH(g base:Nat)(cv:Value)(w:World)(l:List Ce)(w':World):Prop:=∃cv',oC g base l cv' w'/\Ch (iV g cv) w w'/\(∀b,ownB cv'=some b->ownB cv=some b\/w.heap.size<=b)
theorem nH.trans{g base:Nat}{cv cv':Value}{w w' w'':World}{l:List Ce}(hc:Ch (iV g cv) w w')(ht:∀b,ownB cv'=some b->ownB cv=some b\/w.heap.size<=b)(h:nH g base cv' w' l w''):nH g base cv w l w'':=by
 obtain⟨lI,h1,h2,h3⟩:=h;refine⟨lI,h1,hc.trans h2 fun x hx=>?_,fun b hb=>?_⟩
 ·rcases hx with hx|hx;·exact .inl (.inl hx)
  ·rcases ht x hx with hx|hx;·exact .inl (.inr hx)
   ·exact .inr hx
 ·rcases h3 b hb with h4|h4;·exact ht b h4
  ·exact .inr (fM hc.size h4)
def VZ(t:Tm):Prop:=∀(g base k:Nat)(l:List Ce)(cv:Value)(A:Nat->Prop)(w:World)(vs:List Value),oC g base l cv w->k<l.length->l.length+2*t.nodes<=4194304->Tm.rep A w t vs->(∀b,A b->b<w.heap.size/\¬iV g cv b)->Calls Tryz.prog 100 #[.pointer (some ⟨g,0,none⟩),.int .i64 (k:Int),.agg vs.toArray] w (fun e w'=>(∃v,e= .returned v)/\nH g base cv w (dS l k t) w')
def V3(t:Tm):Prop:=∀(g base:Nat)(l:List Ce)(cv:Value)(A:Nat->Prop)(w:World)(vs:List Value),oC g base l cv w->l.length+2*t.nodes<=4194304->Tm.rep A w t vs->(∀b,A b->b<w.heap.size/\¬iV g cv b)->Calls Tryz.prog 99 #[.pointer (some ⟨g,0,none⟩),.agg vs.toArray] w (fun e w'=>e= .returned (.int .i64 (l.length:Int))/\nH g base cv w (wO l t) w')
theorem anu{P:Program}{ops:Array Oper}{o:Oper}{a:Act}{w W:World}{K:Act->World->Prop}{Q:Exit->Act->World->Prop}{E:Prop}(hg:o.guard=none)(s x:Operand)(t:TypeId)(ho:o.op= .call {callee:= .builtin .append,args:=#[s,x],argTypes:=#[t,t]})(base:Nat)(e:TypeId)(size bytes:Nat)(hty:nZ P t e size bytes){α:Type}{R:(Nat->Prop)->World->α->List Value->Prop}(hR:iq R){A:Nat->Prop}(v:Value)(xs:List α)(hs:a.eval s=v)(hown:aG w base e size R A xs v)(y:α)(vs:List Value)(hx:a.eval x= .slice (some ⟨w.heap.size,0,none⟩) 1 1)(hvl:vs.length=size)(hvs:R (fun b=>A b/\ownB v≠some b) w y vs)(hlen:xs.length<4194304/\base<=w.heap.size)(h:∀v' w',aG w' base e size R A (xs++[y]) v'->kK (w.alloc (.cells vs.toArray e)) w' v v'->K (a.put o.dst v') w')(hW:W=w.alloc (.cells vs.toArray e)):if Region.wanted o (yielded ops a.tmps)=true then Oper.wp P o a W K Q else E:=by subst hW;rw[ai (by simp[Region.wanted,hg])];exact oh s x t ho base e size bytes hty hR v xs hs hown y vs hx hvl hvs hlen h
theorem oC.ch{g base:Nat}{l:List Ce}{cv:Value}{w w':World}(h:oC g base l cv w){M:Nat->Prop}(hc:Ch M w w')(hM:∀b,iV g cv b->¬M b):oC g base l cv w':=⟨(hc.block g (aJ h.box) (hM g (.inl rfl))).trans h.box,ah.kept h.own (fun b hb=>hc.block b (h.own.lt b hb).2 (hM b (.inr hb))),h.lt,h.len,fM h.A9 hc.size⟩
theorem oC.below{g base:Nat}{l:List Ce}{cv:Value}{w w':World}(h:oC g base l cv w)(hb:Below w.heap.size w w'):oC g base l cv w':=h.ch (M:=fun _=>False) (Ch.of_below hb) (fun _ _ h=>h)
theorem oC.set{g base cb cc k:Nat}{l:List Ce}{w:World}(h:oC g base l (.slice (some ⟨cb,0,none⟩) l.length cc) w)(bI:ownB (.slice (some ⟨cb,0,none⟩) l.length cc)=some cb)(hk:k<l.length)(c:Ce)(hc:c.Ok):oC g base (l.set k c) (.slice (some ⟨cb,0,none⟩) l.length cc) (((w.setCell ⟨cb,k*3,none⟩ (.int .i64 c.kind)).setCell ⟨cb,k*3+1,none⟩ (.int .i64 c.n)).setCell ⟨cb,k*3+2,none⟩ (.string c.s)):=by
 have hne:¬g=cb:=fun e=>by have :=(h.own.lt cb bI).1;have :=h.lt;omega
 obtain⟨_,_,_,_,_,_,hok, -⟩:=jh.cell h.own hk;have o1:=ah.set (u:= .int .i64 c.kind) Ce.kC h.own bI hk (j:=0) (by omega) (y:=⟨c.kind,l[k].n,l[k].s⟩) rfl ⟨hc.1,hok.2.1,hok.2.2⟩;have o2:=ah.set (u:= .int .i64 c.n) Ce.kC o1 bI (i:=k) (by simpa using hk) (j:=1) (by omega) (y:=⟨c.kind,c.n,l[k].s⟩) (by simp[Ce.vals]) ⟨hc.1,hc.2.1,hok.2.2⟩;have o3:=ah.set (u:= .string c.s) Ce.kC o2 bI (i:=k) (by simpa using hk) (j:=2) (by omega) (y:=c) (by simp[Ce.vals]) hc;simp only[acw]at o3;refine⟨?_,o3,h.lt,by simpa using h.len,by simpa using h.A9⟩;rw[bH _ _ _ _ hne,bH _ _ _ _ hne,bH _ _ _ _ hne];exact h.box
theorem anv{c:List Ce}{k:Nat}{kd n:Int}{s:ByteArray}{l:List Tm}(h0:kd≠0)(h1:kd≠1)(h2:kd≠2)(h3:kd≠3):dS c k (.mk kd n s l)=c:=by simp[dS,h0,h1,h2,h3]
theorem anw(t:Tm)(hf:V3 t):VZ t:=by
 obtain⟨kd,n,s,tl⟩:=t;intro g base k l cv A w vs hm hk hlen hv hA;have HV:=zh hv;rw[Tm.gL]at hv;obtain⟨hkd,hn,hs,v,rfl,hl⟩:=hv;obtain⟨a,cap, -, -,rfl, -, -,htl, -⟩:=hl.at;obtain⟨ca,cc,rfl,hcc,hcm⟩:=ah.val hm.own;have HM:=zh hm;have HF:=zh hf;have HA:=zh hA;have HLEN:=zh hlen;have rW:=hm.len;obtain⟨cb,rfl,bI,c0,c1,c2,hok,hfz,hcb,anx⟩:=jh.cell hm.own hk;obtain⟨b0,bf⟩:=vg hm.box;have hgs:=aJ hm.box;have hcs:=dH;have hi0:(0:Int)<=(k:Int):=zN _;have hi1:(k:Int)<(l.length:Int):=by omega
 have dE:=zh bI;have HN:=zh hn;have HS:=zh hs;have e0:ByteArray.empty.size<=1048576:=by decide
 have i0:aA 0:=by unfold aA;omega
 have fin:∀(c:Ce),c.Ok->dS l k (.mk kd n s tl)=l.set k c->∀(O:Obj),nH g base (.slice (some ⟨cb,0,none⟩) l.length cc) w (dS l k (.mk kd n s tl)) (((((w.setCell ⟨cb,k*3,none⟩ (.int .i64 c.kind)).setCell ⟨cb,k*3+1,none⟩ (.int .i64 c.n)).setCell ⟨cb,k*3+2,none⟩ (.string c.s)).alloc O).drew):=by intro c hc he O;rw[he];have h1:=(hm.set bI hk c hc);refine⟨_,h1.below (((zB _ _).alloc (zL _) _).drew),?_,fun b hb=> .inl hb⟩;have h2:Ch (iV g (.slice (some ⟨cb,0,none⟩) l.length cc)) w w:=Ch.refl _ _;exact(((h2.setCell (p:=⟨cb,k*3,none⟩) (.inl (.inr bI)) _).setCell (p:=⟨cb,k*3+1,none⟩) (.inl (.inr bI)) _).setCell (p:=⟨cb,k*3+2,none⟩) (.inl (.inr bI)) _).alloc _|>.drew
 have FIN:=zh fin;clear hm hl hf hA hlen bI hok hn hs fin;by_cases h0:kd=0;·subst h0;have HP:=zh (show dS l k (.mk 0 n s tl)=l.set k ⟨0,n,.empty⟩by simp[dS]);go_enter Tryz.func100,Tryz.ntmps100;go_wp2_with fail;go_region;go_wp2_with fail;refine JE (v:= .tuple #[]) (by simp[results,Tryz.results100,go_sem]) rfl ?_;exact⟨⟨_,rfl⟩,FIN.out ⟨0,n,.empty⟩ ⟨i0,HN.o,e0⟩ HP.o _⟩
 by_cases h1:kd=1;·subst h1;have HP:=zh (show dS l k (.mk 1 n s tl)=l.set k ⟨1,0,s⟩by simp[dS]);go_enter Tryz.func100,Tryz.ntmps100;go_wp2_with fail;go_region;go_wp2_with fail;refine JE (v:= .tuple #[]) (by simp[results,Tryz.results100,go_sem]) rfl ?_;exact⟨⟨_,rfl⟩,FIN.out ⟨1,0,s⟩ ⟨by unfold aA;simp only;omega,i0,HS.o⟩ HP.o _⟩
 by_cases h2:kd=2;·subst h2;have HP:=zh (show dS l k (.mk 2 n s tl)=l.set k ⟨2,n,.empty⟩by simp[dS]);go_enter Tryz.func100,Tryz.ntmps100;go_wp2_with fail;go_region;go_wp2_with fail;refine JE (v:= .tuple #[]) (by simp[results,Tryz.results100,go_sem]) rfl ?_;exact⟨⟨_,rfl⟩,FIN.out ⟨2,n,.empty⟩ ⟨by unfold aA;simp only;omega,HN.o,e0⟩ HP.o _⟩
 by_cases h3:kd=3
 ·subst h3;have HP:=zh (show dS l k (.mk 3 n s tl)=wO (l.set k ⟨0,(l.length:Int),.empty⟩) (.mk 3 n s tl)by simp[dS,wO]);go_enter Tryz.func100,Tryz.ntmps100;go_wp2_with fail;go_region;go_wp2_with fail;have hset:=HM.o.set dE.o hk ⟨0,(l.length:Int),.empty⟩ ⟨i0,by unfold aA;simp only;omega,e0⟩;have h3:Ch (iV g (.slice (some ⟨cb,0,none⟩) l.length cc)) w w:=Ch.refl _ _;have hch:=((((h3.setCell (p:=⟨cb,k*3,none⟩) (.inl (.inr dE.o)) (.int .i64 0)).setCell (p:=⟨cb,k*3+1,none⟩) (.inl (.inr dE.o)) (.int .i64 (l.length:Int))).setCell (p:=⟨cb,k*3+2,none⟩) (.inl (.inr dE.o)) (.string .empty)).alloc (.cells #[.int .i64 3,.int .i64 n,.string s,.slice a tl.length cap] 34)).drew;have hmk:=hset.below (((zB _ _).alloc (zL _) (.cells #[.int .i64 3,.int .i64 n,.string s,.slice a tl.length cap] 34)).drew);have hsz:=hch.size;have hkp:=hch.keeps (A:=A) (fun b _ hb=>(HA.o b hb).2);have hll:(l.set k ⟨0,(l.length:Int),.empty⟩).length=l.length:=by simp
  have hlen:=HLEN.o;refine(HF.o g base (l.set k ⟨0,(l.length:Int),.empty⟩) (.slice (some ⟨cb,0,none⟩) l.length cc) A _ [_,_,_,_] hmk (by rw[hll];exact hlen) (Tm.aj.1 _ _ _ _ _ HV.o hkp) (fun b hb=>⟨ab3 (HA.o b hb).1 hsz,(HA.o b hb).2⟩)).mono ?_;rintro e w2⟨rfl,hst⟩;have HST:=zh (nH.trans hch (fun b hb=> .inl hb) hst);clear hset h3 hch hmk hsz hkp hst;go_wp2_with fail;refine JE (v:= .tuple #[]) (by simp[results,Tryz.results100,go_sem]) rfl ?_;exact⟨⟨_,rfl⟩,by rw[HP.o];exact HST.o⟩
 ·have q0:(kd==0)=false:=by simpa using h0
  have q1:(kd==1)=false:=by simpa using h1
  have q2:(kd==2)=false:=by simpa using h2
  have q3:(kd==3)=false:=by simpa using h3
  have HP:=zh (anv (c:=l) (k:=k) (n:=n) (s:=s) (l:=tl) h0 h1 h2 h3);go_enter Tryz.func100,Tryz.ntmps100;go_wp2_with fail;refine JE (v:= .tuple #[]) (by simp[results,Tryz.results100,go_sem]) rfl ?_;refine⟨⟨_,rfl⟩,_,?_,(Ch.refl _ _).alloc _,fun b hb=> .inl hb⟩;rw[HP.o];exact HM.o.below ((zB _ _).alloc (zL _) _)
def adH(g base:Nat)(cv:Value)(w:World)(l:List Ce)(w':World):Prop:=∃cv',oC g base l cv' w'/\Ch (iV g cv) w w'/\(∀b,ownB cv'=some b->ownB cv=some b\/w.heap.size<=b)
theorem Qp{g base:Nat}{cv v2:Value}{l:List Ce}{w w0 w2 W:World}{c:Ce}{cells:Array Value}(hm:oC g base l cv w)(hl:l.length+1<=4194304)(h0:Ch (iV g cv) w0 W)(hw0:w.heap.size<=w0.heap.size)(h1:jh w2 base (l++[c]) v2)(hb:w2.heap[g]?=some (.cells #[cv] 108 (0,0)))(hg:kK (W.alloc (.cells cells 112)) w2 cv v2):adH g base cv w0 (l++[c]) (w2.setCell ⟨g,0,none⟩ v2):=by
 have hne:ownB v2≠some g:=fun e=>by have :=(h1.lt g e).1;have :=hm.lt;omega
 have hz:=hg.size;have hz0:=h0.size;have hbw:=hm.A9;refine⟨v2,⟨(bG hb 0 _).trans rfl,ah.kept h1 (fun b hb=>bH _ _ _ _ (fun e=>hne (by rw[hb];simp only at e;rw[e]))),hm.lt,by simp;omega,by simp only[qm,bQ]at hz ⊢;omega⟩,?_,fun b hb=>?_⟩;·refine Ch.setCell (p:=⟨g,0,none⟩) ?_ (.inl (.inl rfl)) _;exact hg.ch (h0.alloc _) (fun b hb=> .inl (.inr hb))
 ·rcases hg.block with h|h;·exact .inl (by rw[<-h];exact hb)
  ·have :=h b hb;simp only[bQ]at this;exact .inr (by omega)
theorem adI(kd n:Int)(s:ByteArray)(tl:List Tm)(ih:∀t∈tl,VZ t):V3 (.mk kd n s tl):=by
 intro g base l cv A w vs hm hlen hv hA;rw[Tm.gL]at hv;obtain⟨hkd,hn,hs,v,rfl,hl⟩:=hv;obtain⟨a,cap,b,off,rfl,hlc,hcm,htl,ha,he⟩:=hl.at;obtain⟨ca,cc,rfl,hcc,anz⟩:=ah.val hm.own;have HM:=zh hm;have HA:=zh hA;have HE:=zh he;have Eu:=zh ha;have IH:=zh ih;have rW:=hm.len;have hgb:=hm.lt;have hbw:=hm.A9;simp only[Tm.nodes]at hlen;have hnl:=VX tl;obtain⟨b0,bf⟩:=vg hm.box;have hgs:=aJ hm.box;have HS:=zh hs;have hll:l.length+1+tl.length<=4194304:=by omega
 obtain⟨O,hO⟩:∃O,O=Obj.cells #[.int .i64 kd,.int .i64 n,.string s,.slice a tl.length cap] 34 (0,0):=⟨_,rfl⟩;have HOQ:=zh hO;have HOW:=zh (ah.gN Ce.kC (ah.below hm.own (((zB _ _).alloc (zL _) O).drew)) (fun _=>True));have rX:=zh (fun b(hb:ownB (.slice ca l.length cc)=some b)=>hm.own.lt b hb);have fH:=zh (show((w.alloc O).drew.alloc (.cells #[.int .i64 3,.int .i64 (tl.length:Int),.string s] 112)).heap[g]?=_ from aX (bB (A:=fun _=>True) (aX hm.box O) (af.drew _ _) trivial) _);rw[hO]at HOW fH;clear hm hA he ha ih hl hO;go_enter Tryz.func99,Tryz.ntmps99;go_wp2_with fail;go_upto_region 2 with fail;go_cut[5](fun u5 wr=>u5= .int .i64 (l.length:Int)/\adH g base (.slice ca l.length cc) (w.alloc (.cells #[.int .i64 kd,.int .i64 n,.string s,.slice a tl.length cap] 34)) (l++[⟨3,(tl.length:Int),s⟩]) wr);case first=>go_region_law(refine anu rfl (.tmp 17) (.tmp 24) 56 rfl base 112 3 32 CG Ce.aj (A:=fun _=>True) (.slice ca l.length cc) l rfl HOW.o ⟨3,(tl.length:Int),s⟩ [.int .i64 3,.int .i64 (tl.length:Int),.string s] (by simp only[eZ,bQ];rfl) rfl ⟨⟨by unfold aA;simp only;omega,by unfold aA;simp only;omega,HS.o⟩,rfl⟩ ⟨by omega,by simp;omega⟩ ?_ rfl;intro v2 w2 hown aB;have bA:=zh (ah.fG hown);obtain⟨aY,aZ,hv2,nI,rY⟩:=ah.val bA.o;rw[bT,jr]at hv2;subst hv2;have HB2:=zh (show w2.heap[g]?=_ from(aB.grown.block g (by simp;omega) (fun e=>by have :=(rX.o _ e.symm).1;omega)).trans fH.o);obtain⟨y0,yf⟩:=vg HB2.o;have HG2:=zh aB;clear hown aB);all_goals go_wp2_with fail;go_meet;refine⟨rfl,?_⟩;exact Qp HM.o (by omega) (Ch.refl _ _).drew (by simp) bA.o HB2.o HG2.o
 case rest=>
  obtain⟨rfl,hst⟩:=hcut;have hst:nH g base (.slice ca l.length cc) (w.alloc (.cells #[.int .i64 kd,.int .i64 n,.string s,.slice a tl.length cap] 34)) (l++[⟨3,(tl.length:Int),s⟩]) wc:=hst;obtain⟨W0,hW0⟩:∃W0,W0=w.alloc (.cells #[.int .i64 kd,.int .i64 n,.string s,.slice a tl.length cap] 34):=⟨_,rfl⟩;have HX:=zh (show W0.heap[w.heap.size]?=some (.cells #[.int .i64 kd,.int .i64 n,.string s,.slice a tl.length cap] 34 (0,0))by rw[hW0];exact bJ w (.cells #[.int .i64 kd,.int .i64 n,.string s,.slice a tl.length cap] 34));have hz0:W0.heap.size=w.heap.size+1:=by rw[hW0];simp
  have HW0:=zh (show Below w.heap.size w W0 by rw[hW0];exact(zB _ _).alloc (zL _) _);rw[<-hW0]at hst;have xP:=zh (show ∀b,iV g (.slice ca l.length cc) b->b<w.heap.size from fun b hb=>by
   rcases hb with rfl|hb;·exact hgs
   ·exact(rX.o b hb).2);have HST:=zh hst;have HXB:=zh (fun(W:World)(h:Ch (iV g (.slice ca l.length cc)) W0 W)=>(h.block w.heap.size (by omega) (fun e=>by have :=xP.o _ e;omega)).trans HX.o);obtain⟨Ew,hm1,hc1,ho1⟩:=hst;obtain⟨x0,x1,x2,x3,xf⟩:=aU (HXB.o _ hc1);have hzc:=hc1.size;clear hW0 HOW fH HM hm1 hc1 ho1 b0 bf;go_wp2_with fail;clear x0 x1 x2 x3 xf hzc;go_loopw[31](fun i W=>∃j:Nat,j<=tl.length/\i= .int .i64 (j:Int)/\nH g base (.slice ca l.length cc) W0 (l++⟨3,(tl.length:Int),s⟩::List.replicate j ⟨0,0,.empty⟩) W)(fun i _=>tl.length - (intOf i).toNat);case atStart=>exact⟨0,dn _,rfl,HST.o⟩
  case round=>
   obtain⟨j,hj,rfl,Ew,hm1,hc1,ho1⟩:=hrel;have gW:=zh hc1;have eT:=zh ho1;have hzc:=hc1.size;obtain⟨x0,x1,x2,x3,xf⟩:=aU (HXB.o _ hc1);obtain⟨c1a,Qq,rfl,hl1,anA⟩:=ah.val hm1.own;have Ex:(l++(⟨3,(tl.length:Int),s⟩:Ce)::List.replicate j (⟨0,0,.empty⟩:Ce)).length=l.length+1+j:=by simp;omega
   rw[Ex]at hl1 hm1 ho1 eT;have fe:=zh hm1;obtain⟨b0,bf⟩:=vg hm1.box;have anB:=aJ hm1.box;have adJ:=hm1.A9;have adK:=zh (fun b(hb:ownB (.slice c1a (l.length+1+j) Qq)=some b)=>hm1.own.lt b hb);by_cases hlt:j<tl.length
   ·have hlt':(j:Int)<(tl.length:Int):=by omega
    have hj0:(0:Int)<=(j:Int):=zN _;have dP:=zh (ah.gN Ce.kC hm1.own (fun _=>True));have fH:=zh (aX hm1.box (.cells #[.int .i64 0,.int .i64 0,.string .empty] 112));have hlen1:(l++(⟨3,(tl.length:Int),s⟩:Ce)::List.replicate j (⟨0,0,.empty⟩:Ce)).length<4194304:=by omega
    clear hm1 hc1 ho1;go_wp2_with(at_builtin;go_must(refine jf rfl (.tmp 37) (.tmp 39) 56 rfl base 112 3 32 CG Ce.aj (A:=fun _=>True) (.slice c1a (l.length+1+j) Qq) (l++(⟨3,(tl.length:Int),s⟩:Ce)::List.replicate j (⟨0,0,.empty⟩:Ce)) rfl dP.o (⟨0,0,.empty⟩:Ce) [.int .i64 0,.int .i64 0,.string .empty] rfl rfl ⟨⟨by unfold aA;simp only;omega,by unfold aA;simp only;omega,by decide⟩,rfl⟩ ⟨hlen1,adJ⟩ ?_);go_must(intro v2 w2 hown aB;have bA:=zh (ah.fG hown);obtain⟨aY,aZ,hv2,nI,rY⟩:=ah.val bA.o;rw[bT,jr,Ex]at hv2;subst hv2;have HB2:=zh (show w2.heap[g]?=_ from(aB.grown.block g (by simp;omega) (fun e=>by have :=(adK.o _ e.symm).1;omega)).trans fH.o);obtain⟨y0,yf⟩:=vg HB2.o;have HG2:=zh aB;clear hown aB b0 bf x0 x1 x2 x3 xf));go_roundw;case rel=>refine⟨j+1,by omega,by go_num,nH.trans gW.o eT.o ?_⟩;have :=Qp fe.o (by omega) (Ch.refl _ _) (zL _) bA.o HB2.o HG2.o;rw[wD,tJ,<-List.replicate_succ']at this;exact this
    case measure=>first|(simp[intOf];done)|(simp[intOf];omega)
   ·have eH:j=tl.length:=by omega
    subst eH;have hlt':¬((tl.length:Int)<(tl.length:Int)):=by omega
    have fC:=zh (show nH g base (.slice ca l.length cc) W0 (l++⟨3,(tl.length:Int),s⟩::List.replicate tl.length ⟨0,0,.empty⟩) wr from⟨_,fe.o,gW.o,eT.o⟩);obtain⟨c1,Qr⟩:∃c1,c1=l++(⟨3,(tl.length:Int),s⟩:Ce)::List.replicate tl.length (⟨0,0,.empty⟩:Ce):=⟨_,rfl⟩;rw[<-Qr]at fC;have anC:=zh Qr;have axS:c1.length=l.length+1+tl.length:=by rw[Qr];exact Ex
    clear hm1 hc1 ho1 hlt Qr b0 bf fe gW eT adK Ex;go_wp2_with fail;clear x0 x1 x2 x3 xf hzc anB adJ;go_loopw[47](fun i W=>∃j:Nat,j<=tl.length/\i= .int .i64 (j:Int)/\nH g base (.slice ca l.length cc) W0 (eU c1 (l.length+1) (tl.take j)) W)(fun i _=>tl.length - (intOf i).toNat);case atStart=>exact⟨0,dn _,rfl,by rw[mE,eU];exact fC.o⟩
    case round=>
     obtain⟨j,hj,rfl,Ew,hm1,hc1,ho1⟩:=hrel;have gW:=zh hc1;have eT:=zh ho1;have fe:=zh hm1;have hzc:=hc1.size;by_cases hlt:j<tl.length
     ·obtain⟨rfl,bC⟩:=Eu.o (by omega);have Ey:=zh (show af A w wr from(af.ob HW0.o).trans (hc1.keeps (A:=A) (fun b _ hb=>(HA.o b hb).2)));obtain⟨sa,sc,d0,d1,d2,d3,hr⟩:=gq HE.o bC Ey.o hlt;have hlt':(j:Int)<(tl.length:Int):=by omega
      have hj0:(0:Int)<=(j:Int):=zN _;have hl1:=wP (tl.take j) c1 (l.length+1);have hnj:=VY tl j hlt;have V4:(eU c1 (l.length+1) (tl.take j)).length+2*(tl[j]'hlt).nodes<=4194304:=by
       have :(tl.take j).length=j:=by rw[eY];omega
       omega
      obtain⟨t,ht⟩:∃t,t=tl[j]'hlt:=⟨_,rfl⟩;have hmem:t∈tl:=by rw[ht];exact bO _
      rw[<-ht]at d0 d1 d2 d3 hr V4;have HT:=zh ht;have ky:=zh hlt;have HR:=zh hr;have Qs:=zh (IH.out t hmem);have HL2:=zh V4;have hk2:l.length+1+j<(eU c1 (l.length+1) (tl.take j)).length:=by omega
      have Qt:=zh (show(l.length:Int)+1+(j:Int)=((l.length+1+j:Nat):Int)by omega);clear hr ht hmem V4 hm1 hc1 ho1 hnj hl1;go_wp2_with fail;rw[Qt.o];refine(Qs.o g base (l.length+1+j) _ Ew A _ [_,_,_,_] (fe.o.below ((zB _ _).alloc (zL _) (.cells #[.int .i64 t.kind,.int .i64 t.n,.string t.s,.slice sa t.args.length sc] 34))) hk2 HL2.o (Tm.aj.1 _ _ _ _ _ HR.o (af.alloc _ _ _)) (fun b hb=>⟨by have :=(HA.o b hb).1;simp;omega,fun e=>?_⟩)).mono ?_
      ·rcases e with e|e;·exact(HA.o b hb).2 (.inl e)
       ·rcases eT.o b e with e|e;·exact(HA.o b hb).2 (.inr e)
        ·have :=(HA.o b hb).1;omega
      rintro e w3⟨⟨v3,rfl⟩,Kr⟩;have V5:=zh (nH.trans gW.o eT.o (nH.trans ((Ch.refl _ _).alloc (.cells #[.int .i64 t.kind,.int .i64 t.n,.string t.s,.slice sa t.args.length sc] 34)) (fun b hb=> .inl hb) Kr));clear Kr d0 d1 d2 d3;go_wp2_with fail;go_roundw;case rel=>refine⟨j+1,by omega,by go_num,?_⟩;rw[dX ky.o,adG,<-HT.o,show(tl.take j).length=j by rw[eY];have :=ky.o;omega];exact V5.o
      case measure=>first|(simp[intOf];done)|(simp[intOf];omega)
     ·have eH:j=tl.length:=by omega
      subst eH;have hlt':¬((tl.length:Int)<(tl.length:Int)):=by omega
      clear hm1 hc1 ho1 hlt;go_wp2_with fail;go_ret;refine⟨rfl,nH.trans (Ch.of_below HW0.o) (fun b hb=> .inl hb) ?_⟩;rw[wO,<-anC.o];have :=fe.o;rw[jd]at this;exact⟨Ew,this,gW.o,eT.o⟩
theorem adL:∀t,VZ t:=by intro t;induction t using Tm.induct with|h k n s l ih=>exact anw _ (adI k n s l ih)
theorem anE:∀t,V3 t:=by intro t;obtain⟨k,n,s,l⟩:=t;exact adI k n s l (fun t _=>adL t)
def bE(c:List Ce)(t:Tm):List Ce:=if t.kind=3 then wO c t else dS (c++[⟨0,0,.empty⟩]) c.length t
theorem V6{c:List Ce}{k:Nat}{t:Tm}(h:t.kind≠3):(dS c k t).length=c.length:=by
 obtain⟨kd,n,s,l⟩:=t;simp only[Tm.kind]at h;simp only[dS,ag h];repeat' split
 all_goals simp
theorem Qu(t:Tm)(g base:Nat)(l:List Ce)(cv:Value)(A:Nat->Prop)(w:World)(vs:List Value)(hm:oC g base l cv w)(hlen:l.length+1+2*t.nodes<=4194304)(hv:Tm.rep A w t vs)(hA:∀b,A b->b<w.heap.size/\¬iV g cv b):Calls Tryz.prog 58 #[.pointer (some ⟨g,0,none⟩),.agg vs.toArray] w (fun e w'=>e= .returned (.int .i64 (l.length:Int))/\nH g base cv w (bE l t) w'):=by
 have HV:=zh hv;have HM:=zh hm;have HA:=zh hA;obtain⟨sa,sc,rfl, -⟩:=Tm.dw hv;obtain⟨ca,cc,rfl,hcc,anz⟩:=ah.val hm.own;obtain⟨b0,bf⟩:=vg hm.box;have hgs:=aJ hm.box;have hbw:=hm.A9;have hgb:=hm.lt;have rX:=zh (fun b(hb:ownB (.slice ca l.length cc)=some b)=>hm.own.lt b hb);have HLEN:=zh hlen;have hll:l.length+1<=4194304:=by omega
 clear hv hA hlen;by_cases h3:t.kind=3;·have HP:=zh (show bE l t=wO l t by rw[bE,ai h3]);have HF:=zh (anE t);clear hm;rw[h3]at HV ⊢;go_enter Tryz.func58,Tryz.ntmps58;go_wp2_with fail;refine(HF.o g base l (.slice ca l.length cc) A _ [_,_,_,_] (HM.o.below ((zB _ _).alloc (zL _) _)) (by have :=HLEN.o;omega) (Tm.aj.1 _ _ _ _ _ HV.o (af.alloc _ _ _)) (fun b hb=>⟨by have :=(HA.o b hb).1;simp;omega,(HA.o b hb).2⟩)).mono ?_;rintro e w1⟨rfl,hst⟩;have HST:=zh (nH.trans ((Ch.refl _ _).alloc _) (fun b hb=> .inl hb) hst);clear hst b0 bf;go_wp2_with fail;go_ret;exact⟨rfl,by rw[HP.o];exact HST.o⟩
 ·have HP:=zh (show bE l t=dS (l++[⟨0,0,.empty⟩]) l.length t by rw[bE,ag h3]);have h3':(t.kind==3)=false:=by simpa using h3
  have Qv:=zh (V6 (c:=l++[⟨0,0,.empty⟩]) (k:=l.length) h3);have fH:=zh (aX (aX hm.box (.cells #[.int .i64 t.kind,.int .i64 t.n,.string t.s,.slice sa t.args.length sc] 34)) (.cells #[.int .i64 0,.int .i64 0,.string .empty] 112));have V7:=zh (bJ w (.cells #[.int .i64 t.kind,.int .i64 t.n,.string t.s,.slice sa t.args.length sc] 34));have dP:=zh (ah.gN Ce.kC (ah.below hm.own ((zB _ _).alloc (zL _) (.cells #[.int .i64 t.kind,.int .i64 t.n,.string t.s,.slice sa t.args.length sc] 34))) (fun _=>True));clear h3 hm;go_enter Tryz.func58,Tryz.ntmps58;go_wp2_with(at_builtin;go_must(refine jf rfl (.tmp 15) (.tmp 17) 56 rfl base 112 3 32 CG Ce.aj (A:=fun _=>True) (.slice ca l.length cc) l rfl dP.o (⟨0,0,.empty⟩:Ce) [.int .i64 0,.int .i64 0,.string .empty] (by simp only[bQ];rfl) rfl ⟨⟨by unfold aA;simp only;omega,by unfold aA;simp only;omega,by decide⟩,rfl⟩ ⟨by omega,by simp;omega⟩ ?_);go_must(intro v2 w2 hown aB;have bA:=zh (ah.fG hown);obtain⟨aY,aZ,hv2,nI,rY⟩:=ah.val bA.o;rw[bT,jr]at hv2;subst hv2;have HB2:=zh (show w2.heap[g]?=_ from(aB.grown.block g (by simp;omega) (fun e=>by have :=(rX.o _ e.symm).1;omega)).trans fH.o);obtain⟨y0,yf⟩:=vg HB2.o;have HG2:=zh aB;clear hown aB b0 bf));have hst:=Qp HM.o hll (Ch.refl (iV g (.slice ca l.length cc)) (w.alloc (.cells #[.int .i64 t.kind,.int .i64 t.n,.string t.s,.slice sa t.args.length sc] 34))) (by simp) bA.o HB2.o HG2.o;clear y0 yf bA HB2 HG2 fH dP;generalize w2.setCell ⟨g,0,none⟩ (.slice aY (l.length+1) aZ)=W1 at hst ⊢;obtain⟨Ew,hm1,hc1,ho1⟩:=hst;obtain⟨c1a,Qq,rfl,hl1,anA⟩:=ah.val hm1.own;have Ex:(l++[(⟨0,0,.empty⟩:Ce)]).length=l.length+1:=by simp
  rw[Ex]at hl1 hm1 ho1;obtain⟨y0,yf⟩:=vg hm1.box;obtain⟨x0,x1,x2,x3,xf⟩:=aU ((hc1.block w.heap.size (by simp) (fun e=>by
   rcases e with e|e;·omega
   ·have :=(rX.o _ e).2;omega)).trans V7.o);have hxs:w.heap.size<W1.heap.size:=by have :=hc1.size;simp at this;omega
  have fe:=zh hm1;have gW:=zh hc1;have eT:=zh ho1;have qE:=zh (show af A w W1 from(af.alloc A w _).trans (hc1.keeps (A:=A) (fun b _ hb=>(HA.o b hb).2)));clear hm1 hc1 ho1;go_still_tail 8,(by kernel_rfl);change wpList _ _ _ _ _ W1.drew;have HPT:=zh (adL t g base l.length (l++[(⟨0,0,.empty⟩:Ce)]) (.slice c1a (l.length+1) Qq) A W1.drew [_,_,_,_] (fe.o.below (zB _ _).drew) (by simp) (by have :=HLEN.o;simp;omega) (Tm.aj.1 _ _ _ _ _ (Tm.aj.1 _ _ _ _ _ HV.o qE.o) (af.drew _ _)) (fun b hb=>⟨by have :=(HA.o b hb).1;simp;omega,fun e=>by
   rcases e with e|e;·exact(HA.o b hb).2 (.inl e)
   ·rcases eT.o b e with e|e;·exact(HA.o b hb).2 (.inr e)
    ·have :=(HA.o b hb).1;simp at e;omega⟩));have iL:=zh (show Ch (iV g (.slice ca l.length cc)) _ W1.drew from gW.o.drew);generalize W1.drew=w4 at HPT iL ⊢;clear y0 yf x0 x1 x2 x3 xf;go_wp2_with fail;refine(HPT.o).mono ?_;rintro e w3⟨⟨v3,rfl⟩,Kr⟩;obtain⟨lI,hm2,hc2,ho2⟩:=nH.trans iL.o eT.o Kr;obtain⟨c2a,c2c,rfl,hl2,axV⟩:=ah.val hm2.own;have hf:=Qv.o;rw[Ex]at hf;rw[hf]at hl2 hm2 ho2;have HS2:=zh (nH.trans ((Ch.refl _ _).alloc _) (fun b hb=> .inl hb) ⟨_,hm2,hc2,ho2⟩);obtain⟨y0,yf⟩:=vg hm2.box;clear Kr hm2 hc2 ho2 hf;go_wp2_with fail;go_ret;exact⟨by simp,by rw[HP.o];exact HS2.o⟩
def aP(n:Nat):List Ce:=(List.range n).map fun(i:Nat)=>(⟨0,(i:Int),.empty⟩:Ce)
theorem kD(n:Nat):(aP n).length=n:=by simp[aP]
theorem anF(n:Nat):aP (n+1)=aP n++[⟨0,(n:Int),.empty⟩]:=by simp[aP,ach]
theorem adN(n:Nat)(hn:n<=65536)(w:World):Calls Tryz.prog 57 #[.int .i64 (n:Int)] w (fun e w'=>∃cv,e= .returned (.pointer (some ⟨w.heap.size,0,none⟩))/\Below w.heap.size w w'/\oC w.heap.size (w.heap.size+1) (aP n) cv w'):=by
 go_enter Tryz.func57,Tryz.ntmps57;go_wp2_with fail;have HX:=zh (bJ w (.cells #[.slice none 0 0] 108));have HB:=zh ((iF _ w).alloc (zL _) (.cells #[.slice none 0 0] 108));obtain⟨g,hg⟩:∃g,g=w.heap.size:=⟨_,rfl⟩;have HG:=zh hg;have hz0:g<(w.alloc (.cells #[.slice none 0 0] 108)).heap.size:=by rw[hg];simp
 rw[<-hg]at HX;rw[<-hg];clear hg;go_loopw[8](fun i W=>∃(j:Nat)(cv:Value),j<=n/\i= .int .i64 (j:Int)/\Below w.heap.size w W/\oC g (g+1) (aP j) cv W)(fun i _=>n - (intOf i).toNat);case atStart=>exact⟨0,_,dn _,rfl,HB.o,HX.o,ah.nil,by omega,by simp[aP],by omega⟩
 case round=>
  obtain⟨j,cv,hj,rfl,hb,hm⟩:=hrel;have x9:=zh hb;have HM:=zh hm;obtain⟨ca,cc,rfl,hl1,hmc⟩:=ah.val hm.own;rw[kD]at hl1 hm HM;obtain⟨y0,yf⟩:=vg hm.box;have hgs:=aJ hm.box;have hbw:=hm.A9;have rX:=zh (fun b(hb:ownB (.slice ca j cc)=some b)=>hm.own.lt b hb);have dP:=zh (ah.gN Ce.kC hm.own (fun _=>True));have fH:=zh (aX hm.box (.cells #[.int .i64 0,.int .i64 (j:Int),.string .empty] 112));clear hb hm;by_cases hlt:j<n
  ·have hlt':(j:Int)<(n:Int):=by omega
   have hl2:(aP j).length<4194304:=by rw[kD];omega
   go_wp2_with(at_builtin;go_must(refine jf rfl (.tmp 15) (.tmp 18) 56 rfl (g+1) 112 3 32 CG Ce.aj (A:=fun _=>True) (.slice ca j cc) (aP j) rfl dP.o (⟨0,(j:Int),.empty⟩:Ce) [.int .i64 0,.int .i64 (j:Int),.string .empty] rfl rfl ⟨⟨by unfold aA;simp only;omega,by unfold aA;simp only;omega,(show ByteArray.empty.size<=1048576 by decide)⟩,rfl⟩ ⟨hl2,hbw⟩ ?_);go_must(intro v2 w2 hown aB;have bA:=zh (ah.fG hown);obtain⟨aY,aZ,hv2,nI,rY⟩:=ah.val bA.o;rw[bT,jr,kD]at hv2;subst hv2;have HB2:=zh (show w2.heap[g]?=_ from(aB.grown.block g (by simp;omega) (fun e=>by have :=(rX.o _ e.symm).1;omega)).trans fH.o);obtain⟨z0,zf⟩:=vg HB2.o;have axW:=aJ HB2.o;have HG2:=zh aB;clear hown aB y0 yf));go_roundw;case rel=>
    obtain⟨cv',h1,h2,h3⟩:=Qp HM.o (by rw[kD];omega) (Ch.refl _ _) (zL _) bA.o HB2.o HG2.o;refine⟨j+1,cv',by omega,by go_num,?_,by rw[anF];exact h1⟩;refine((Ch.of_below (M:=fun _=>False) x9.o).trans h2 (fun b hb=> .inr ?_)).below (fun _ _ h=>h);have hgw:=HG.o;rcases hb with rfl|hb;·omega
    ·have :=(rX.o b hb).1;omega
   case measure=>first|(simp[intOf];done)|(simp[intOf];omega)
  ·have eH:j=n:=by omega
   subst eH;have hlt':¬((j:Int)<(j:Int)):=by omega
   clear hlt;go_wp2_with fail;go_ret;have hm:=HM.o;rw[HG.o]at hm;exact⟨by rw[<-HG.o];rfl,x9.o,_,hm⟩
def Out(B:Nat)(av bv:Value)(b:Nat):Prop:=B<=b/\ownB av≠some b/\ownB bv≠some b
structure Two (B : Nat) (w : World) (la lb : List Tm) (av bv : Value) : Prop where
  a : aG w B 34 4 Tm.rep (fun b => B ≤ b ∧ ownB bv ≠ some b) la av
  b : aG w B 34 4 Tm.rep (fun b => B ≤ b ∧ ownB av ≠ some b) lb bv
  sep : ∀ k, ownB av = some k → ownB bv ≠ some k
theorem kK.new{w w':World}{v v':Value}(h:kK w w' v v'){b:Nat}(hb:b<w.heap.size)(hn:ownB v≠some b):ownB v'≠some b:=fun e=>by
 rcases h.block with h1|h1;·exact hn (h1▸e)
 ·have :=h1 b e;omega
section
variable {P : Program} {ops : Array Oper} {Q : Exit → Act → World → Prop}
theorem zF{w:World}{o:Oper}{a:Act}{K:Act->World->Prop}(s x:Operand)(t:TypeId)(ho:o.op= .call {callee:= .builtin .append,args:=#[s,x],argTypes:=#[t,t]})(base:Nat)(e:TypeId)(size bytes:Nat)(hty:nZ P t e size bytes){α:Type}{R:(Nat->Prop)->World->α->List Value->Prop}(hR:iq R){A:Nat->Prop}(v:Value)(xs:List α)(hs:a.eval s=v)(hown:aG w base e size R A xs v)(xv:Value)(hxv:a.eval x=xv)(ys:List α)(hx:au size R (fun b=>A b/\ownB v≠some b) w ys xv)(hlen:xs.length+ys.length<=4194304)(hbase:base<=w.heap.size)(h:∀v' w',aG w' base e size R A (xs++ys) v'->kK w w' v v'->K (a.put o.dst v') w'):o.wp P a w K Q:=by obtain⟨v',w',hr,k1,k2⟩:=adq (P:=P) w base t o.type e size bytes hty hR v xs hown xv ys hx hlen hbase;unfold Oper.wp execOp;simp only[ho,resolve,invoke,builtin,acA,acz,ab8,ab9,qp,AA,hs,hxv,hr];exact h v' w' k1 k2
theorem GZ{F:Nat->World->Prop}{i j:Nat}{fuel:Nat}{listed:Array Bool}{a:Act}{w:World}(hr:Region.ready .any ops listed=[i,j])(h1:wpOp P ops Q i (fun a' w'=>PS ops F i w w'/\oo P ops Q F fuel (listed.setIfInBounds i true) a' w') a w)(h2:wpOp P ops Q j (fun a' w'=>PS ops F j w w'/\oo P ops Q F fuel (listed.setIfInBounds j true) a' w') a w):oo P ops Q F (fuel+1) listed a w:=⟨fun h0=>(by rw[hr]at h0;cases h0),fun k hk=>(by
 rw[hr]at hk;simp only[gK,uQ,pz]at hk;rcases hk with rfl|rfl;·exact h1
 ·exact h2)⟩
end
def aV:List Ce->List Tm->List Ce×List Int|c,[]=>(c,[])|c,t::r=>((aV (bE c t) r).1,(c.length:Int)::(aV (bE c t) r).2)
theorem V8:∀(l:List Tm)(c:List Ce)(t:Tm),aV c (l++[t])=(bE (aV c l).1 t,(aV c l).2++[((aV c l).1.length:Int)])|[],c,t=>by simp[aV]|x::r,c,t=>by simp only[tJ,aV,V8 r]
theorem yg:∀(l:List Tm)(c:List Ce),(aV c l).2.length=l.length|[],c=>rfl|x::r,c=>by simp only[aV,cK,yg r]
theorem Kt(t:Tm)(c:List Ce):c.length<=(bE c t).length/\(bE c t).length<=c.length+2*t.nodes:=by
 have hn:1<=t.nodes:=by cases t;simp only[Tm.nodes];omega
 unfold bE;split;·obtain⟨k,n,s,l⟩:=t;have h1:=wP l (c++⟨3,(l.length:Int),s⟩::List.replicate l.length ⟨0,0,.empty⟩) (c.length+1);simp only[bT,cK,Au]at h1;simp only[wO,Tm.nodes];omega
 ·rename_i h;rw[V6 h];simp;omega
theorem CO:∀(l:List Tm)(c:List Ce),c.length<=(aV c l).1.length/\(aV c l).1.length<=c.length+2*Tm.bq l|[],c=>by simp[aV,Tm.bq]|x::r,c=>by simp only[aV,Tm.bq];have h1:=Kt x c;have h2:=CO r (bE c x);omega
theorem adO(c:List Ce)(l:List Tm)(j:Nat)(hj:j<l.length):(aV c (l.take j)).1.length+2*l[j].nodes<=c.length+2*Tm.bq l:=by have h1:=CO (l.take j) c;have h2:=VY l j hj;omega
theorem Ku:∀(l:List Tm),(∀g∈l,g.nodes<=24)->Tm.bq l<=24*l.length|[],_=>by simp[Tm.bq]|x::r,h=>by simp only[Tm.bq,cK];have h1:=h x (nk ..);have h2:=Ku r (fun g hg=>h g (ni _ hg));omega
structure Bk where
  cells : List Ce
  vars : Int
  head : Int
  goals : List Int
def bS(l:List Tm)(v:Int):Bk:=⟨(aV (aP v.toNat) l).1,v, -1,(aV (aP v.toNat) l).2⟩
def aN(c:Cl):Bk:=⟨(aV (bE (aP c.vars.toNat) c.head) c.body).1,c.vars,(c.vars.toNat:Int),(aV (bE (aP c.vars.toNat) c.head) c.body).2⟩
def Qw:Bk:=⟨[],0,0,[]⟩
noncomputable def Ez(l:List Tm)(v:Int):Bk×Int:=open Classical in if fP l v then(bS l v,0)else(Qw,1)
noncomputable def EA(c:Cl):Bk×Int:=open Classical in if c.Good then(aN c,0)else(Qw,1)
def adP(A:Nat->Prop)(x:Bk×Int)(r:Value)(w':World):Prop:=∃cv gv,r= .tuple #[.agg #[cv,.int .i64 x.1.vars,.int .i64 x.1.head,gv],.int .i64 x.2]/\rC A w' x.1.cells cv/\gD A w' x.1.goals gv
structure Qx (w : World) (g gb rb : Nat) (x : List Ce) (gs : List Int) (v hd : Int) (cv gv : Value) (W : World) : Prop where
  yh : Below w.heap.size w W
  mkr : oC g (g + 1) x cv W
  box : W.heap[gb]? = some (.cells #[.slice none 0 0, .int .i64 v, .int .i64 hd, gv] 67 (0, 0))
  own : dK W (g + 1) gs gv
  res : W.heap[rb]? = some (.cells #[.slice none 0 0, .int .i64 0, .int .i64 0, .slice none 0 0] 67 (0, 0))
  gw : w.heap.size ≤ g
  gbw : w.heap.size ≤ gb
  ne1 : gb ≠ g
  ne2 : rb ≠ g
  ne3 : rb ≠ gb
theorem anG(l:List Tm)(v:Int)(hi:aA v)(hnd:Tm.bq l<=1099511627776)(w:World)(u:Value)(hu:eP (fun b=>b<w.heap.size) w l u):Calls Tryz.prog 32 #[u,.int .i64 v] w (Pure w (adP (New w) (Ez l v))):=by
 have hcs:=dH;have yj:=zh (fun(W:World)(h:Below w.heap.size w W)=>VI l v hnd hi (fun b=>b<w.heap.size) W u (au.keeps Tm.aj hu (af.ob h)));obtain⟨a,cap,b,off,rfl,hlc,hcm,hlb,ha,he⟩:=hu.at;have HE:=zh he;have Eu:=zh ha;have V9:=zh (show ∀t∈l,∀(W:World),af (fun b=>b<w.heap.size) w W->∀{us},Tm.rep (fun b=>b<w.heap.size) W t us->Tm.rep (fun b=>b<w.heap.size) W t us from fun _ _ _ _ _ h=>h);clear hu ha he;go_enter Tryz.func32,Tryz.ntmps32;go_wp2_with fail;have Kv:=zh (bJ w (.cells #[.slice none 0 0,.int .i64 0,.int .i64 0,.slice none 0 0] 67));have HB0:=zh ((iF _ w).alloc (zL _) (.cells #[.slice none 0 0,.int .i64 0,.int .i64 0,.slice none 0 0] 67));refine(yj.o _ HB0.o).mono ?_;rintro e w1⟨r,rfl,hb1,q,rfl,hq⟩;have HB1:=zh (HB0.o.trans (hb1.mono HB0.o.size));have yl:=zh (aL Kv.o hb1);clear hb1 HB0 Kv;obtain⟨rb,hrb⟩:∃rb,rb=w.heap.size:=⟨_,rfl⟩;have hrw:rb<w1.heap.size:=by rw[hrb];exact aJ yl.o
 have anH:w.heap.size<=rb:=by omega
 rw[<-hrb]at yl;obtain⟨r0,r1,r2,r3,rf⟩:=aU yl.o;rw[<-hrb];clear hrb;cases q with
  |false=>
   have oD:¬fP l v:=fun h=>by have :=hq.2 h;cases this
   have EB:=zh (show Ez l v=(Qw,1)by rw[Ez,ag oD]);clear oD hq;go_wp2_with fail;refine dD (v:= .tuple #[.agg #[.slice none 0 0,.int .i64 0,.int .i64 0,.slice none 0 0],.int .i64 1]) (by simp[results,Tryz.results32,go_sem,hcs,r0,r1,r2,r3];try rfl) rfl ?_;rw[EB.o];exact Pure.mk (bK (bK (bK (bK HB1.o (by simp only;omega) _) (by simp only;omega) _) (by simp only;omega) _) (by simp only;omega) _) ⟨_,_,rfl,au.nil ..,au.nil ..⟩
  |true=>
   have nJ:fP l v:=hq.1 rfl;have EB:=zh (show Ez l v=(bS l v,0)by rw[Ez,ai nJ]);obtain⟨v0,v8,l5,lg⟩:=nJ;have J9:=Ku l (fun g hg=>(lg g hg).2.2);clear lg hnd;obtain⟨n,rfl⟩:=dQ v0;clear hq;go_wp2_with fail;refine(adN n (by omega) w1).mono ?_;rintro e w2⟨wQ,rfl,hb2,hm2⟩;have HB2:=zh (HB1.o.trans (hb2.mono HB1.o.size));have rZ:=zh (aL yl.o hb2);have gX:=zh hm2;have hz2:=aJ hm2.box;have hz1:=HB1.o.size;clear hb2 hm2 r0 r1 r2 r3 rf;obtain⟨g,hg⟩:∃g,g=w1.heap.size:=⟨_,rfl⟩;rw[<-hg]at gX hz2 ⊢;have hgr:rb<g:=by omega
   have hgw:w.heap.size<=g:=by omega
   clear hg;go_wp2_with fail;have Qy:=zh (show Qx w g w2.heap.size rb (aV (aP n) (l.take 0)).1 (aV (aP n) (l.take 0)).2 (n:Int) (-1) wQ (.slice none 0 0) (w2.alloc (.cells #[.slice none 0 0,.int .i64 (n:Int),.int .i64 (-1),.slice none 0 0] 67))from⟨HB2.o.alloc HB2.o.size _,gX.o.below ((zB _ _).alloc (zL _) _),bJ _ _,ah.nil,aX rZ.o _,hgw,HB2.o.size,by omega,by omega,by have :=aJ rZ.o;omega⟩);have anI:(aP n).length<=8:=by rw[kD];omega
   have qI:=zh (show(aV (aP n) l).1.length<=1048576 by have :=CO l (aP n);omega);obtain⟨gb,hgb⟩:∃gb,gb=w2.heap.size:=⟨_,rfl⟩;rw[<-hgb]at Qy ⊢;clear hgb HB1 HB2 yl rZ gX;go_loopw[21](fun i W=>∃(j:Nat)(cv gv:Value),j<=l.length/\i= .int .i64 (j:Int)/\Qx w g gb rb (aV (aP n) (l.take j)).1 (aV (aP n) (l.take j)).2 (n:Int) (-1) cv gv W)(fun i _=>l.length - (intOf i).toNat);case atStart=>exact⟨0,_,_,dn _,rfl,Qy.out⟩
   case round=>
    obtain⟨j,cv,gv,hj,rfl,hcd⟩:=hrel;have CD:=zh hcd;obtain⟨hbel,hmk,nK,hown,hres,hgw,We,hne1,hne2,Ba⟩:=hcd;have hgb:=aJ nK;obtain⟨na,nc,rfl,hnl,hnm⟩:=ah.val hown;have Kw:(aV (aP n) (l.take j)).2.length=(l.take j).length:=yg _ _;have hll:(l.take j).length<=l.length:=by rw[eY];omega
    by_cases hlt:j<l.length
    ·obtain⟨rfl,bC⟩:=Eu.o (by omega);obtain⟨sa,sc,d0,d1,d2,d3,hr⟩:=gq HE.o bC (af.ob hbel) hlt;have hlt':(j:Int)<(l.length:Int):=by omega
     have hj0:(0:Int)<=(j:Int):=zN _;obtain⟨t,ht⟩:∃t,t=l[j]'hlt:=⟨_,rfl⟩;rw[<-ht]at d0 d1 d2 d3 hr;have HT:=zh ht;have ky:=zh hlt;have vk:=adO (aP n) l j hlt;rw[<-ht]at vk;have HR:=zh (show Tm.rep (fun b=>b<w.heap.size) _ t _ from Tm.aj.1 _ _ _ _ _ (V9.out t (by rw[ht];exact bO _) _ (af.ob hbel) hr) (af.alloc _ _ (.cells #[.int .i64 t.kind,.int .i64 t.n,.string t.s,.slice sa t.args.length sc] 34)));obtain⟨nn,hnn⟩:∃nn,nn=(aV (aP n) (l.take j)).2.length:=⟨_,rfl⟩;rw[<-hnn]at nK hown CD hnl;have ym:=zh (hbel.alloc hbel.size (.cells #[.int .i64 t.kind,.int .i64 t.n,.string t.s,.slice sa t.args.length sc] 34));have jQ:=zh (hmk.below ((zB _ _).alloc (zL _) (.cells #[.int .i64 t.kind,.int .i64 t.n,.string t.s,.slice sa t.args.length sc] 34)));have fH:=zh (aX nK (.cells #[.int .i64 t.kind,.int .i64 t.n,.string t.s,.slice sa t.args.length sc] 34));have qJ:=zh (bJ wr (.cells #[.int .i64 t.kind,.int .i64 t.n,.string t.s,.slice sa t.args.length sc] 34));have HOW:=zh (ah.below hown ((zB _ _).alloc (zL _) (.cells #[.int .i64 t.kind,.int .i64 t.n,.string t.s,.slice sa t.args.length sc] 34)));have yn:=zh (aX hres (.cells #[.int .i64 t.kind,.int .i64 t.n,.string t.s,.slice sa t.args.length sc] 34));obtain⟨ee,iC⟩:∃ee,ee=wr.heap.size:=⟨_,rfl⟩;have hsz0:ee<(wr.alloc (.cells #[.int .i64 t.kind,.int .i64 t.n,.string t.s,.slice sa t.args.length sc] 34)).heap.size:=by rw[iC];simp
     have hgg:=aJ hmk.box;have anJ:g<ee:=by omega
     rw[<-iC]at qJ;have EC:=zh (fun b(hb:ownB cv=some b)=>hmk.own.lt b hb);have ED:=zh iC;have hbl:(aV (aP n) (l.take j)).1.length+1+2*t.nodes<=4194304:=by omega
     clear hr ht hbel hmk nK hown hres vk Kw hnn;go_wp2_with fail;clear d0 d1 d2 d3;rw[<-ED.o];clear iC;generalize wr.alloc (.cells #[.int .i64 t.kind,.int .i64 t.n,.string t.s,.slice sa t.args.length sc] 34)=wa at ym jQ fH qJ HOW yn hsz0 HR ⊢;have hW1:wa.drew.heap[gb]?=some (.cells #[.slice none 0 0,.int .i64 (n:Int),.int .i64 (-1),.slice na nn nc] 67 (0,0))/\wa.drew.heap[ee]?=some (.cells #[.int .i64 t.kind,.int .i64 t.n,.string t.s,.slice sa t.args.length sc] 34 (0,0)):=⟨fH.o,qJ.o⟩;refine iG (F:=fun k w'=>k=1\/k=3->(w'.heap[gb]?=some (.cells #[.slice none 0 0,.int .i64 (n:Int),.int .i64 (-1),.slice na nn nc] 67 (0,0))/\w'.heap[ee]?=some (.cells #[.int .i64 t.kind,.int .i64 t.n,.string t.s,.slice sa t.args.length sc] 34 (0,0)))) (by kernel_rfl) ?_;refine aD (i:=0) (v:=?_) rfl (Or.inl ⟨by rfl,?_⟩) (fun _=>hW1) ?_;rotate_left;·(intro w' hw;clear hw;go_simp<;>with_reducible rfl)
     simp only[zP];refine aD (i:=1) (v:=?_) rfl (Or.inl ⟨by rfl,?_⟩) (fun _=>hW1) ?_;rotate_left;·(intro w' hw;obtain⟨q0,q1,q2,q3,qf⟩:=aU (hw (by omega)).1;go_simp<;>with_reducible rfl)
     simp only[zP];refine aD (i:=2) (v:=?_) rfl (Or.inl ⟨by rfl,?_⟩) (fun _=>hW1) ?_;rotate_left;·(intro w' hw;clear hw;go_simp<;>with_reducible rfl)
     simp only[zP];refine aD (i:=3) (v:=?_) rfl (Or.inl ⟨by rfl,?_⟩) (fun _=>hW1) ?_;rotate_left;·(intro w' hw;obtain⟨q0,q1,q2,q3,qf⟩:=aU (hw (by omega)).2;go_simp<;>with_reducible rfl)
     simp only[zP];refine aM (i:=4) (by kernel_rfl) (aF rfl (by rfl) ?_);go_simp;refine(Qu t g (g+1) (aV (aP n) (l.take j)).1 cv (fun b=>b<w.heap.size) wa.drew [_,_,_,_] (jQ.o.below (zB _ _).drew) hbl (Tm.aj.1 _ _ _ _ _ HR.o (af.drew _ _)) (fun b hb=>⟨by have :=ym.out.size;simp;omega,fun e=>by
      rcases e with e|e;·omega
      ·have :=(EC.o b e).1;omega⟩)).mono ?_;rintro e w2⟨rfl,lI,hm2,hc2,ho2⟩;have zG:¬iV g cv gb:=fun e=>by
      rcases e with e|e;·exact hne1 e
      ·exact ah.eD jQ.o.own fH.o (by decide) e
     have Ky:¬iV g cv ee:=fun e=>by
      rcases e with e|e;·omega
      ·have h1:=(EC.o _ e).2;have h2:=ED.o;omega
     have yo:¬iV g cv rb:=fun e=>by
      rcases e with e|e;·exact hne2 e
      ·exact ah.eD jQ.o.own yn.o (by decide) e
     have HB2:=zh (ym.out.drew.trans (((Ch.refl _ _).trans hc2 (fun _ h=> .inl h)).mono (M':=iV g cv) (fun _ _ h=>h)|> fun h=>(show Below w.heap.size wa.drew w2 from⟨h.os,h.tape,h.output,h.size,fun k hk=>h.block k (by have :=ym.out.size;simp;omega) (fun e=>by
      rcases e with e|e;·omega
      ·have :=(EC.o k e).1;omega)⟩)));have vo:=zh ((hc2.block gb (by simpa using aJ fH.o) zG).trans (show wa.drew.heap[gb]?=_ from fH.o));have rZ:=zh ((hc2.block rb (by simpa using aJ yn.o) yo).trans (show wa.drew.heap[rb]?=_ from yn.o));have si:=zh (ah.kept HOW.o (w':=w2) (fun b hb=>hc2.block b (by simpa using(HOW.o.lt b hb).2) (fun e=>by
      rcases e with e|e;·have :=(HOW.o.lt b hb).1;omega
      ·exact rU (by decide) jQ.o.own HOW.o b e hb)));have gX:=zh hm2;refine⟨fun k hk hF iW=>⟨(hc2.block gb (by simpa using aJ fH.o) zG).trans (hF iW).1,(hc2.block ee (by simpa using aJ qJ.o) Ky).trans (hF iW).2⟩,?_⟩;clear hc2 ho2 hm2 zG Ky yo hW1 jQ fH qJ HOW yn ym HR;try simp only[zP]
     refine aM (i:=5) (by kernel_rfl) (aF rfl (by rfl) ?_);go_simp;refine⟨fun k hk hF iW=>⟨aX (hF iW).1 _,aX (hF iW).2 _⟩,?_⟩;refine aM (i:=6) (by kernel_rfl) (aF rfl (by rfl) ?_);have hz2:=gX.o.A9;have adR:(aV (aP n) (l.take j)).1.length<=4194304:=by omega
     refine oh (.tmp 26) (.tmp 30) 57 rfl (g+1) 3 1 8 jP aW (.slice na nn nc) (aV (aP n) (l.take j)).2 rfl (ah.gN dY si.o (fun _=>True)) ((aV (aP n) (l.take j)).1.length:Int) [(.int .i64 ((aV (aP n) (l.take j)).1.length:Int))] rfl rfl ⟨by unfold aA;omega,rfl⟩ ⟨by rw[yg];omega,hz2⟩ ?_;intro v2 w4 hown2 aB;have iB:=zh (ah.fG hown2);have yt:=gX.o.own;have hkc:∀b,ownB (.slice na nn nc)=some b->b≠gb/\b≠g/\b≠rb/\ownB lI≠some b:=fun b hb=>⟨fun e=>ah.eD si.o vo.o (by decide) (e▸hb),fun e=>ah.eD si.o gX.o.box (by decide) (e▸hb),fun e=>ah.eD si.o rZ.o (by decide) (e▸hb),fun e=>rU (by decide) yt si.o b e hb⟩;have l9:∀k,k<w2.heap.size->ownB (.slice na nn nc)≠some k->w4.heap[k]?=w2.heap[k]?:=fun k hk hn=>(aB.grown.block k (by simp;omega) (fun e=>hn e.symm)).trans (JA _ _ _ hk);have yu:=zh ((l9 gb (aJ vo.o) (fun e=>(hkc _ e).1 rfl)).trans vo.o);have CP:=zh ((l9 rb (aJ rZ.o) (fun e=>(hkc _ e).2.2.1 rfl)).trans rZ.o);have Kz:=zh ((l9 g (aJ gX.o.box) (fun e=>(hkc _ e).2.1 rfl)).trans gX.o.box);have KA:=zh (ah.kept yt (w':=w4) (fun b hb=>l9 b (yt.lt b hb).2 (fun e=>(hkc b e).2.2.2 hb)));have bX:=zh (aB.below (HB2.o.alloc HB2.o.size (.cells #[.int .i64 ((aV (aP n) (l.take j)).1.length:Int)] 3)) (by have :=HB2.o.size;simp;omega) (fun b hb=>by have :=(si.o.lt b hb).1;omega));refine⟨fun k hk hF iW=>⟨(aB.grown.block gb (by have :=aJ vo.o;simp;omega) (fun e=>(hkc _ e.symm).1 rfl)).trans (hF iW).1,(aB.grown.block ee (aJ (hF iW).2) (fun e=>ah.eD (ah.below si.o ((zB _ _).alloc (zL _) _)) (hF iW).2 (by decide) e.symm)).trans (hF iW).2⟩,?_⟩;obtain⟨aY,aZ,hv2, -, -⟩:=ah.val iB.o;rw[bT,jr]at hv2;subst hv2;clear hown2 aB l9 hkc yt;try simp only[zP]
     refine aM (i:=7) (by kernel_rfl) (aF rfl (by rfl) ?_);go_simp;refine⟨fun _ _ h=>h,?_⟩;obtain⟨y0,y1,y2,y3,yf⟩:=aU yu.o;refine aM (i:=8) (by kernel_rfl) (aF rfl (by rfl) ?_);go_simp;refine⟨fun k hk _ h1=>?_,fO (by kernel_rfl) ?_ _⟩
     ·rcases h1 with h1|h1;·subst h1;exact absurd (show waits _ 8 1=true by kernel_rfl) (by rw[hk];decide)
      ·subst h1;exact absurd (show waits _ 8 3=true by kernel_rfl) (by rw[hk];decide)
     go_wp2_with fail;go_roundw;case rel=>
      have hgl:(aV (aP n) (l.take j)).2.length+1=((aV (aP n) (l.take j)).2++[((aV (aP n) (l.take j)).1.length:Int)]).length:=by simp
      refine⟨j+1,lI,.slice aY ((aV (aP n) (l.take j)).2.length+1) aZ,by omega,by go_num,?_⟩;rw[dX ky.o,V8,<-HT.o];refine⟨bX.o.setCell (by simp only;omega) _,⟨?_,?_,gX.o.lt,gX.o.len,?_⟩,(bG yu.o 3 _).trans rfl,?_,?_,hgw,We,hne1,hne2,Ba⟩;·rw[bH _ _ _ _ (by simp only;exact fun e=>hne1 e.symm)];exact Kz.o
      ·exact ah.kept KA.o (fun b hb=>bH _ _ _ _ (by simp only;exact fun e=>ah.eD KA.o yu.o (by decide) (e▸hb)))
      ·have :=aJ Kz.o;simp;omega
      ·exact ah.kept iB.o (fun b hb=>bH _ _ _ _ (by simp only;exact fun e=>ah.eD iB.o yu.o (by decide) (e▸hb)))
      ·rw[bH _ _ _ _ (by simp only;exact Ba)];exact CP.o
     case measure=>first|(simp[intOf];done)|(simp[intOf];omega)
    ·have eH:j=l.length:=by omega
     subst eH;have hlt':¬((l.length:Int)<(l.length:Int)):=by omega
     obtain⟨ca,cc,rfl,hcl,hcm⟩:=ah.val hmk.own;obtain⟨m0,mf⟩:=vg hmk.box;obtain⟨y0,y1,y2,y3,yf⟩:=aU nK;obtain⟨r0,r1,r2,r3,rf⟩:=aU hres;have hgg:=aJ hmk.box;clear hlt hbel hmk nK hown hres Kw;rw[jd]at CD;have hxl:(aV (aP n) (l.take l.length)).1=(aV (aP n) l).1:=by rw[jd]
     have hgl:(aV (aP n) (l.take l.length)).2=(aV (aP n) l).2:=by rw[jd]
     rw[hxl]at m0 hcl;rw[hgl]at y3 hnl;clear hxl hgl;obtain⟨X,hX⟩:∃X,X=aV (aP n) l:=⟨_,rfl⟩;rw[<-hX]at m0 hcl y3 hnl CD;have HX:=zh hX;clear hX;go_wp2_with fail;have hch:Ch (fun b=>b=gb\/b=rb) wr wr:=Ch.refl _ _;have bU:=(((((hch.setCell (p:=⟨gb,0,none⟩) (.inl (.inl rfl)) (.slice ca X.1.length cc)).setCell (p:=⟨rb,0,none⟩) (.inl (.inr rfl)) (.slice ca X.1.length cc)).setCell (p:=⟨rb,1,none⟩) (.inl (.inr rfl)) (.int .i64 (n:Int))).setCell (p:=⟨rb,2,none⟩) (.inl (.inr rfl)) (.int .i64 (-1))).setCell (p:=⟨rb,3,none⟩) (.inl (.inr rfl)) (.slice na X.2.length nc));have Wh:¬gb=rb:=fun e=>Ba e.symm;have c1:=CD.out.mkr.own;have c2:=CD.out.own;have c3:=CD.out.box;have c4:=CD.out.res;have EE:=Ch.below (Ch.trans (Ch.of_below (M:=fun b=>b=gb\/b=rb) CD.out.yh) bU (fun _ h=> .inl h)) (fun k hk e=>by omega);refine dD (v:= .tuple #[.agg #[.slice ca X.1.length cc,.int .i64 (n:Int),.int .i64 (-1),.slice na X.2.length nc],.int .i64 0]) (by simp[results,Tryz.results32,go_sem,hcs,r0,r1,r2,r3,y0,y1,y2,y3,Ba,Wh];try rfl) rfl ?_;rw[EB.o];have Wi:=qI.o;rw[<-HX.o]at Wi;refine Pure.mk EE ⟨_,_,rfl,?_,?_⟩
     ·show rC _ _ (aV (aP n) l).1 _;rw[<-HX.o];exact ah.sl Ce.kC Ce.AV (ah.kept c1 (fun b hb=>bU.block b (c1.lt b hb).2 (fun e=>by
       rcases e with e|e;·exact ah.eD c1 c3 (by decide) (e▸hb)
       ·exact ah.eD c1 c4 (by decide) (e▸hb)))) (by omega) (fun b hb=>by have :=(c1.lt b hb).1;unfold New;omega)
     ·show gD _ _ (aV (aP n) l).2 _;rw[<-HX.o];have hl2:=yg l (aP n);rw[<-HX.o]at hl2;exact ah.sl dY zC (ah.kept c2 (fun b hb=>bU.block b (c2.lt b hb).2 (fun e=>by
       rcases e with e|e;·exact ah.eD c2 c3 (by decide) (e▸hb)
       ·exact ah.eD c2 c4 (by decide) (e▸hb)))) (by omega) (fun b hb=>by have :=(c2.lt b hb).1;unfold New;omega)
theorem anK(c:Cl)(hnd:c.nodes<=1099511627776)(w:World)(vs:List Value)(hc:Cl.rep (fun b=>b<w.heap.size) w c vs):Calls Tryz.prog 31 #[.agg vs.toArray] w (Pure w (adP (New w) (EA c))):=by
 have hcs:=dH;have yj:=zh (fun(W:World)(h:Below w.heap.size w W)=>ac6 c hnd (fun b=>b<w.heap.size) W vs (Cl.aj.1 _ _ _ _ _ hc (af.ob h)));obtain⟨h,l,v⟩:=c;obtain⟨ha,hcp,a,cap,rfl,hh,hu,hi⟩:=hc;simp only at hh hu hi;obtain⟨_,_,b,off,e, -, -,hlb,mP,he⟩:=hu.at;simp only[dC,dL]at e;obtain⟨rfl,rfl⟩:=e;have HE:=zh he;have Eu:=zh mP;have Qz:=zh hh;have V9:=zh (show ∀t∈l,∀(W:World),af (fun b=>b<w.heap.size) w W->∀{us},Tm.rep (fun b=>b<w.heap.size) W t us->Tm.rep (fun b=>b<w.heap.size) W t us from fun _ _ _ _ _ h=>h);simp only[Cl.nodes]at hnd;clear hu mP he hh;go_enter Tryz.func31,Tryz.ntmps31;go_wp2_with fail;have h2:=je w (.cells #[.int .i64 h.kind,.int .i64 h.n,.string h.s,.slice ha h.args.length hcp,.slice a l.length cap,.int .i64 v] 65) (.cells #[.slice none 0 0,.int .i64 0,.int .i64 0,.slice none 0 0] 67);have adS:=zh h2.1;have Kv:=zh h2.2;have HB0:=zh (((iF _ w).alloc (zL _) (.cells #[.int .i64 h.kind,.int .i64 h.n,.string h.s,.slice ha h.args.length hcp,.slice a l.length cap,.int .i64 v] 65)).alloc (by simp) (.cells #[.slice none 0 0,.int .i64 0,.int .i64 0,.slice none 0 0] 67));refine(yj.o _ HB0.o).mono ?_;rintro e w1⟨r,rfl,hb1,q,rfl,hq⟩;have HB1:=zh (HB0.o.trans (hb1.mono HB0.o.size));have yl:=zh (aL Kv.o hb1);have G5:=zh (aL adS.o hb1);clear hb1 HB0 Kv adS h2;obtain⟨rb,hrb⟩:∃rb,rb=w.heap.size+1:=⟨_,rfl⟩;obtain⟨pb,hpb⟩:∃pb,pb=w.heap.size:=⟨_,rfl⟩;have hrw:rb<w1.heap.size:=by rw[hrb];exact aJ yl.o
 have anH:w.heap.size<=rb:=by omega
 have hpw:pb<w1.heap.size:=by omega
 rw[<-hrb]at yl;rw[<-hpb]at G5;obtain⟨r0,r1,r2,r3,rf⟩:=aU yl.o;rw[<-hrb];rw[<-hpb];clear hrb hpb;cases q with
  |false=>
   have oD:¬(⟨h,l,v⟩:Cl).Good:=fun h=>by have :=hq.2 h;cases this
   have EB:=zh (show EA ⟨h,l,v⟩=(Qw,1)by rw[EA,ag oD]);clear oD hq;go_wp2_with fail;refine dD (v:= .tuple #[.agg #[.slice none 0 0,.int .i64 0,.int .i64 0,.slice none 0 0],.int .i64 1]) (by simp[results,Tryz.results31,go_sem,hcs,r0,r1,r2,r3];try rfl) rfl ?_;rw[EB.o];exact Pure.mk (bK (bK (bK (bK HB1.o (by simp only;omega) _) (by simp only;omega) _) (by simp only;omega) _) (by simp only;omega) _) ⟨_,_,rfl,au.nil ..,au.nil ..⟩
  |true=>
   have nJ:(⟨h,l,v⟩:Cl).Good:=hq.1 rfl;have EB:=zh (show EA ⟨h,l,v⟩=(aN ⟨h,l,v⟩,0)by rw[EA,ai nJ]);obtain⟨⟨v0,v8,l5,lg⟩, -,hft, -⟩:=nJ;simp only at v0 v8 l5 lg hft;have hhn:=hft.2;obtain⟨n,rfl⟩:=dQ v0;have J9:=Ku l (fun g hg=>(lg g hg).2.2);clear lg hnd hq hft;obtain⟨x0,x1,x2,x3,x4,x5,xf⟩:=fQ G5.o;go_wp2_with fail;refine(adN n (by omega) w1).mono ?_;rintro e w2⟨wQ,rfl,hb2,hm2⟩;have HB2:=zh (HB1.o.trans (hb2.mono HB1.o.size));have rZ:=zh (aL yl.o hb2);have KC:=zh (aL G5.o hb2);have gX:=zh hm2;have hz2:=aJ hm2.box;have hz1:=HB1.o.size;clear hb2 hm2 r0 r1 r2 r3 rf x0 x1 x2 x3 x4 x5 xf;obtain⟨g,hg⟩:∃g,g=w1.heap.size:=⟨_,rfl⟩;rw[<-hg]at gX hz2 ⊢;have hgr:rb<g:=by omega
   have wR:pb<g:=by omega
   have hgw:w.heap.size<=g:=by omega
   clear hg HB1 yl G5;go_wp2_with fail;go_cut[5](fun u5 wr=>∃(gb:Nat)(cv:Value),u5= .pointer (some ⟨gb,0,none⟩)/\Qx w g gb rb (aV (bE (aP n) h) (l.take 0)).1 (aV (bE (aP n) h) (l.take 0)).2 (n:Int) (n:Int) cv (.slice none 0 0) wr/\wr.heap[pb]?=some (.cells #[.int .i64 h.kind,.int .i64 h.n,.string h.s,.slice ha h.args.length hcp,.slice a l.length cap,.int .i64 (n:Int)] 65 (0,0)));case first=>
    have hW1:w2.drew.heap[pb]?=some (.cells #[.int .i64 h.kind,.int .i64 h.n,.string h.s,.slice ha h.args.length hcp,.slice a l.length cap,.int .i64 (n:Int)] 65 (0,0)):=KC.o;have Bb:=zh (gX.o.below (zB _ _).drew);have HB3:=zh (HB2.o.drew);have G6:=zh (show w2.drew.heap[rb]?=_ from rZ.o);have EF:=zh hW1;refine iG (F:=fun k w'=>k=1\/k=4->w'.heap[pb]?=some (.cells #[.int .i64 h.kind,.int .i64 h.n,.string h.s,.slice ha h.args.length hcp,.slice a l.length cap,.int .i64 (n:Int)] 65 (0,0))) (by kernel_rfl) ?_;refine aD (i:=0) (v:=?_) rfl (Or.inl ⟨by rfl,?_⟩) (fun _=>hW1) ?_;rotate_left;·(intro w' hw;clear hw;go_simp<;>with_reducible rfl)
    simp only[zP];refine aD (i:=1) (v:=?_) rfl (Or.inl ⟨by rfl,?_⟩) (fun _=>hW1) ?_;rotate_left;·(intro w' hw;obtain⟨q0,q1,q2,q3,q4,q5,qf⟩:=fQ (hw (by omega));go_simp<;>with_reducible rfl)
    simp only[zP];refine aD (i:=2) (v:=?_) rfl (Or.inl ⟨by rfl,?_⟩) (fun _=>hW1) ?_;rotate_left;·(intro w' hw;clear hw;go_simp<;>with_reducible rfl)
    simp only[zP];refine aD (i:=3) (v:=?_) rfl (Or.inl ⟨by rfl,?_⟩) (fun _=>hW1) ?_;rotate_left;·(intro w' hw;clear hw;go_simp<;>with_reducible rfl)
    simp only[zP];refine aD (i:=4) (v:=?_) rfl (Or.inl ⟨by rfl,?_⟩) (fun _=>hW1) ?_;rotate_left;·(intro w' hw;obtain⟨q0,q1,q2,q3,q4,q5,qf⟩:=fQ (hw (by omega));go_simp<;>with_reducible rfl)
    simp only[zP];clear HB2 rZ KC gX hW1;generalize w2.drew=w3 at Bb HB3 G6 EF ⊢;refine GZ (i:=5) (j:=7) (by kernel_rfl) (aF rfl (by rfl) ?_) (aF rfl (by rfl) ?_)
    ·go_simp;refine(Qu h g (g+1) (aP n) wQ (fun b=>b<w.heap.size) w3 [_,_,_,_] Bb.o (by rw[kD];omega) (Tm.aj.1 _ _ _ _ _ Qz.o (af.ob HB3.o)) (fun b hb=>⟨by have :=HB3.o.size;omega,fun e=>by
      rcases e with e|e;·omega
      ·have :=(Bb.o.own.lt b e).1;omega⟩)).mono ?_;rintro e w5⟨rfl,lI,KE,tZ,Wj⟩;have EG:¬iV g wQ pb:=fun e=>by
      rcases e with e|e;·omega
      ·exact ah.eD Bb.o.own EF.o (by decide) e
     have yo:¬iV g wQ rb:=fun e=>by
      rcases e with e|e;·omega
      ·exact ah.eD Bb.o.own G6.o (by decide) e
     have G7:=zh ((tZ.block pb (aJ EF.o) EG).trans EF.o);have Bc:=zh ((tZ.block rb (aJ G6.o) yo).trans G6.o);have dF:=zh (Ch.below (Ch.trans (Ch.of_below (M:=iV g wQ) HB3.o) tZ (fun _ h=> .inl h)) (fun k hk e=>by
      rcases e with e|e;·omega
      ·have :=(Bb.o.own.lt k e).1;omega));have KF:=zh KE;rw[kD];refine⟨fun k hk hF iW=>(tZ.block pb (aJ EF.o) EG).trans (hF iW),?_⟩;clear EG yo tZ Wj KE;try simp only[zP]
     refine aD (i:=6) (v:=?_) rfl (Or.inl ⟨by rfl,?_⟩) (fun h=>absurd h (by decide)) ?_;rotate_left;·(intro w' hw;clear hw;go_simp<;>with_reducible rfl)
     simp only[zP];refine aM (i:=7) (by kernel_rfl) (aF rfl (by rfl) ?_);go_simp;refine⟨fun k hk hF iW=>aX (hF iW) _,?_⟩;have kE:=zh (bJ w5 (.cells #[.slice none 0 0,.int .i64 0,.int .i64 0,.slice none 0 0] 67));have KH:=zh ((iF _ w5).alloc (zL _) (.cells #[.slice none 0 0,.int .i64 0,.int .i64 0,.slice none 0 0] 67));have HPZ:=zh (aX G7.o (.cells #[.slice none 0 0,.int .i64 0,.int .i64 0,.slice none 0 0] 67));obtain⟨gb,hgb⟩:∃gb,gb=w5.heap.size:=⟨_,rfl⟩;rw[<-hgb]at kE ⊢;have hg5:=aJ KF.o.box;have KI:=aJ Bc.o;have hp5:=aJ G7.o;have hb5:=dF.o.size;have oG:=aJ kE.o;have KJ:=zh hgb;have q1:g<gb:=by omega
     have q2:rb<gb:=by omega
     have q3:pb<gb:=by omega
     have q4:w.heap.size<=gb:=by omega
     clear hgb;generalize w5.alloc (.cells #[.slice none 0 0,.int .i64 0,.int .i64 0,.slice none 0 0] 67)=wz at kE KH HPZ oG ⊢;obtain⟨y0,y1,y2,y3,yf⟩:=aU kE.o;try simp only[zP]
     refine aM (i:=8) (by kernel_rfl) (aF rfl (by rfl) ?_);go_simp;refine⟨fun k hk _ h1=>?_,fO (by kernel_rfl) ?_ _⟩
     ·rcases h1 with h1|h1;·subst h1;exact absurd (show waits _ 8 1=true by kernel_rfl) (by rw[hk];decide)
      ·subst h1;exact absurd (show waits _ 8 4=true by kernel_rfl) (by rw[hk];decide)
     go_wp2_with fail;go_meet;have hBW:Below w5.heap.size w5 ((((wz.setCell ⟨gb,0,none⟩ (.slice none 0 0)).setCell ⟨gb,1,none⟩ (.int .i64 (n:Int))).setCell ⟨gb,2,none⟩ (.int .i64 (n:Int))).setCell ⟨gb,3,none⟩ (.slice none 0 0)):=by have :=KJ.o;exact bK (bK (bK (bK KH.o (by simp only;omega) _) (by simp only;omega) _) (by simp only;omega) _) (by simp only;omega) _
     exact⟨gb,lI,rfl,⟨dF.o.trans (hBW.mono dF.o.size),KF.o.below hBW,(bG (bG (bG (bG kE.o 0 _) 1 _) 2 _) 3 _).trans rfl,ah.nil,aL Bc.o hBW,hgw,q4,by omega,by omega,by omega⟩,aL G7.o hBW⟩
    ·go_simp;refine⟨fun k hk hF iW=>aX (hF iW) _,?_⟩;have kE:=zh (bJ w3 (.cells #[.slice none 0 0,.int .i64 0,.int .i64 0,.slice none 0 0] 67));have CQ:=zh (Bb.o.below ((zB _ _).alloc (zL _) (.cells #[.slice none 0 0,.int .i64 0,.int .i64 0,.slice none 0 0] 67)));have bX:=zh (HB3.o.alloc HB3.o.size (.cells #[.slice none 0 0,.int .i64 0,.int .i64 0,.slice none 0 0] 67));have KL:=zh (aX EF.o (.cells #[.slice none 0 0,.int .i64 0,.int .i64 0,.slice none 0 0] 67));have CP:=zh (aX G6.o (.cells #[.slice none 0 0,.int .i64 0,.int .i64 0,.slice none 0 0] 67));obtain⟨gb,hgb⟩:∃gb,gb=w3.heap.size:=⟨_,rfl⟩;rw[<-hgb]at kE ⊢;have hg5:=aJ Bb.o.box;have KI:=aJ G6.o;have hp5:=aJ EF.o;have hb5:=HB3.o.size;have hown3:=zh (fun b(hb:ownB wQ=some b)=>(Bb.o.own.lt b hb).2);have KJ:=zh hgb;have q1:g<gb:=by omega
     have q2:rb<gb:=by omega
     have q3:pb<gb:=by omega
     have q4:w.heap.size<=gb:=by omega
     clear hgb;generalize w3.alloc (.cells #[.slice none 0 0,.int .i64 0,.int .i64 0,.slice none 0 0] 67)=wz at kE CQ bX KL CP ⊢;try simp only[zP]
     refine aM (i:=5) (by kernel_rfl) (aF rfl (by rfl) ?_);go_simp;refine(Qu h g (g+1) (aP n) wQ (fun b=>b<w.heap.size) wz [_,_,_,_] CQ.o (by rw[kD];omega) (Tm.aj.1 _ _ _ _ _ Qz.o (af.ob bX.o)) (fun b hb=>⟨by have :=bX.o.size;omega,fun e=>by
      rcases e with e|e;·omega
      ·have :=(CQ.o.own.lt b e).1;omega⟩)).mono ?_;rintro e w5⟨rfl,lI,KE,tZ,Wj⟩;have EG:¬iV g wQ pb:=fun e=>by
      rcases e with e|e;·omega
      ·exact ah.eD CQ.o.own KL.o (by decide) e
     have yo:¬iV g wQ rb:=fun e=>by
      rcases e with e|e;·omega
      ·exact ah.eD CQ.o.own CP.o (by decide) e
     have G7:=zh ((tZ.block pb (aJ KL.o) EG).trans KL.o);have Bc:=zh ((tZ.block rb (aJ CP.o) yo).trans CP.o);have dF:=zh (Ch.below (Ch.trans (Ch.of_below (M:=iV g wQ) bX.o) tZ (fun _ h=> .inl h)) (fun k hk e=>by
      rcases e with e|e;·omega
      ·have :=(CQ.o.own.lt k e).1;omega));have KF:=zh KE;rw[kD];have zG:¬iV g wQ gb:=fun e=>by
      rcases e with e|e;·omega
      ·have h1:=hown3.out _ e;have h2:=KJ.o;omega
     have QA:=zh ((tZ.block gb (aJ kE.o) zG).trans kE.o);refine⟨fun k hk hF iW=>(tZ.block pb (aJ KL.o) EG).trans (hF iW),?_⟩;clear EG yo zG tZ Wj KE;try simp only[zP]
     refine aM (i:=6) (by kernel_rfl) (aF rfl (by rfl) ?_);go_simp;refine⟨fun _ _ h=>h,?_⟩;obtain⟨y0,y1,y2,y3,yf⟩:=aU QA.o;have oG:=aJ QA.o;try simp only[zP]
     refine aM (i:=8) (by kernel_rfl) (aF rfl (by rfl) ?_);go_simp;refine⟨fun k hk _ h1=>?_,fO (by kernel_rfl) ?_ _⟩
     ·rcases h1 with h1|h1;·subst h1;exact absurd (show waits _ 8 1=true by kernel_rfl) (by rw[hk];decide)
      ·subst h1;exact absurd (show waits _ 8 4=true by kernel_rfl) (by rw[hk];decide)
     go_wp2_with fail;go_meet;have hch:Ch (fun b=>b=gb) w5 w5:=Ch.refl _ _;have bU:=(((hch.setCell (p:=⟨gb,0,none⟩) (.inl rfl) (.slice none 0 0)).setCell (p:=⟨gb,1,none⟩) (.inl rfl) (.int .i64 (n:Int))).setCell (p:=⟨gb,2,none⟩) (.inl rfl) (.int .i64 (n:Int))).setCell (p:=⟨gb,3,none⟩) (.inl rfl) (.slice none 0 0);exact⟨gb,lI,rfl,⟨(Ch.trans (Ch.of_below (M:=fun b=>b=gb) dF.o) bU (fun _ h=> .inl h)).below (fun k hk e=>by omega),KF.o.ch bU (fun b hb e=>by
      rcases hb with hb|hb;·omega
      ·exact ah.eD KF.o.own QA.o (by decide) (e▸hb)),(bG (bG (bG (bG QA.o 0 _) 1 _) 2 _) 3 _).trans rfl,ah.nil,(bU.block rb (aJ Bc.o) (by omega)).trans Bc.o,hgw,q4,by omega,by omega,by omega⟩,(bU.block pb (aJ G7.o) (by omega)).trans G7.o⟩
   case rest=>
    obtain⟨gb,cv,rfl,hcd,adT⟩:=hcut;have Qy:=zh hcd;obtain⟨x0,x1,x2,x3,x4,x5,xf⟩:=fQ adT;have anI:(bE (aP n) h).length<=56:=by have :=(Kt h (aP n)).2;rw[kD]at this;omega
    have qI:=zh (show(aV (bE (aP n) h) l).1.length<=1048576 by have :=CO l (bE (aP n) h);omega);clear hcd adT gX HB2 rZ KC;go_wp2_with fail;clear x0 x1 x2 x3 x4 x5 xf;go_loopw[25](fun i W=>∃(j:Nat)(cv gv:Value),j<=l.length/\i= .int .i64 (j:Int)/\Qx w g gb rb (aV (bE (aP n) h) (l.take j)).1 (aV (bE (aP n) h) (l.take j)).2 (n:Int) (n:Int) cv gv W)(fun i _=>l.length - (intOf i).toNat);case atStart=>exact⟨0,_,_,dn _,rfl,Qy.out⟩
    case round=>
     obtain⟨j,cv,gv,hj,rfl,hcd⟩:=hrel;have CD:=zh hcd;obtain⟨hbel,hmk,nK,hown,hres,hgw,We,hne1,hne2,Ba⟩:=hcd;have hgb:=aJ nK;obtain⟨na,nc,rfl,hnl,hnm⟩:=ah.val hown;have Kw:(aV (bE (aP n) h) (l.take j)).2.length=(l.take j).length:=yg _ _;have hll:(l.take j).length<=l.length:=by rw[eY];omega
     by_cases hlt:j<l.length
     ·obtain⟨rfl,bC⟩:=Eu.o (by omega);obtain⟨sa,sc,d0,d1,d2,d3,hr⟩:=gq HE.o bC (af.ob hbel) hlt;have hlt':(j:Int)<(l.length:Int):=by omega
      have hj0:(0:Int)<=(j:Int):=zN _;obtain⟨t,ht⟩:∃t,t=l[j]'hlt:=⟨_,rfl⟩;rw[<-ht]at d0 d1 d2 d3 hr;have HT:=zh ht;have ky:=zh hlt;have vk:=adO (bE (aP n) h) l j hlt;rw[<-ht]at vk;have HR:=zh (show Tm.rep (fun b=>b<w.heap.size) _ t _ from Tm.aj.1 _ _ _ _ _ (V9.out t (by rw[ht];exact bO _) _ (af.ob hbel) hr) (af.alloc _ _ (.cells #[.int .i64 t.kind,.int .i64 t.n,.string t.s,.slice sa t.args.length sc] 34)));obtain⟨nn,hnn⟩:∃nn,nn=(aV (bE (aP n) h) (l.take j)).2.length:=⟨_,rfl⟩;rw[<-hnn]at nK hown CD hnl;have ym:=zh (hbel.alloc hbel.size (.cells #[.int .i64 t.kind,.int .i64 t.n,.string t.s,.slice sa t.args.length sc] 34));have jQ:=zh (hmk.below ((zB _ _).alloc (zL _) (.cells #[.int .i64 t.kind,.int .i64 t.n,.string t.s,.slice sa t.args.length sc] 34)));have fH:=zh (aX nK (.cells #[.int .i64 t.kind,.int .i64 t.n,.string t.s,.slice sa t.args.length sc] 34));have qJ:=zh (bJ wr (.cells #[.int .i64 t.kind,.int .i64 t.n,.string t.s,.slice sa t.args.length sc] 34));have HOW:=zh (ah.below hown ((zB _ _).alloc (zL _) (.cells #[.int .i64 t.kind,.int .i64 t.n,.string t.s,.slice sa t.args.length sc] 34)));have yn:=zh (aX hres (.cells #[.int .i64 t.kind,.int .i64 t.n,.string t.s,.slice sa t.args.length sc] 34));obtain⟨ee,iC⟩:∃ee,ee=wr.heap.size:=⟨_,rfl⟩;have hsz0:ee<(wr.alloc (.cells #[.int .i64 t.kind,.int .i64 t.n,.string t.s,.slice sa t.args.length sc] 34)).heap.size:=by rw[iC];simp
      have hgg:=aJ hmk.box;have anJ:g<ee:=by omega
      rw[<-iC]at qJ;have EC:=zh (fun b(hb:ownB cv=some b)=>hmk.own.lt b hb);have ED:=zh iC;have hbl:(aV (bE (aP n) h) (l.take j)).1.length+1+2*t.nodes<=4194304:=by omega
      clear hr ht hbel hmk nK hown hres vk Kw hnn;go_wp2_with fail;clear d0 d1 d2 d3;rw[<-ED.o];clear iC;generalize wr.alloc (.cells #[.int .i64 t.kind,.int .i64 t.n,.string t.s,.slice sa t.args.length sc] 34)=wa at ym jQ fH qJ HOW yn hsz0 HR ⊢;have hW1:wa.drew.heap[gb]?=some (.cells #[.slice none 0 0,.int .i64 (n:Int),.int .i64 (n:Int),.slice na nn nc] 67 (0,0))/\wa.drew.heap[ee]?=some (.cells #[.int .i64 t.kind,.int .i64 t.n,.string t.s,.slice sa t.args.length sc] 34 (0,0)):=⟨fH.o,qJ.o⟩;refine iG (F:=fun k w'=>k=1\/k=3->(w'.heap[gb]?=some (.cells #[.slice none 0 0,.int .i64 (n:Int),.int .i64 (n:Int),.slice na nn nc] 67 (0,0))/\w'.heap[ee]?=some (.cells #[.int .i64 t.kind,.int .i64 t.n,.string t.s,.slice sa t.args.length sc] 34 (0,0)))) (by kernel_rfl) ?_;refine aD (i:=0) (v:=?_) rfl (Or.inl ⟨by rfl,?_⟩) (fun _=>hW1) ?_;rotate_left;·(intro w' hw;clear hw;go_simp<;>with_reducible rfl)
      simp only[zP];refine aD (i:=1) (v:=?_) rfl (Or.inl ⟨by rfl,?_⟩) (fun _=>hW1) ?_;rotate_left;·(intro w' hw;obtain⟨q0,q1,q2,q3,qf⟩:=aU (hw (by omega)).1;go_simp<;>with_reducible rfl)
      simp only[zP];refine aD (i:=2) (v:=?_) rfl (Or.inl ⟨by rfl,?_⟩) (fun _=>hW1) ?_;rotate_left;·(intro w' hw;clear hw;go_simp<;>with_reducible rfl)
      simp only[zP];refine aD (i:=3) (v:=?_) rfl (Or.inl ⟨by rfl,?_⟩) (fun _=>hW1) ?_;rotate_left;·(intro w' hw;obtain⟨q0,q1,q2,q3,qf⟩:=aU (hw (by omega)).2;go_simp<;>with_reducible rfl)
      simp only[zP];refine aM (i:=4) (by kernel_rfl) (aF rfl (by rfl) ?_);go_simp;refine(Qu t g (g+1) (aV (bE (aP n) h) (l.take j)).1 cv (fun b=>b<w.heap.size) wa.drew [_,_,_,_] (jQ.o.below (zB _ _).drew) hbl (Tm.aj.1 _ _ _ _ _ HR.o (af.drew _ _)) (fun b hb=>⟨by have :=ym.out.size;simp;omega,fun e=>by
       rcases e with e|e;·omega
       ·have :=(EC.o b e).1;omega⟩)).mono ?_;rintro e w2⟨rfl,lI,hm2,hc2,ho2⟩;have zG:¬iV g cv gb:=fun e=>by
       rcases e with e|e;·exact hne1 e
       ·exact ah.eD jQ.o.own fH.o (by decide) e
      have Ky:¬iV g cv ee:=fun e=>by
       rcases e with e|e;·omega
       ·have h1:=(EC.o _ e).2;have h2:=ED.o;omega
      have yo:¬iV g cv rb:=fun e=>by
       rcases e with e|e;·exact hne2 e
       ·exact ah.eD jQ.o.own yn.o (by decide) e
      have HB2:=zh (ym.out.drew.trans (((Ch.refl _ _).trans hc2 (fun _ h=> .inl h)).mono (M':=iV g cv) (fun _ _ h=>h)|> fun h=>(show Below w.heap.size wa.drew w2 from⟨h.os,h.tape,h.output,h.size,fun k hk=>h.block k (by have :=ym.out.size;simp;omega) (fun e=>by
       rcases e with e|e;·omega
       ·have :=(EC.o k e).1;omega)⟩)));have vo:=zh ((hc2.block gb (by simpa using aJ fH.o) zG).trans (show wa.drew.heap[gb]?=_ from fH.o));have rZ:=zh ((hc2.block rb (by simpa using aJ yn.o) yo).trans (show wa.drew.heap[rb]?=_ from yn.o));have si:=zh (ah.kept HOW.o (w':=w2) (fun b hb=>hc2.block b (by simpa using(HOW.o.lt b hb).2) (fun e=>by
       rcases e with e|e;·have :=(HOW.o.lt b hb).1;omega
       ·exact rU (by decide) jQ.o.own HOW.o b e hb)));have gX:=zh hm2;refine⟨fun k hk hF iW=>⟨(hc2.block gb (by simpa using aJ fH.o) zG).trans (hF iW).1,(hc2.block ee (by simpa using aJ qJ.o) Ky).trans (hF iW).2⟩,?_⟩;clear hc2 ho2 hm2 zG Ky yo hW1 jQ fH qJ HOW yn ym HR;try simp only[zP]
      refine aM (i:=5) (by kernel_rfl) (aF rfl (by rfl) ?_);go_simp;refine⟨fun k hk hF iW=>⟨aX (hF iW).1 _,aX (hF iW).2 _⟩,?_⟩;refine aM (i:=6) (by kernel_rfl) (aF rfl (by rfl) ?_);have hz2:=gX.o.A9;have adR:(aV (bE (aP n) h) (l.take j)).1.length<=4194304:=by omega
      refine oh (.tmp 30) (.tmp 34) 57 rfl (g+1) 3 1 8 jP aW (.slice na nn nc) (aV (bE (aP n) h) (l.take j)).2 rfl (ah.gN dY si.o (fun _=>True)) ((aV (bE (aP n) h) (l.take j)).1.length:Int) [(.int .i64 ((aV (bE (aP n) h) (l.take j)).1.length:Int))] rfl rfl ⟨by unfold aA;omega,rfl⟩ ⟨by rw[yg];omega,hz2⟩ ?_;intro v2 w4 hown2 aB;have iB:=zh (ah.fG hown2);have yt:=gX.o.own;have hkc:∀b,ownB (.slice na nn nc)=some b->b≠gb/\b≠g/\b≠rb/\ownB lI≠some b:=fun b hb=>⟨fun e=>ah.eD si.o vo.o (by decide) (e▸hb),fun e=>ah.eD si.o gX.o.box (by decide) (e▸hb),fun e=>ah.eD si.o rZ.o (by decide) (e▸hb),fun e=>rU (by decide) yt si.o b e hb⟩;have l9:∀k,k<w2.heap.size->ownB (.slice na nn nc)≠some k->w4.heap[k]?=w2.heap[k]?:=fun k hk hn=>(aB.grown.block k (by simp;omega) (fun e=>hn e.symm)).trans (JA _ _ _ hk);have yu:=zh ((l9 gb (aJ vo.o) (fun e=>(hkc _ e).1 rfl)).trans vo.o);have CP:=zh ((l9 rb (aJ rZ.o) (fun e=>(hkc _ e).2.2.1 rfl)).trans rZ.o);have Kz:=zh ((l9 g (aJ gX.o.box) (fun e=>(hkc _ e).2.1 rfl)).trans gX.o.box);have KA:=zh (ah.kept yt (w':=w4) (fun b hb=>l9 b (yt.lt b hb).2 (fun e=>(hkc b e).2.2.2 hb)));have bX:=zh (aB.below (HB2.o.alloc HB2.o.size (.cells #[.int .i64 ((aV (bE (aP n) h) (l.take j)).1.length:Int)] 3)) (by have :=HB2.o.size;simp;omega) (fun b hb=>by have :=(si.o.lt b hb).1;omega));refine⟨fun k hk hF iW=>⟨(aB.grown.block gb (by have :=aJ vo.o;simp;omega) (fun e=>(hkc _ e.symm).1 rfl)).trans (hF iW).1,(aB.grown.block ee (aJ (hF iW).2) (fun e=>ah.eD (ah.below si.o ((zB _ _).alloc (zL _) _)) (hF iW).2 (by decide) e.symm)).trans (hF iW).2⟩,?_⟩;obtain⟨aY,aZ,hv2, -, -⟩:=ah.val iB.o;rw[bT,jr]at hv2;subst hv2;clear hown2 aB l9 hkc yt;try simp only[zP]
      refine aM (i:=7) (by kernel_rfl) (aF rfl (by rfl) ?_);go_simp;refine⟨fun _ _ h=>h,?_⟩;obtain⟨y0,y1,y2,y3,yf⟩:=aU yu.o;refine aM (i:=8) (by kernel_rfl) (aF rfl (by rfl) ?_);go_simp;refine⟨fun k hk _ h1=>?_,fO (by kernel_rfl) ?_ _⟩
      ·rcases h1 with h1|h1;·subst h1;exact absurd (show waits _ 8 1=true by kernel_rfl) (by rw[hk];decide)
       ·subst h1;exact absurd (show waits _ 8 3=true by kernel_rfl) (by rw[hk];decide)
      go_wp2_with fail;go_roundw;case rel=>
       have hgl:(aV (bE (aP n) h) (l.take j)).2.length+1=((aV (bE (aP n) h) (l.take j)).2++[((aV (bE (aP n) h) (l.take j)).1.length:Int)]).length:=by simp
       refine⟨j+1,lI,.slice aY ((aV (bE (aP n) h) (l.take j)).2.length+1) aZ,by omega,by go_num,?_⟩;rw[dX ky.o,V8,<-HT.o];refine⟨bX.o.setCell (by simp only;omega) _,⟨?_,?_,gX.o.lt,gX.o.len,?_⟩,(bG yu.o 3 _).trans rfl,?_,?_,hgw,We,hne1,hne2,Ba⟩;·rw[bH _ _ _ _ (by simp only;exact fun e=>hne1 e.symm)];exact Kz.o
       ·exact ah.kept KA.o (fun b hb=>bH _ _ _ _ (by simp only;exact fun e=>ah.eD KA.o yu.o (by decide) (e▸hb)))
       ·have :=aJ Kz.o;simp;omega
       ·exact ah.kept iB.o (fun b hb=>bH _ _ _ _ (by simp only;exact fun e=>ah.eD iB.o yu.o (by decide) (e▸hb)))
       ·rw[bH _ _ _ _ (by simp only;exact Ba)];exact CP.o
      case measure=>first|(simp[intOf];done)|(simp[intOf];omega)
     ·have eH:j=l.length:=by omega
      subst eH;have hlt':¬((l.length:Int)<(l.length:Int)):=by omega
      obtain⟨ca,cc,rfl,hcl,hcm⟩:=ah.val hmk.own;obtain⟨m0,mf⟩:=vg hmk.box;obtain⟨y0,y1,y2,y3,yf⟩:=aU nK;obtain⟨r0,r1,r2,r3,rf⟩:=aU hres;have hgg:=aJ hmk.box;clear hlt hbel hmk nK hown hres Kw;rw[jd]at CD;have hxl:(aV (bE (aP n) h) (l.take l.length)).1=(aV (bE (aP n) h) l).1:=by rw[jd]
      have hgl:(aV (bE (aP n) h) (l.take l.length)).2=(aV (bE (aP n) h) l).2:=by rw[jd]
      rw[hxl]at m0 hcl;rw[hgl]at y3 hnl;clear hxl hgl;obtain⟨X,hX⟩:∃X,X=aV (bE (aP n) h) l:=⟨_,rfl⟩;rw[<-hX]at m0 hcl y3 hnl CD;have HX:=zh hX;clear hX;go_wp2_with fail;have hch:Ch (fun b=>b=gb\/b=rb) wr wr:=Ch.refl _ _;have bU:=(((((hch.setCell (p:=⟨gb,0,none⟩) (.inl (.inl rfl)) (.slice ca X.1.length cc)).setCell (p:=⟨rb,0,none⟩) (.inl (.inr rfl)) (.slice ca X.1.length cc)).setCell (p:=⟨rb,1,none⟩) (.inl (.inr rfl)) (.int .i64 (n:Int))).setCell (p:=⟨rb,2,none⟩) (.inl (.inr rfl)) (.int .i64 (n:Int))).setCell (p:=⟨rb,3,none⟩) (.inl (.inr rfl)) (.slice na X.2.length nc));have Wh:¬gb=rb:=fun e=>Ba e.symm;have c1:=CD.out.mkr.own;have c2:=CD.out.own;have c3:=CD.out.box;have c4:=CD.out.res;have EE:=Ch.below (Ch.trans (Ch.of_below (M:=fun b=>b=gb\/b=rb) CD.out.yh) bU (fun _ h=> .inl h)) (fun k hk e=>by omega);refine dD (v:= .tuple #[.agg #[.slice ca X.1.length cc,.int .i64 (n:Int),.int .i64 (n:Int),.slice na X.2.length nc],.int .i64 0]) (by simp[results,Tryz.results31,go_sem,hcs,r0,r1,r2,r3,y0,y1,y2,y3,Ba,Wh];try rfl) rfl ?_;rw[EB.o];have Wi:=qI.o;rw[<-HX.o]at Wi;refine Pure.mk EE ⟨_,_,rfl,?_,?_⟩
      ·show rC _ _ (aV (bE (aP n) h) l).1 _;rw[<-HX.o];exact ah.sl Ce.kC Ce.AV (ah.kept c1 (fun b hb=>bU.block b (c1.lt b hb).2 (fun e=>by
        rcases e with e|e;·exact ah.eD c1 c3 (by decide) (e▸hb)
        ·exact ah.eD c1 c4 (by decide) (e▸hb)))) (by omega) (fun b hb=>by have :=(c1.lt b hb).1;unfold New;omega)
      ·show gD _ _ (aV (bE (aP n) h) l).2 _;rw[<-HX.o];have hl2:=yg l (bE (aP n) h);rw[<-HX.o]at hl2;exact ah.sl dY zC (ah.kept c2 (fun b hb=>bU.block b (c2.lt b hb).2 (fun e=>by
        rcases e with e|e;·exact ah.eD c2 c3 (by decide) (e▸hb)
        ·exact ah.eD c2 c4 (by decide) (e▸hb)))) (by omega) (fun b hb=>by have :=(c2.lt b hb).1;unfold New;omega)
