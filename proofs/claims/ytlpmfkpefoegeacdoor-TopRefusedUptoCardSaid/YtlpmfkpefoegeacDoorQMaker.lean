import Derived.Test.YtlpmfkpefoegeacDoorQSolve1
import Derived.Test.YtlpmfkpefoegeacDoorQNodes
import Derived.Deep.RegionLaw
import Derived.Deep.DeepCutAuto
namespace Go.Proofs.YtlpmfkpefoegeacDoor
set_option maxRecDepth 100000
set_option maxHeartbeats 16000000
set_option linter.all false
open Go.RowKit
theorem ZkZ{w:World}{g:Nat}{E:TypeId}{v0:Value}(h:w.heap[g]?=some (.cells #[v0] E (0,0))):w.cell? ⟨g,0,none⟩=some v0/\∀o,w.frozen? ⟨g,o,none⟩=false:=⟨(Zao h 0).trans rfl,fun o=>by simp[World.frozen?,h]⟩
mutual
/-- a term put into a cell; its arguments stand behind all that is there -/
def Zcq : List Ce → Nat → Tm → List Ce
  | c, k, .mk kd n s l =>
    if kd = 0 then c.set k ⟨0, n, ByteArray.empty⟩ else if kd = 1 then c.set k ⟨1, 0, s⟩ else if kd = 2 then c.set k ⟨2, n, ByteArray.empty⟩ else
    if kd = 3 then Zbf (c.set k ⟨0, (c.length : Int), ByteArray.empty⟩ ++ ⟨3, (l.length : Int), s⟩ :: List.replicate l.length ⟨0, 0, ByteArray.empty⟩) (c.length + 1) l else c
def Zbf : List Ce → Nat → List Tm → List Ce
  | c, _, [] => c
  | c, k, t :: r => Zbf (Zcq c k t) (k + 1) r
end
def Zdb(c:List Ce):Tm->List Ce| .mk _ _ s l=>Zbf (c++⟨3,(l.length:Int),s⟩::List.replicate l.length ⟨0,0,ByteArray.empty⟩) (c.length+1) l
theorem Zg0:∀(r:List Tm)(c:List Ce)(k:Nat)(t:Tm),Zbf c k (r++[t])=Zcq (Zbf c k r) (k+r.length) t|[],c,k,t=>by simp[Zbf]|x::r,c,k,t=>by simp only[List.cons_append,Zbf,Zg0 r,List.length_cons];congr 1;omega
theorem Zei:∀(t:Tm)(c:List Ce)(k:Nat),c.length<=(Zcq c k t).length/\(Zcq c k t).length+1<=c.length+2*t.nodes:=by
 intro t;induction t using Tm.induct with
  |h kd n s l ih=>
   intro c k;have hL:∀(r:List Tm),(∀t∈r,t∈l)->∀(c:List Ce)(k:Nat),c.length<=(Zbf c k r).length/\(Zbf c k r).length+r.length<=c.length+2*Tm.nodesL r:=by intro r;induction r with|nil=>intro _ c k;simp[Zbf,Tm.nodesL]|cons x r ihr=>intro hm c k;simp only[Zbf,Tm.nodesL,List.length_cons];have h1:=ih x (hm x (List.mem_cons_self ..)) c k;have h2:=ihr (fun t ht=>hm t (List.mem_cons_of_mem _ ht)) (Zcq c k x) (k+1);omega
   simp only[Zcq,Tm.nodes];repeat' split
   ·simp;omega
   ·simp;omega
   ·simp;omega
   ·have h1:=hL l (fun _ h=>h) (c.set k ⟨0,(c.length:Int),ByteArray.empty⟩++⟨3,(l.length:Int),s⟩::List.replicate l.length ⟨0,0,ByteArray.empty⟩) (c.length+1);simp only[List.length_append,List.length_set,List.length_cons,List.length_replicate]at h1;omega
   ·omega
theorem ZbE:∀(r:List Tm)(c:List Ce)(k:Nat),c.length<=(Zbf c k r).length/\(Zbf c k r).length+r.length<=c.length+2*Tm.nodesL r|[],c,k=>by simp[Zbf,Tm.nodesL]|x::r,c,k=>by simp only[Zbf,Tm.nodesL,List.length_cons];have h1:=Zei x c k;have h2:=ZbE r (Zcq c k x) (k+1);omega
theorem Zgh:∀(l:List Tm),l.length<=Tm.nodesL l
 |[]=>zL _
 |x::r=>by
  have h1:=Zgh r;have h2:1<=x.nodes:=by cases x;simp only[Tm.nodes];omega
  simp only[List.length_cons,Tm.nodesL];omega
theorem Zgi:∀(l:List Tm)(j:Nat)(hj:j<l.length),Tm.nodesL (l.take j)+l[j].nodes+(l.length - j - 1)<=Tm.nodesL l|x::r,0,_=>by have h1:=Zgh r;simp only[List.take_zero,Tm.nodesL,List.getElem_cons_zero,List.length_cons];omega|x::r,j+1,hj=>by have h1:=Zgi r j (by simpa using hj);simp only[List.take_succ_cons,Tm.nodesL,List.getElem_cons_succ,List.length_cons];omega
structure MkI (g base : Nat) (l : List Ce) (cv : Value) (w : World) : Prop where
  box : w.heap[g]? = some (.cells #[cv] 108 (0, 0))
  own : OwnC w base l cv
  lt : g < base
  len : l.length ≤ 4194304
  base_le : base ≤ w.heap.size
def MkM(g:Nat)(cv:Value)(b:Nat):Prop:=b=g\/Zai cv=some b
def MStep(g base:Nat)(cv:Value)(w:World)(l:List Ce)(w':World):Prop:=∃cv',MkI g base l cv' w'/\Ch (MkM g cv) w w'/\(∀b,Zai cv'=some b->Zai cv=some b\/w.heap.size<=b)
theorem MStep.trans{g base:Nat}{cv cv':Value}{w w' w'':World}{l:List Ce}(hc:Ch (MkM g cv) w w')(ht:∀b,Zai cv'=some b->Zai cv=some b\/w.heap.size<=b)(h:MStep g base cv' w' l w''):MStep g base cv w l w'':=by
 obtain⟨cv2,h1,h2,h3⟩:=h;refine⟨cv2,h1,hc.trans h2 fun x hx=>?_,fun b hb=>?_⟩
 ·rcases hx with hx|hx;·exact .inl (.inl hx)
  ·rcases ht x hx with hx|hx;·exact .inl (.inr hx)
   ·exact .inr hx
 ·rcases h3 b hb with h4|h4;·exact ht b h4
  ·exact .inr (Nat.le_trans hc.size h4)
def ZoF(t:Tm):Prop:=∀(g base k:Nat)(l:List Ce)(cv:Value)(A:Nat->Prop)(w:World)(vs:List Value),MkI g base l cv w->k<l.length->l.length+2*t.nodes<=4194304->Tm.rep A w t vs->(∀b,A b->b<w.heap.size/\¬MkM g cv b)->Calls Tryd.prog 95 #[.pointer (some ⟨g,0,none⟩),.int .i64 (k:Int),.agg vs.toArray] w (fun e w'=>(∃v,e= .returned v)/\MStep g base cv w (Zcq l k t) w')
def Zi1(t:Tm):Prop:=∀(g base:Nat)(l:List Ce)(cv:Value)(A:Nat->Prop)(w:World)(vs:List Value),MkI g base l cv w->l.length+2*t.nodes<=4194304->Tm.rep A w t vs->(∀b,A b->b<w.heap.size/\¬MkM g cv b)->Calls Tryd.prog 94 #[.pointer (some ⟨g,0,none⟩),.agg vs.toArray] w (fun e w'=>e= .returned (.int .i64 (l.length:Int))/\MStep g base cv w (Zdb l t) w')
theorem ZlU{P:Program}{ops:Array Oper}{o:Oper}{a:Act}{w W:World}{K:Act->World->Prop}{Q:Exit->Act->World->Prop}{E:Prop}(hg:o.guard=none)(s x:Operand)(t:TypeId)(ho:o.op= .call {callee:= .builtin .append,args:=#[s,x],argTypes:=#[t,t]})(base:Nat)(e:TypeId)(size bytes:Nat)(hty:ElemTy P t e size bytes){α:Type}{R:(Nat->Prop)->World->α->List Value->Prop}(hR:Lasts R){A:Nat->Prop}(v:Value)(xs:List α)(hs:a.eval s=v)(hown:OwnR w base e size R A xs v)(y:α)(vs:List Value)(hx:a.eval x= .slice (some ⟨w.heap.size,0,none⟩) 1 1)(hvl:vs.length=size)(hvs:R (fun b=>A b/\Zai v≠some b) w y vs)(hlen:xs.length<4194304/\base<=w.heap.size)(h:∀v' w',OwnR w' base e size R A (xs++[y]) v'->Grew (w.alloc (.cells vs.toArray e)) w' v v'->K (a.put o.dst v') w')(hW:W=w.alloc (.cells vs.toArray e)):if Region.wanted o (yielded ops a.tmps)=true then Oper.wp P o a W K Q else E:=by subst hW;rw[if_pos (by simp[Region.wanted,hg])];exact Zce s x t ho base e size bytes hty hR v xs hs hown y vs hx hvl hvs hlen h
theorem MkI.ch{g base:Nat}{l:List Ce}{cv:Value}{w w':World}(h:MkI g base l cv w){M:Nat->Prop}(hc:Ch M w w')(hM:∀b,MkM g cv b->¬M b):MkI g base l cv w':=⟨(hc.block g (Zah h.box) (hM g (.inl rfl))).trans h.box,OwnF.kept h.own (fun b hb=>hc.block b (h.own.lt b hb).2 (hM b (.inr hb))),h.lt,h.len,Nat.le_trans h.base_le hc.size⟩
theorem MkI.below{g base:Nat}{l:List Ce}{cv:Value}{w w':World}(h:MkI g base l cv w)(hb:Below w.heap.size w w'):MkI g base l cv w':=h.ch (M:=fun _=>False) (Ch.of_below hb) (fun _ _ h=>h)
theorem MkI.set{g base cb cc k:Nat}{l:List Ce}{w:World}(h:MkI g base l (.slice (some ⟨cb,0,none⟩) l.length cc) w)(hob:Zai (.slice (some ⟨cb,0,none⟩) l.length cc)=some cb)(hk:k<l.length)(c:Ce)(hc:c.Ok):MkI g base (l.set k c) (.slice (some ⟨cb,0,none⟩) l.length cc) (((w.setCell ⟨cb,k*3,none⟩ (.int .i64 c.kind)).setCell ⟨cb,k*3+1,none⟩ (.int .i64 c.n)).setCell ⟨cb,k*3+2,none⟩ (.string c.s)):=by
 have hne:¬g=cb:=fun e=>by have :=(h.own.lt cb hob).1;have :=h.lt;omega
 obtain⟨_,_,_,_,_,_,hok, -⟩:=OwnC.cell h.own hk;have o1:=OwnF.set (u:= .int .i64 c.kind) Ce.vals_len h.own hob hk (j:=0) (by omega) (y:=⟨c.kind,l[k].n,l[k].s⟩) rfl ⟨hc.1,hok.2.1,hok.2.2⟩;have o2:=OwnF.set (u:= .int .i64 c.n) Ce.vals_len o1 hob (i:=k) (by simpa using hk) (j:=1) (by omega) (y:=⟨c.kind,c.n,l[k].s⟩) (by simp[Ce.vals]) ⟨hc.1,hc.2.1,hok.2.2⟩;have o3:=OwnF.set (u:= .string c.s) Ce.vals_len o2 hob (i:=k) (by simpa using hk) (j:=2) (by omega) (y:=c) (by simp[Ce.vals]) hc;simp only[List.set_set]at o3;refine⟨?_,o3,h.lt,by simpa using h.len,by simpa using h.base_le⟩;rw[Below.heap_setCell _ _ _ _ hne,Below.heap_setCell _ _ _ _ hne,Below.heap_setCell _ _ _ _ hne];exact h.box
theorem ZlV{c:List Ce}{k:Nat}{kd n:Int}{s:ByteArray}{l:List Tm}(h0:kd≠0)(h1:kd≠1)(h2:kd≠2)(h3:kd≠3):Zcq c k (.mk kd n s l)=c:=by simp[Zcq,h0,h1,h2,h3]
theorem Zpc(t:Tm)(hf:Zi1 t):ZoF t:=by
 obtain⟨kd,n,s,tl⟩:=t;intro g base k l cv A w vs hm hk hlen hv hA;have HV:=zh hv;rw[Tm.rep_iff]at hv;obtain⟨hkd,hn,hs,v,rfl,hl⟩:=hv;obtain⟨a,cap, -, -,rfl, -, -,htl, -⟩:=hl.at;obtain⟨ca,cc,rfl,hcc,hcm⟩:=OwnF.val hm.own;have HM:=zh hm;have HF:=zh hf;have HA:=zh hA;have HLEN:=zh hlen;have hml:=hm.len;obtain⟨cb,rfl,hob,c0,c1,c2,hok,hfz,hcb,hcbase⟩:=OwnC.cell hm.own hk;obtain⟨b0,bf⟩:=ZkZ hm.box;have hgs:=Zah hm.box;have hcg:cb≠g:=by have :=hm.lt;omega
 have hcs:=Zap;have hi0:(0:Int)<=(k:Int):=zN _;have hi1:(k:Int)<(l.length:Int):=by omega
 have HOB:=zh hob;have HN:=zh hn;have HS:=zh hs;have e0:ByteArray.empty.size<=1048576:=by decide
 have i0:I64 0:=by unfold I64;omega
 have fin:∀(c:Ce),c.Ok->Zcq l k (.mk kd n s tl)=l.set k c->∀(O:Obj),MStep g base (.slice (some ⟨cb,0,none⟩) l.length cc) w (Zcq l k (.mk kd n s tl)) (((((w.setCell ⟨cb,k*3,none⟩ (.int .i64 c.kind)).setCell ⟨cb,k*3+1,none⟩ (.int .i64 c.n)).setCell ⟨cb,k*3+2,none⟩ (.string c.s)).alloc O).drew):=by intro c hc he O;rw[he];have h1:=(hm.set hob hk c hc);refine⟨_,h1.below (((zB _ _).alloc (zL _) _).drew),?_,fun b hb=> .inl hb⟩;have h2:Ch (MkM g (.slice (some ⟨cb,0,none⟩) l.length cc)) w w:=Ch.refl _ _;exact(((h2.setCell (p:=⟨cb,k*3,none⟩) (.inl (.inr hob)) _).setCell (p:=⟨cb,k*3+1,none⟩) (.inl (.inr hob)) _).setCell (p:=⟨cb,k*3+2,none⟩) (.inl (.inr hob)) _).alloc _|>.drew
 have FIN:=zh fin;clear hm hl hf hA hlen hob hok hn hs fin;by_cases h0:kd=0;·subst h0;have HP:=zh (show Zcq l k (.mk 0 n s tl)=l.set k ⟨0,n,ByteArray.empty⟩by simp[Zcq]);go_enter Tryd.func95,Tryd.ntmps95;go_wp2_with fail;go_region;go_wp2_with fail;refine bodyPost_end (v:= .tuple #[]) (by simp[results,Tryd.results95,go_sem]) rfl ?_;exact⟨⟨_,rfl⟩,FIN.out ⟨0,n,ByteArray.empty⟩ ⟨i0,HN.o,e0⟩ HP.o _⟩
 by_cases h1:kd=1;·subst h1;have HP:=zh (show Zcq l k (.mk 1 n s tl)=l.set k ⟨1,0,s⟩by simp[Zcq]);go_enter Tryd.func95,Tryd.ntmps95;go_wp2_with fail;go_region;go_wp2_with fail;refine bodyPost_end (v:= .tuple #[]) (by simp[results,Tryd.results95,go_sem]) rfl ?_;exact⟨⟨_,rfl⟩,FIN.out ⟨1,0,s⟩ ⟨by unfold I64;simp only;omega,i0,HS.o⟩ HP.o _⟩
 by_cases h2:kd=2;·subst h2;have HP:=zh (show Zcq l k (.mk 2 n s tl)=l.set k ⟨2,n,ByteArray.empty⟩by simp[Zcq]);go_enter Tryd.func95,Tryd.ntmps95;go_wp2_with fail;go_region;go_wp2_with fail;refine bodyPost_end (v:= .tuple #[]) (by simp[results,Tryd.results95,go_sem]) rfl ?_;exact⟨⟨_,rfl⟩,FIN.out ⟨2,n,ByteArray.empty⟩ ⟨by unfold I64;simp only;omega,HN.o,e0⟩ HP.o _⟩
 by_cases h3:kd=3
 ·subst h3;have HP:=zh (show Zcq l k (.mk 3 n s tl)=Zdb (l.set k ⟨0,(l.length:Int),ByteArray.empty⟩) (.mk 3 n s tl)by simp[Zcq,Zdb]);go_enter Tryd.func95,Tryd.ntmps95;go_wp2_with fail;go_region;go_wp2_with fail;have hset:=HM.o.set HOB.o hk ⟨0,(l.length:Int),ByteArray.empty⟩ ⟨i0,by unfold I64;simp only;omega,e0⟩;have h3:Ch (MkM g (.slice (some ⟨cb,0,none⟩) l.length cc)) w w:=Ch.refl _ _;have hch:=((((h3.setCell (p:=⟨cb,k*3,none⟩) (.inl (.inr HOB.o)) (.int .i64 0)).setCell (p:=⟨cb,k*3+1,none⟩) (.inl (.inr HOB.o)) (.int .i64 (l.length:Int))).setCell (p:=⟨cb,k*3+2,none⟩) (.inl (.inr HOB.o)) (.string ByteArray.empty)).alloc (.cells #[.int .i64 3,.int .i64 n,.string s,.slice a tl.length cap] 27)).drew;have hmk:=hset.below (((zB _ _).alloc (zL _) (.cells #[.int .i64 3,.int .i64 n,.string s,.slice a tl.length cap] 27)).drew);have hsz:=hch.size;have hkp:=hch.keeps (A:=A) (fun b _ hb=>(HA.o b hb).2);have hll:(l.set k ⟨0,(l.length:Int),ByteArray.empty⟩).length=l.length:=by simp
  have hlen:=HLEN.o;refine(HF.o g base (l.set k ⟨0,(l.length:Int),ByteArray.empty⟩) (.slice (some ⟨cb,0,none⟩) l.length cc) A _ [_,_,_,_] hmk (by rw[hll];exact hlen) (Tm.rep_lasts.1 _ _ _ _ _ HV.o hkp) (fun b hb=>⟨Nat.lt_of_lt_of_le (HA.o b hb).1 hsz,(HA.o b hb).2⟩)).mono ?_;rintro e w2⟨rfl,hst⟩;have HST:=zh (MStep.trans hch (fun b hb=> .inl hb) hst);clear hset h3 hch hmk hsz hkp hst;go_wp2_with fail;refine bodyPost_end (v:= .tuple #[]) (by simp[results,Tryd.results95,go_sem]) rfl ?_;exact⟨⟨_,rfl⟩,by rw[HP.o];exact HST.o⟩
 ·have q0:(kd==0)=false:=by simpa using h0
  have q1:(kd==1)=false:=by simpa using h1
  have q2:(kd==2)=false:=by simpa using h2
  have q3:(kd==3)=false:=by simpa using h3
  have HP:=zh (ZlV (c:=l) (k:=k) (n:=n) (s:=s) (l:=tl) h0 h1 h2 h3);go_enter Tryd.func95,Tryd.ntmps95;go_wp2_with fail;refine bodyPost_end (v:= .tuple #[]) (by simp[results,Tryd.results95,go_sem]) rfl ?_;refine⟨⟨_,rfl⟩,_,?_,(Ch.refl _ _).alloc _,fun b hb=> .inl hb⟩;rw[HP.o];exact HM.o.below ((zB _ _).alloc (zL _) _)
def Zpd(g base:Nat)(cv:Value)(w:World)(l:List Ce)(w':World):Prop:=∃cv',MkI g base l cv' w'/\Ch (MkM g cv) w w'/\(∀b,Zai cv'=some b->Zai cv=some b\/w.heap.size<=b)
theorem ZfI{g base:Nat}{cv v2:Value}{l:List Ce}{w w0 w2 W:World}{c:Ce}{cells:Array Value}(hm:MkI g base l cv w)(hl:l.length+1<=4194304)(h0:Ch (MkM g cv) w0 W)(hw0:w.heap.size<=w0.heap.size)(h1:OwnC w2 base (l++[c]) v2)(hb:w2.heap[g]?=some (.cells #[cv] 108 (0,0)))(hg:Grew (W.alloc (.cells cells 112)) w2 cv v2):Zpd g base cv w0 (l++[c]) (w2.setCell ⟨g,0,none⟩ v2):=by
 have hne:Zai v2≠some g:=fun e=>by have :=(h1.lt g e).1;have :=hm.lt;omega
 have hz:=hg.size;have hz0:=h0.size;have hbw:=hm.base_le;refine⟨v2,⟨(Zal hb 0 _).trans rfl,OwnF.kept h1 (fun b hb=>Below.heap_setCell _ _ _ _ (fun e=>hne (by rw[hb];simp only at e;rw[e]))),hm.lt,by simp;omega,by simp only[World.size_setCell,World.size_alloc]at hz ⊢;omega⟩,?_,fun b hb=>?_⟩;·refine Ch.setCell (p:=⟨g,0,none⟩) ?_ (.inl (.inl rfl)) _;exact hg.ch (h0.alloc _) (fun b hb=> .inl (.inr hb))
 ·rcases hg.block with h|h;·exact .inl (by rw[<-h];exact hb)
  ·have :=h b hb;simp only[World.size_alloc]at this;exact .inr (by omega)
theorem Zj3 (kd n : Int) (s : ByteArray) (tl : List Tm) (ih : ∀ t ∈ tl, ZoF t) : Zi1 (.mk kd n s tl) := by
  intro g base l cv A w vs hm hlen hv hA
  rw [Tm.rep_iff] at hv
  obtain ⟨hkd, hn, hs, v, rfl, hl⟩ := hv
  obtain ⟨a, cap, b, off, rfl, hlc, hcm, htl, ha, he⟩ := hl.at
  obtain ⟨ca, cc, rfl, hcc, hccm⟩ := OwnF.val hm.own
  have HM := zh hm
  have HA := zh hA
  have HE := zh he
  have HTA := zh ha
  have IH := zh ih
  have hml := hm.len
  have hgb := hm.lt
  have hbw := hm.base_le
  simp only [Tm.nodes] at hlen
  have hnl := Zgh tl
  obtain ⟨b0, bf⟩ := ZkZ hm.box
  have hgs := Zah hm.box
  have hcs := Zap
  have HS := zh hs
  have hll : l.length + 1 + tl.length ≤ 4194304 := by omega
  obtain ⟨O, hO⟩ : ∃ O, O = Obj.cells #[.int .i64 kd, .int .i64 n, .string s, .slice a tl.length cap] 27 (0, 0) := ⟨_, rfl⟩
  have HOQ := zh hO
  have HOW := zh (OwnF.ownR Ce.vals_len (OwnF.below hm.own (((zB _ _).alloc (zL _) O).drew)) (fun _ => True))
  have HOWB := zh (fun b (hb : Zai (.slice ca l.length cc) = some b) => hm.own.lt b hb)
  have HBX := zh (show ((w.alloc O).drew.alloc (.cells #[.int .i64 3, .int .i64 (tl.length : Int), .string s] 112)).heap[g]? = _ from Zag (Zaj (A := fun _ => True) (Zag hm.box O) (Keeps.drew _ _) trivial) _)
  rw [hO] at HOW HBX
  clear hm hA he ha ih hl hO
  go_enter Tryd.func94, Tryd.ntmps94
  go_wp2_with fail
  go_upto_region 2 with fail
  go_cut [5] (fun u5 wr => u5 = .int .i64 (l.length : Int) ∧ Zpd g base (.slice ca l.length cc) (w.alloc (.cells #[.int .i64 kd, .int .i64 n, .string s, .slice a tl.length cap] 27)) (l ++ [⟨3, (tl.length : Int), s⟩]) wr)
  case first =>
    go_region_law (refine ZlU rfl (.tmp 17) (.tmp 24) 80 rfl base 112 3 32 Zdn Ce.rep_lasts (A := fun _ => True) (.slice ca l.length cc) l rfl HOW.o ⟨3, (tl.length : Int), s⟩ [.int .i64 3, .int .i64 (tl.length : Int), .string s] (by simp only [World.size_drew, World.size_alloc]; rfl) rfl ⟨⟨by unfold I64; simp only; omega, by unfold I64; simp only; omega, HS.o⟩, rfl⟩ ⟨by omega, by simp; omega⟩ ?_ rfl; intro v2 w2 hown hgrew; have HO2 := zh (OwnF.of_ownR hown); obtain ⟨va2, vc2, hv2, hvl2, hvm2⟩ := OwnF.val HO2.o; rw [List.length_append, List.length_singleton] at hv2; subst hv2; have HB2 := zh (show w2.heap[g]? = _ from (hgrew.grown.block g (by simp; omega) (fun e => by have := (HOWB.o _ e.symm).1; omega)).trans HBX.o); obtain ⟨y0, yf⟩ := ZkZ HB2.o; have hgs2 := Zah HB2.o; have HG2 := zh hgrew; have hz2 := hgrew.size; clear hown hgrew)
    all_goals
      go_wp2_with fail
      go_meet
      refine ⟨rfl, ?_⟩
      exact ZfI HM.o (by omega) (Ch.refl _ _).drew (by simp) HO2.o HB2.o HG2.o
  case rest =>
    obtain ⟨rfl, hst⟩ := hcut
    have hst : MStep g base (.slice ca l.length cc) (w.alloc (.cells #[.int .i64 kd, .int .i64 n, .string s, .slice a tl.length cap] 27)) (l ++ [⟨3, (tl.length : Int), s⟩]) wc := hst
    obtain ⟨W0, hW0⟩ : ∃ W0, W0 = w.alloc (.cells #[.int .i64 kd, .int .i64 n, .string s, .slice a tl.length cap] 27) := ⟨_, rfl⟩
    have HX := zh (show W0.heap[w.heap.size]? = some (.cells #[.int .i64 kd, .int .i64 n, .string s, .slice a tl.length cap] 27 (0, 0)) by rw [hW0]; exact Zar w (.cells #[.int .i64 kd, .int .i64 n, .string s, .slice a tl.length cap] 27))
    have hz0 : W0.heap.size = w.heap.size + 1 := by rw [hW0]; simp
    have HW0 := zh (show Below w.heap.size w W0 by rw [hW0]; exact (zB _ _).alloc (zL _) _)
    rw [← hW0] at hst
    have HNM := zh (show ∀ b, MkM g (.slice ca l.length cc) b → b < w.heap.size from fun b hb => by
      rcases hb with rfl | hb
      · exact hgs
      · exact (HOWB.o b hb).2)
    have HST := zh hst
    -- the term's box, in every world of the way
    have HXB := zh (fun (W : World) (h : Ch (MkM g (.slice ca l.length cc)) W0 W) => (h.block w.heap.size (by omega) (fun e => by have := HNM.o _ e; omega)).trans HX.o)
    obtain ⟨cv1, hm1, hc1, ho1⟩ := hst
    obtain ⟨x0, x1, x2, x3, xf⟩ := Zbo (HXB.o _ hc1)
    have hzc := hc1.size
    clear hW0 HOW HBX HM hm1 hc1 ho1 b0 bf
    go_wp2_with fail
    clear x0 x1 x2 x3 xf hzc
    go_loopw [31] (fun i W => ∃ j : Nat, j ≤ tl.length ∧ i = .int .i64 (j : Int) ∧ MStep g base (.slice ca l.length cc) W0 (l ++ ⟨3, (tl.length : Int), s⟩ :: List.replicate j ⟨0, 0, ByteArray.empty⟩) W) (fun i _ => tl.length - (intOf i).toNat)
    case atStart => exact ⟨0, Nat.zero_le _, rfl, HST.o⟩
    case round =>
      obtain ⟨j, hj, rfl, cv1, hm1, hc1, ho1⟩ := hrel
      have HC1 := zh hc1
      have HO1 := zh ho1
      have hzc := hc1.size
      obtain ⟨x0, x1, x2, x3, xf⟩ := Zbo (HXB.o _ hc1)
      obtain ⟨c1a, c1c, rfl, hl1, hm1c⟩ := OwnF.val hm1.own
      have hl1l : (l ++ (⟨3, (tl.length : Int), s⟩ : Ce) :: List.replicate j (⟨0, 0, ByteArray.empty⟩ : Ce)).length = l.length + 1 + j := by simp; omega
      rw [hl1l] at hl1 hm1 ho1 HO1
      have HM1 := zh hm1
      obtain ⟨b0, bf⟩ := ZkZ hm1.box
      have hgs1 := Zah hm1.box
      have hbw1 := hm1.base_le
      have HOWB1 := zh (fun b (hb : Zai (.slice c1a (l.length + 1 + j) c1c) = some b) => hm1.own.lt b hb)
      by_cases hlt : j < tl.length
      · have hlt' : (j : Int) < (tl.length : Int) := by omega
        have hj0 : (0 : Int) ≤ (j : Int) := zN _
        have HOR := zh (OwnF.ownR Ce.vals_len hm1.own (fun _ => True))
        have HBX := zh (Zag hm1.box (.cells #[.int .i64 0, .int .i64 0, .string ByteArray.empty] 112))
        have hlen1 : (l ++ (⟨3, (tl.length : Int), s⟩ : Ce) :: List.replicate j (⟨0, 0, ByteArray.empty⟩ : Ce)).length < 4194304 := by omega
        clear hm1 hc1 ho1
        go_wp2_with (at_builtin; go_must (refine Zas rfl (.tmp 37) (.tmp 39) 80 rfl base 112 3 32 Zdn Ce.rep_lasts (A := fun _ => True) (.slice c1a (l.length + 1 + j) c1c) (l ++ (⟨3, (tl.length : Int), s⟩ : Ce) :: List.replicate j (⟨0, 0, ByteArray.empty⟩ : Ce)) rfl HOR.o (⟨0, 0, ByteArray.empty⟩ : Ce) [.int .i64 0, .int .i64 0, .string ByteArray.empty] rfl rfl ⟨⟨by unfold I64; simp only; omega, by unfold I64; simp only; omega, by decide⟩, rfl⟩ ⟨hlen1, hbw1⟩ ?_); go_must (intro v2 w2 hown hgrew; have HO2 := zh (OwnF.of_ownR hown); obtain ⟨va2, vc2, hv2, hvl2, hvm2⟩ := OwnF.val HO2.o; rw [List.length_append, List.length_singleton, hl1l] at hv2; subst hv2; have HB2 := zh (show w2.heap[g]? = _ from (hgrew.grown.block g (by simp; omega) (fun e => by have := (HOWB1.o _ e.symm).1; omega)).trans HBX.o); obtain ⟨y0, yf⟩ := ZkZ HB2.o; have hgs2 := Zah HB2.o; have HG2 := zh hgrew; have hz2 := hgrew.size; clear hown hgrew b0 bf x0 x1 x2 x3 xf))
        go_roundw
        case rel =>
          refine ⟨j + 1, by omega, by go_num, MStep.trans HC1.o HO1.o ?_⟩
          have := ZfI HM1.o (by omega) (Ch.refl _ _) (zL _) HO2.o HB2.o HG2.o
          rw [List.append_assoc, List.cons_append, ← List.replicate_succ'] at this
          exact this
        case measure => first | (simp [intOf]; done) | (simp [intOf]; omega)
      · have hje : j = tl.length := by omega
        subst hje
        have hlt' : ¬ ((tl.length : Int) < (tl.length : Int)) := by omega
        have HST1 := zh (show MStep g base (.slice ca l.length cc) W0 (l ++ ⟨3, (tl.length : Int), s⟩ :: List.replicate tl.length ⟨0, 0, ByteArray.empty⟩) wr from ⟨_, HM1.o, HC1.o, HO1.o⟩)
        obtain ⟨c1, hc1e⟩ : ∃ c1, c1 = l ++ (⟨3, (tl.length : Int), s⟩ : Ce) :: List.replicate tl.length (⟨0, 0, ByteArray.empty⟩ : Ce) := ⟨_, rfl⟩
        rw [← hc1e] at HST1
        have HC1E := zh hc1e
        have hc1l : c1.length = l.length + 1 + tl.length := by rw [hc1e]; exact hl1l
        clear hm1 hc1 ho1 hlt hc1e b0 bf HM1 HC1 HO1 HOWB1 hl1l
        go_wp2_with fail
        clear x0 x1 x2 x3 xf hzc hgs1 hbw1
        go_loopw [47] (fun i W => ∃ j : Nat, j ≤ tl.length ∧ i = .int .i64 (j : Int) ∧ MStep g base (.slice ca l.length cc) W0 (Zbf c1 (l.length + 1) (tl.take j)) W) (fun i _ => tl.length - (intOf i).toNat)
        case atStart => exact ⟨0, Nat.zero_le _, rfl, by rw [List.take_zero, Zbf]; exact HST1.o⟩
        case round =>
          obtain ⟨j, hj, rfl, cv1, hm1, hc1, ho1⟩ := hrel
          have HC1 := zh hc1
          have HO1 := zh ho1
          have HM1 := zh hm1
          have hzc := hc1.size
          by_cases hlt : j < tl.length
          · obtain ⟨rfl, hAb⟩ := HTA.o (by omega)
            have HKA := zh (show Keeps A w wr from (Keeps.ob HW0.o).trans (hc1.keeps (A := A) (fun b _ hb => (HA.o b hb).2)))
            obtain ⟨sa, sc, d0, d1, d2, d3, hr⟩ := ZbD HE.o hAb HKA.o hlt
            have hlt' : (j : Int) < (tl.length : Int) := by omega
            have hj0 : (0 : Int) ≤ (j : Int) := zN _
            have hl1 := ZbE (tl.take j) c1 (l.length + 1)
            have hnj := Zgi tl j hlt
            have hll2 : (Zbf c1 (l.length + 1) (tl.take j)).length + 2 * (tl[j]'hlt).nodes ≤ 4194304 := by
              have : (tl.take j).length = j := by rw [List.length_take]; omega
              omega
            obtain ⟨t, ht⟩ : ∃ t, t = tl[j]'hlt := ⟨_, rfl⟩
            have hmem : t ∈ tl := by rw [ht]; exact List.getElem_mem _
            rw [← ht] at d0 d1 d2 d3 hr hll2
            have HT := zh ht
            have HLT := zh hlt
            have HR := zh hr
            have HIH := zh (IH.out t hmem)
            have HL2 := zh hll2
            have hk2 : l.length + 1 + j < (Zbf c1 (l.length + 1) (tl.take j)).length := by omega
            have HSUM := zh (show (l.length : Int) + 1 + (j : Int) = ((l.length + 1 + j : Nat) : Int) by omega)
            clear hr ht hmem hll2 hm1 hc1 ho1 hnj hl1
            go_wp2_with fail
            rw [HSUM.o]
            refine (HIH.o g base (l.length + 1 + j) _ cv1 A _ [_, _, _, _] (HM1.o.below ((zB _ _).alloc (zL _) (.cells #[.int .i64 t.kind, .int .i64 t.n, .string t.s, .slice sa t.args.length sc] 27))) hk2 HL2.o (Tm.rep_lasts.1 _ _ _ _ _ HR.o (Keeps.alloc _ _ _)) (fun b hb => ⟨by have := (HA.o b hb).1; simp; omega, fun e => ?_⟩)).mono ?_
            · rcases e with e | e
              · exact (HA.o b hb).2 (.inl e)
              · rcases HO1.o b e with e | e
                · exact (HA.o b hb).2 (.inr e)
                · have := (HA.o b hb).1; omega
            rintro e w3 ⟨⟨v3, rfl⟩, hst3⟩
            have HS3 := zh (MStep.trans HC1.o HO1.o (MStep.trans ((Ch.refl _ _).alloc (.cells #[.int .i64 t.kind, .int .i64 t.n, .string t.s, .slice sa t.args.length sc] 27)) (fun b hb => .inl hb) hst3))
            clear hst3 d0 d1 d2 d3
            go_wp2_with fail
            go_roundw
            case rel =>
              refine ⟨j + 1, by omega, by go_num, ?_⟩
              rw [List.take_succ_eq_append_getElem HLT.o, Zg0, ← HT.o, show (tl.take j).length = j by rw [List.length_take]; have := HLT.o; omega]
              exact HS3.o
            case measure => first | (simp [intOf]; done) | (simp [intOf]; omega)
          · have hje : j = tl.length := by omega
            subst hje
            have hlt' : ¬ ((tl.length : Int) < (tl.length : Int)) := by omega
            clear hm1 hc1 ho1 hlt
            go_wp2_with fail
            go_ret
            refine ⟨rfl, MStep.trans (Ch.of_below HW0.o) (fun b hb => .inl hb) ?_⟩
            rw [Zdb, ← HC1E.o]
            have := HM1.o
            rw [List.take_length] at this
            exact ⟨cv1, this, HC1.o, HO1.o⟩
theorem Zn8:∀t,ZoF t:=by intro t;induction t using Tm.induct with|h k n s l ih=>exact Zpc _ (Zj3 k n s l ih)
theorem Znl:∀t,Zi1 t:=by intro t;obtain⟨k,n,s,l⟩:=t;exact Zj3 k n s l (fun t _=>Zn8 t)
end Go.Proofs.YtlpmfkpefoegeacDoor
