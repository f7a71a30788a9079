import Derived.Test.YtlpmfkpefoegeacDoorPRead2
import Derived.Test.YtlpmfkpefoegeacDoorPNum
import Derived.Test.YtlpmfkpefoegeacDoorQOwn
import Derived.StillTailTactics
import Derived.BigQuiet
import Derived.Lib.LaidTab
import Derived.Lib.ItoaNum
import Derived.Lib.Strings
import Derived.Stop.LaidErr
namespace Go.Proofs.YtlpmfkpefoegeacDoor
set_option maxRecDepth 100000
set_option maxHeartbeats 16000000
set_option linter.all false
open Go.RowKit
/-! texts -/
theorem Zaw(s:Str):(bs s).size=s.length:=by simp[bs,ByteArray.size]
theorem Zdo(s:Str):(bs s).data.toList=s:=by simp[bs]
theorem Zax(s:Str):(bs s).toList=s:=by rw[ByteArray.toList_eq,Zdo]
theorem ZmU(s:ByteArray):bs s.data.toList=s:=by simp[bs]
theorem ZbJ(s:Str)(a b:Nat):(bs s).extract a b=bs ((s.drop a).take (b - a)):=by have h:=Lib.extract_data (bs s) a b;rw[Zdo]at h;rw[<-ZmU ((bs s).extract a b),h]
theorem ZgS(s:Str)(i:Nat)(h:i<(bs s).size):(bs s)[i]=s[i]'(by rw[Zaw]at h;exact h):=by show(bs s).data[i]=_;simp[bs]
structure Tabs (w : World) : Prop where
  pow : Lib.TabIs Tryd.prog w "internal/strconv.uint64pow10" .u64 Lib.pow10Tab
  syn : ∃ tp p, w.var? Tryd.prog "strconv.ErrSyntax" = some #[.iface tp p]
  rng : ∃ tp p, w.var? Tryd.prog "strconv.ErrRange" = some #[.iface tp p]
def TabsK(B:Nat)(w:World):Prop:=∀w',Keeps (fun b=>b<B) w w'->Tabs w'
theorem TabsK.now{B:Nat}{w:World}(h:TabsK B w):Tabs w:=h w (Keeps.refl _ _)
theorem TabsK.keeps{B:Nat}{w w':World}(h:TabsK B w)(hk:Keeps (fun b=>b<B) w w'):TabsK B w':=fun w2 h2=>h w2 (hk.trans h2)
theorem TabsK.below{B:Nat}{w w':World}(h:TabsK B w)(hk:Below w.heap.size w w'):TabsK B w':=h.keeps (Keeps.ob hk)
def ZmV(s:Str):List Value:=[.string (bs s)]
def Zoo(s:Str):Prop:=s.length<=1048576
theorem ZfD(s:Str):(ZmV s).length=1:=rfl
theorem ZjM(s:Str):∀u∈ZmV s,u.oneCell'=true:=by simp[ZmV,Value.oneCell']
theorem Zn3:ElemTy Tryd.prog 39 9 1 16:= .mk' (z:= .string ByteArray.empty) Tryd.underlying39 (by kernel_rfl) rfl (by omega) (by omega)
abbrev ZpM(w:World)(base:Nat)(l:List Str)(v:Value):Prop:=OwnF ZmV Zoo 9 1 w base l v
def RdM(g:Nat)(vv:Value)(b:Nat):Prop:=b=g\/Zai vv=some b
structure RdI (B base g : Nat) (vv : Value) (r : Rd) (w : World) : Prop where
  box : w.heap[g]? = some (.cells #[.string (bs r.s), vv, .bool r.bad] 53 (0, 0))
  vars : ZpM w base r.vars vv
  tab : TabsK B w
  bg : B ≤ g ∧ g < base ∧ base ≤ w.heap.size
  len : r.s.length + r.vars.length ≤ 2000
section
variable {B base g : Nat} {vv vv' : Value} {r r' : Rd} {w w' : World}
theorem RdI.lt(h:RdI B base g vv r w):g<w.heap.size/\base<=w.heap.size:=⟨Zah h.box,h.bg.2.2⟩
theorem RdI.apart(h:RdI B base g vv r w):Zai vv≠some g:=fun e=>by have :=(h.vars.lt g e).1;have :=h.bg;omega
theorem RdI.cells(h:RdI B base g vv r w):w.cell? ⟨g,0,none⟩=some (.string (bs r.s))/\w.cell? ⟨g,1,none⟩=some vv/\w.cell? ⟨g,2,none⟩=some (.bool r.bad)/\∀o,w.frozen? ⟨g,o,none⟩=false:=⟨(Zao h.box 0).trans rfl,(Zao h.box 1).trans rfl,(Zao h.box 2).trans rfl,fun o=>by simp[World.frozen?,h.box]⟩
theorem RdI.below(h:RdI B base g vv r w)(hb:Below w.heap.size w w'):RdI B base g vv r w':=⟨Zad h.box hb,h.vars.below hb,h.tab.below hb,⟨h.bg.1,h.bg.2.1,Nat.le_trans h.bg.2.2 hb.size⟩,h.len⟩
def RdStep(B base g:Nat)(vv:Value)(r':Rd)(w w':World):Prop:=∃vv',RdI B base g vv' r' w'/\Ch (RdM g vv) w w'/\(∀b,Zai vv'=some b->Zai vv=some b\/w.heap.size<=b)
theorem RdStep.refl(h:RdI B base g vv r w):RdStep B base g vv r w w:=⟨vv,h,Ch.refl _ _,fun b h=> .inl h⟩
theorem RdStep.trans{r'':Rd}{w'':World}(hc:Ch (RdM g vv) w w')(hv:∀b,Zai vv'=some b->Zai vv=some b\/w.heap.size<=b)(h:RdStep B base g vv' r'' w' w''):RdStep B base g vv r'' w w'':=by
 obtain⟨v2,h1,h2,h3⟩:=h;refine⟨v2,h1,hc.trans h2 ?_,fun b hb=>?_⟩
 ·rintro b(e|e);·exact .inl (.inl e)
  ·exact(hv b e).imp (fun e=> .inr e) id
 ·rcases h3 b hb with e|e;·exact hv b e
  ·exact .inr (Nat.le_trans hc.size e)
theorem RdI.setS(h:RdI B base g vv r w)(s:Str)(hs:s.length<=r.s.length):RdStep B base g vv {r with s:=s} w (w.setCell ⟨g,0,none⟩ (.string (bs s))):=by have hch0:Ch (fun b=>b=g) w (w.setCell ⟨g,0,none⟩ (.string (bs s))):=(Ch.refl (fun b=>b=g) w).setCell (p:=⟨g,0,none⟩) (.inl rfl) _;have hap:=h.apart;refine⟨vv,⟨(Zal h.box 0 _).trans rfl,h.vars.kept fun k hk=>hch0.block k (h.vars.lt k hk).2 (fun e=>hap (e▸hk)),h.tab.keeps (hch0.keeps fun b hb hA e=>by have :=h.bg;omega),⟨h.bg.1,h.bg.2.1,Nat.le_trans h.bg.2.2 hch0.size⟩,?_⟩,hch0.mono fun b _ hb=> .inl hb,fun b hb=> .inl hb⟩;have :=h.len;simp only;omega
theorem RdI.setBad(h:RdI B base g vv r w)(t:Bool):RdStep B base g vv {r with bad:=t} w (w.setCell ⟨g,2,none⟩ (.bool t)):=by have hch0:Ch (fun b=>b=g) w (w.setCell ⟨g,2,none⟩ (.bool t)):=(Ch.refl (fun b=>b=g) w).setCell (p:=⟨g,2,none⟩) (.inl rfl) _;have hap:=h.apart;exact⟨vv,⟨(Zal h.box 2 _).trans rfl,h.vars.kept fun k hk=>hch0.block k (h.vars.lt k hk).2 (fun e=>hap (e▸hk)),h.tab.keeps (hch0.keeps fun b hb hA e=>by have :=h.bg;omega),⟨h.bg.1,h.bg.2.1,Nat.le_trans h.bg.2.2 hch0.size⟩,h.len⟩,hch0.mono fun b _ hb=> .inl hb,fun b hb=> .inl hb⟩
theorem RdI.setVars(h:RdI B base g vv r w):RdStep B base g vv {r with vars:=[]} w (w.setCell ⟨g,1,none⟩ (.slice none 0 0)):=by have hch0:Ch (fun b=>b=g) w (w.setCell ⟨g,1,none⟩ (.slice none 0 0)):=(Ch.refl (fun b=>b=g) w).setCell (p:=⟨g,1,none⟩) (.inl rfl) _;refine⟨.slice none 0 0,⟨(Zal h.box 1 _).trans rfl,OwnF.nil,h.tab.keeps (hch0.keeps fun b hb hA e=>by have :=h.bg;omega),⟨h.bg.1,h.bg.2.1,Nat.le_trans h.bg.2.2 hch0.size⟩,?_⟩,hch0.mono fun b _ hb=> .inl hb,fun b hb=>by simp[Zai]at hb⟩;have :=h.len;simp only[List.length_nil];omega
end
def ZjN(g:Nat)(w:World):Nat:=match w.cell? ⟨g,0,none⟩with|some (.string s)=>s.size|_=>0
theorem ZbT{B base g:Nat}{vv:Value}{r:Rd}{w:World}(h:RdI B base g vv r w):ZjN g w=r.s.length:=by unfold ZjN;rw[h.cells.1];exact Zaw _
end Go.Proofs.YtlpmfkpefoegeacDoor
namespace Go.Proofs.YtlpmfkpefoegeacDoor
set_option maxRecDepth 100000
set_option maxHeartbeats 16000000
set_option linter.all false
open Go.RowKit Go.ChangeShapes Go.WideShapes
theorem Zf2{n:String}{w w':World}{cs:Array Value}(h:w.var? Tryd.prog n=some cs)(hk:Keeps (fun b=>b<w.heap.size) w w'):w'.var? Tryd.prog n=some cs:=by
 unfold World.var? at h ⊢;cases hg:Program.globalNamed Tryd.prog n with
  |none=>simp[hg]at h
  |some g=>
   simp only[hg,Option.bind_some]at h ⊢;have hlt:g<w.heap.size:=by
    rcases Nat.lt_or_ge g w.heap.size with h'|h';·exact h'
    ·simp[Array.getElem?_eq_none h']at h
   rw[hk.block g hlt hlt];exact h
theorem Zlv: "*" ++ "errors.errorString" = "*errors.errorString" :=by decide
theorem Zn4(u:TypeId)(h:Program.typeName? Tryd.prog 3 u=some "*errors.errorString"):u=191:=typeName_ptr_named (nm:= "errors.errorString") (by rw[Zlv];kernel_rfl) (by kernel_rfl) (by decide) u (by rw[Zlv];exact h)
theorem Zh6:Program.cellsOf Tryd.prog 193=1:=by kernel_rfl
theorem Zf3:Program.cellsOf Tryd.prog 9=1:=by kernel_rfl
theorem Zlw:Program.cellsOf Tryd.prog 135=1:=by kernel_rfl
theorem Zlx:Program.cellsOf Tryd.prog 155=20:=by kernel_rfl
theorem ZmW{r:List (String×DataW Unit)}{W:World}(h:laidMet Tryd.prog (("internal/strconv.uint64pow10",Lib.tabData .u64 Lib.pow10Tab)::r) W):Lib.TabIs Tryd.prog W "internal/strconv.uint64pow10" .u64 Lib.pow10Tab:=Lib.tabIs_of_head (g:=1) (by kernel_rfl) (by kernel_rfl) Tryd.underlying155 Tryd.underlying135 Zlw Zlx h
theorem ZmX{text:List UInt8}{r:List (String×DataW Unit)}{W:World}(h:laidMet Tryd.prog (("strconv.ErrRange",.iface "*errors.errorString" (.ptr (.agg [.lit (.string text)])))::r) W):∃tp p,W.var? Tryd.prog "strconv.ErrRange" =some #[.iface tp p]:=by obtain⟨a,s,hv, -, -, -⟩:=laid_sentinel (g:=4) h (by kernel_rfl) (by kernel_rfl) Tryd.underlying101 Zn4 Tryd.underlying191 Tryd.underlying193 rfl rfl Tryd.underlying9 Zh6 Zf3;exact⟨_,_,hv⟩
theorem ZmY{text:List UInt8}{r:List (String×DataW Unit)}{W:World}(h:laidMet Tryd.prog (("strconv.ErrSyntax",.iface "*errors.errorString" (.ptr (.agg [.lit (.string text)])))::r) W):∃tp p,W.var? Tryd.prog "strconv.ErrSyntax" =some #[.iface tp p]:=by obtain⟨a,s,hv, -, -, -⟩:=laid_sentinel (g:=3) h (by kernel_rfl) (by kernel_rfl) Tryd.underlying101 Zn4 Tryd.underlying191 Tryd.underlying193 rfl rfl Tryd.underlying9 Zh6 Zf3;exact⟨_,_,hv⟩
theorem ZmZ{W:World}(h1:Lib.TabIs Tryd.prog W "internal/strconv.uint64pow10" .u64 Lib.pow10Tab)(h2:∃tp p,W.var? Tryd.prog "strconv.ErrSyntax" =some #[.iface tp p])(h3:∃tp p,W.var? Tryd.prog "strconv.ErrRange" =some #[.iface tp p]):TabsK W.heap.size W:=by intro w' hk;obtain⟨t2,p2,e2⟩:=h2;obtain⟨t3,p3,e3⟩:=h3;exact⟨Zf2 h1 hk,⟨_,_,Zf2 e2 hk⟩,⟨_,_,Zf2 e3 hk⟩⟩
end Go.Proofs.YtlpmfkpefoegeacDoor
