import Derived.Test.YtlpmfkpefoegeacGreatDoorPNum
import Derived.Test.YtlpmfkpefoegeacGreatDoorQOwn
import Derived.StillTailTactics
import Derived.BigQuiet
import Derived.Lib.LaidTab
import Derived.Lib.ItoaNum
import Derived.Lib.Strings
import Derived.Stop.LaidErr
namespace Go.Proofs.YtlpmfkpefoegeacGreatDoor
set_option maxRecDepth 99999
set_option maxHeartbeats 0
set_option linter.all false
open Go.RowKit
theorem eP(s:Str):(bs s).size=s.length:=by simp[bs,ByteArray.size]
theorem Xk(s:Str):(bs s).data.toList=s:=by simp[bs]
theorem lN(s:Str):(bs s).toList=s:=by rw[Me,Xk]
theorem Rt(s:ByteArray):bs s.data.toList=s:=by simp[bs]
theorem Ep(s:Str)(a b:Nat):(bs s).extract a b=bs ((s.drop a).take (b - a)):=by have h:=Lib.extract_data (bs s) a b;rw[Xk]at h;rw[<-Rt ((bs s).extract a b),h]
theorem M4(s:Str)(i:Nat)(h:i<(bs s).size):(bs s)[i]=s[i]'(by rw[eP]at h;exact h):=by show(bs s).data[i]=_;simp[bs]
structure aeG (w : World) : Prop where
  pow : Lib.TabIs Tryz.prog w "internal/strconv.uint64pow10" .u64 Lib.pow10Tab
  syn : ∃ tp p, w.var? Tryz.prog "strconv.ErrSyntax" = some #[.iface tp p]
  rng : ∃ tp p, w.var? Tryz.prog "strconv.ErrRange" = some #[.iface tp p]
def qh(B:Nat)(w:World):Prop:=∀w',J (fun b=>b<B) w w'->aeG w'
theorem qh.now{B:Nat}{w:World}(h:qh B w):aeG w:=h w (J.refl _ _)
theorem qh.keeps{B:Nat}{w w':World}(h:qh B w)(hk:J (fun b=>b<B) w w'):qh B w':=fun w2 h2=>h w2 (hk.trans h2)
theorem qh.below{B:Nat}{w w':World}(h:qh B w)(hk:Below w.heap.size w w'):qh B w':=h.keeps (J.ob hk)
def Ct(s:Str):List Value:=[.string (bs s)]
def Xl(s:Str):Prop:=s.length<=1048576
theorem Ru(s:Str):(Ct s).length=1:=rfl
theorem aeH(s:Str):∀u∈Ct s,u.oneCell'=true:=by simp[Ct,Value.oneCell']
theorem aeI:oU Tryz.prog 45 9 1 16:= .mk' (z:= .string .empty) Tryz.underlying45 (by kernel_rfl) rfl (by omega) (by omega)
abbrev aeJ(w:World)(base:Nat)(l:List Str)(v:Value):Prop:=I Ct Xl 9 1 w base l v
def aQ(g:Nat)(vv:Value)(b:Nat):Prop:=b=g\/ownB vv=some b
structure bT (B base g : Nat) (vv : Value) (r : Rd) (w : World) : Prop where
  box : w.heap[g]? = some (.cells #[.string (bs r.s), vv, .bool r.bad] 79 (0, 0))
  vars : aeJ w base r.vars vv
  tab : qh B w
  bg : B ≤ g ∧ g < base ∧ base ≤ w.heap.size
  len : r.s.length + r.vars.length ≤ 2000
section
variable {B base g : Nat} {vv nV : Value} {r r' : Rd} {w w' : World}
theorem bT.lt(h:bT B base g vv r w):g<w.heap.size/\base<=w.heap.size:=⟨ax h.box,h.bg.2.2⟩
theorem bT.apart(h:bT B base g vv r w):ownB vv≠some g:=fun e=>by have :=(h.vars.lt g e).1;have :=h.bg;omega
theorem bT.cells(h:bT B base g vv r w):w.cell? ⟨g,0,none⟩=some (.string (bs r.s))/\w.cell? ⟨g,1,none⟩=some vv/\w.cell? ⟨g,2,none⟩=some (.bool r.bad)/\∀o,w.frozen? ⟨g,o,none⟩=false:=⟨(bY h.box 0).trans rfl,(bY h.box 1).trans rfl,(bY h.box 2).trans rfl,fun o=>by simp[World.frozen?,h.box]⟩
theorem bT.below(h:bT B base g vv r w)(hb:Below w.heap.size w w'):bT B base g vv r w':=⟨aA h.box hb,h.vars.below hb,h.tab.below hb,⟨h.bg.1,h.bg.2.1,dm h.bg.2.2 hb.size⟩,h.len⟩
def iK(B base g:Nat)(vv:Value)(r':Rd)(w w':World):Prop:=∃nV,bT B base g nV r' w'/\Ch (aQ g vv) w w'/\(∀b,ownB nV=some b->ownB vv=some b\/w.heap.size<=b)
theorem iK.refl(h:bT B base g vv r w):iK B base g vv r w w:=⟨vv,h,Ch.refl _ _,fun b h=> .inl h⟩
theorem iK.trans{r'':Rd}{w'':World}(hc:Ch (aQ g vv) w w')(hv:∀b,ownB nV=some b->ownB vv=some b\/w.heap.size<=b)(h:iK B base g nV r'' w' w''):iK B base g vv r'' w w'':=by
 obtain⟨v2,h1,h2,h3⟩:=h;refine⟨v2,h1,hc.trans h2 ?_,fun b hb=>?_⟩
 ·rintro b(e|e);·exact .inl (.inl e)
  ·exact(hv b e).imp (fun e=> .inr e) id
 ·rcases h3 b hb with e|e;·exact hv b e
  ·exact .inr (dm hc.size e)
theorem bT.Er(h:bT B base g vv r w)(s:Str)(hs:s.length<=r.s.length):iK B base g vv {r with s:=s} w (w.setCell ⟨g,0,none⟩ (.string (bs s))):=by have dz:Ch (fun b=>b=g) w (w.setCell ⟨g,0,none⟩ (.string (bs s))):=(Ch.refl (fun b=>b=g) w).setCell (p:=⟨g,0,none⟩) (.inl rfl) _;have hap:=h.apart;refine⟨vv,⟨(aX h.box 0 _).trans rfl,h.vars.kept fun k hk=>dz.block k (h.vars.lt k hk).2 (fun e=>hap (e▸hk)),h.tab.keeps (dz.keeps fun b hb hA e=>by have :=h.bg;omega),⟨h.bg.1,h.bg.2.1,dm h.bg.2.2 dz.size⟩,?_⟩,dz.mono fun b _ hb=> .inl hb,fun b hb=> .inl hb⟩;have :=h.len;simp only;omega
theorem bT.AA(h:bT B base g vv r w)(t:Bool):iK B base g vv {r with bad:=t} w (w.setCell ⟨g,2,none⟩ (.bool t)):=by have dz:Ch (fun b=>b=g) w (w.setCell ⟨g,2,none⟩ (.bool t)):=(Ch.refl (fun b=>b=g) w).setCell (p:=⟨g,2,none⟩) (.inl rfl) _;have hap:=h.apart;exact⟨vv,⟨(aX h.box 2 _).trans rfl,h.vars.kept fun k hk=>dz.block k (h.vars.lt k hk).2 (fun e=>hap (e▸hk)),h.tab.keeps (dz.keeps fun b hb hA e=>by have :=h.bg;omega),⟨h.bg.1,h.bg.2.1,dm h.bg.2.2 dz.size⟩,h.len⟩,dz.mono fun b _ hb=> .inl hb,fun b hb=> .inl hb⟩
theorem bT.Xm(h:bT B base g vv r w):iK B base g vv {r with vars:=[]} w (w.setCell ⟨g,1,none⟩ (.slice none 0 0)):=by have dz:Ch (fun b=>b=g) w (w.setCell ⟨g,1,none⟩ (.slice none 0 0)):=(Ch.refl (fun b=>b=g) w).setCell (p:=⟨g,1,none⟩) (.inl rfl) _;refine⟨.slice none 0 0,⟨(aX h.box 1 _).trans rfl,I.nil,h.tab.keeps (dz.keeps fun b hb hA e=>by have :=h.bg;omega),⟨h.bg.1,h.bg.2.1,dm h.bg.2.2 dz.size⟩,?_⟩,dz.mono fun b _ hb=> .inl hb,fun b hb=>by simp[ownB]at hb⟩;have :=h.len;simp only[fT];omega
end
def uG(g:Nat)(w:World):Nat:=match w.cell? ⟨g,0,none⟩with|some (.string s)=>s.size|_=>0
theorem uH{B base g:Nat}{vv:Value}{r:Rd}{w:World}(h:bT B base g vv r w):uG g w=r.s.length:=by unfold uG;rw[h.cells.1];exact eP _
open Go.RowKit Go.ChangeShapes Go.WideShapes
theorem Xn{n:String}{w w':World}{cs:Array Value}(h:w.var? Tryz.prog n=some cs)(hk:J (fun b=>b<w.heap.size) w w'):w'.var? Tryz.prog n=some cs:=by
 unfold World.var? at h ⊢;cases hg:Program.globalNamed Tryz.prog n with
  |none=>simp[hg]at h
  |some g=>
   simp only[hg,Option.bind_some]at h ⊢;have hlt:g<w.heap.size:=by
    rcases Nat.lt_or_ge g w.heap.size with h'|h';·exact h'
    ·simp[Ai h']at h
   rw[hk.block g hlt hlt];exact h
theorem aeL: "*" ++ "errors.errorString" = "*errors.errorString" :=by decide
theorem aeM(u:TypeId)(h:Program.typeName? Tryz.prog 3 u=some "*errors.errorString"):u=246:=typeName_ptr_named (nm:= "errors.errorString") (by rw[aeL];kernel_rfl) (by kernel_rfl) (by decide) u (by rw[aeL];exact h)
theorem aeN:Program.cellsOf Tryz.prog 248=1:=by kernel_rfl
theorem Xo:Program.cellsOf Tryz.prog 9=1:=by kernel_rfl
theorem aoh:Program.cellsOf Tryz.prog 200=1:=by kernel_rfl
theorem aoi:Program.cellsOf Tryz.prog 214=20:=by kernel_rfl
theorem aoj{r:List (String×DataW Unit)}{W:World}(h:laidMet Tryz.prog (("internal/strconv.uint64pow10",Lib.tabData .u64 Lib.pow10Tab)::r) W):Lib.TabIs Tryz.prog W "internal/strconv.uint64pow10" .u64 Lib.pow10Tab:=Lib.tabIs_of_head (g:=2) (by kernel_rfl) (by kernel_rfl) Tryz.underlying214 Tryz.underlying200 aoh aoi h
theorem aok{text:List UInt8}{r:List (String×DataW Unit)}{W:World}(h:laidMet Tryz.prog (("strconv.ErrRange",.iface "*errors.errorString" (.ptr (.agg [.lit (.string text)])))::r) W):∃tp p,W.var? Tryz.prog "strconv.ErrRange" =some #[.iface tp p]:=by obtain⟨a,s,hv, -, -, -⟩:=laid_sentinel (g:=4) h (by kernel_rfl) (by kernel_rfl) Tryz.underlying150 aeM Tryz.underlying246 Tryz.underlying248 rfl rfl Tryz.underlying9 aeN Xo;exact⟨_,_,hv⟩
theorem aol{text:List UInt8}{r:List (String×DataW Unit)}{W:World}(h:laidMet Tryz.prog (("strconv.ErrSyntax",.iface "*errors.errorString" (.ptr (.agg [.lit (.string text)])))::r) W):∃tp p,W.var? Tryz.prog "strconv.ErrSyntax" =some #[.iface tp p]:=by obtain⟨a,s,hv, -, -, -⟩:=laid_sentinel (g:=3) h (by kernel_rfl) (by kernel_rfl) Tryz.underlying150 aeM Tryz.underlying246 Tryz.underlying248 rfl rfl Tryz.underlying9 aeN Xo;exact⟨_,_,hv⟩
theorem aom{W:World}(h1:Lib.TabIs Tryz.prog W "internal/strconv.uint64pow10" .u64 Lib.pow10Tab)(h2:∃tp p,W.var? Tryz.prog "strconv.ErrSyntax" =some #[.iface tp p])(h3:∃tp p,W.var? Tryz.prog "strconv.ErrRange" =some #[.iface tp p]):qh W.heap.size W:=by intro w' hk;obtain⟨t2,p2,e2⟩:=h2;obtain⟨t3,p3,e3⟩:=h3;exact⟨Xn h1 hk,⟨_,_,Xn e2 hk⟩,⟨_,_,Xn e3 hk⟩⟩
