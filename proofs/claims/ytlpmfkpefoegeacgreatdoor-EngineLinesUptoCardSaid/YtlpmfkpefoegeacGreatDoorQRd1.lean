import Derived.Test.YtlpmfkpefoegeacGreatDoorPNum
import Derived.Test.YtlpmfkpefoegeacGreatDoorQOwn
import Derived.StillTailTactics
import Derived.BigQuiet
import Derived.Lib.LaidTab
import Derived.Lib.ItoaNum
import Derived.Lib.Strings
namespace Go.Proofs.YtlpmfkpefoegeacGreatDoor
set_option maxRecDepth 99999
set_option maxHeartbeats 0
set_option linter.all false
open Go.RowKit
theorem dY(s:Str):(bs s).size=s.length:=by simp[bs,ByteArray.size]
theorem Iq(s:Str):(bs s).data.toList=s:=by simp[bs]
theorem jE(s:Str):(bs s).toList=s:=by rw[Ha,Iq]
theorem Mf(s:ByteArray):bs s.data.toList=s:=by simp[bs]
theorem AY(s:Str)(a b:Nat):(bs s).extract a b=bs ((s.drop a).take (b - a)):=by have h:=Lib.extract_data (bs s) a b;rw[Iq]at h;rw[<-Mf ((bs s).extract a b),h]
theorem Ir(s:Str)(i:Nat)(h:i<(bs s).size):(bs s)[i]=s[i]'(by rw[dY]at h;exact h):=by show(bs s).data[i]=_;simp[bs]
structure YS (w : World) : Prop where
  pow : Lib.TabIs Tryz.prog w "internal/strconv.uint64pow10" .u64 Lib.pow10Tab
  syn : ∃ tp p, w.var? Tryz.prog "strconv.ErrSyntax" = some #[.iface tp p]
  rng : ∃ tp p, w.var? Tryz.prog "strconv.ErrRange" = some #[.iface tp p]
def mO(B:Nat)(w:World):Prop:=∀w',ag (fun b=>b<B) w w'->YS w'
theorem mO.now{B:Nat}{w:World}(h:mO B w):YS w:=h w (ag.refl _ _)
theorem mO.keeps{B:Nat}{w w':World}(h:mO B w)(hk:ag (fun b=>b<B) w w'):mO B w':=fun w2 h2=>h w2 (hk.trans h2)
theorem mO.below{B:Nat}{w w':World}(h:mO B w)(hk:Below w.heap.size w w'):mO B w':=h.keeps (ag.ob hk)
def qF(s:Str):List Value:=[.string (bs s)]
def QS(s:Str):Prop:=s.length<=1048576
theorem vK(s:Str):(qF s).length=1:=rfl
theorem QT(s:Str):∀u∈qF s,u.oneCell'=true:=by simp[qF,Value.oneCell']
theorem Iu:mH Tryz.prog 45 9 1 16:= .mk' (z:= .string .empty) Tryz.underlying45 (by kernel_rfl) rfl (by omega) (by omega)
abbrev YT(w:World)(base:Nat)(l:List Str)(v:Value):Prop:=af qF QS 9 1 w base l v
def aU(g:Nat)(vv:Value)(b:Nat):Prop:=b=g\/ownB vv=some b
structure bW (B base g : Nat) (vv : Value) (r : Rd) (w : World) : Prop where
  box : w.heap[g]? = some (.cells #[.string (bs r.s), vv, .bool r.bad] 79 (0, 0))
  vars : YT w base r.vars vv
  tab : mO B w
  bg : B ≤ g ∧ g < base ∧ base ≤ w.heap.size
  len : r.s.length + r.vars.length ≤ 2000
section
variable {B base g : Nat} {vv lC : Value} {r r' : Rd} {w w' : World}
theorem bW.lt(h:bW B base g vv r w):g<w.heap.size/\base<=w.heap.size:=⟨aD h.box,h.bg.2.2⟩
theorem bW.apart(h:bW B base g vv r w):ownB vv≠some g:=fun e=>by have :=(h.vars.lt g e).1;have :=h.bg;omega
theorem bW.cells(h:bW B base g vv r w):w.cell? ⟨g,0,none⟩=some (.string (bs r.s))/\w.cell? ⟨g,1,none⟩=some vv/\w.cell? ⟨g,2,none⟩=some (.bool r.bad)/\∀o,w.frozen? ⟨g,o,none⟩=false:=⟨(dw h.box 0).trans rfl,(dw h.box 1).trans rfl,(dw h.box 2).trans rfl,fun o=>by simp[World.frozen?,h.box]⟩
theorem bW.below(h:bW B base g vv r w)(hb:Below w.heap.size w w'):bW B base g vv r w':=⟨aL h.box hb,h.vars.below hb,h.tab.below hb,⟨h.bg.1,h.bg.2.1,dM h.bg.2.2 hb.size⟩,h.len⟩
def gG(B base g:Nat)(vv:Value)(r':Rd)(w w':World):Prop:=∃lC,bW B base g lC r' w'/\Ch (aU g vv) w w'/\(∀b,ownB lC=some b->ownB vv=some b\/w.heap.size<=b)
theorem gG.refl(h:bW B base g vv r w):gG B base g vv r w w:=⟨vv,h,Ch.refl _ _,fun b h=> .inl h⟩
theorem gG.trans{YU:Rd}{w'':World}(hc:Ch (aU g vv) w w')(hv:∀b,ownB lC=some b->ownB vv=some b\/w.heap.size<=b)(h:gG B base g lC YU w' w''):gG B base g vv YU w w'':=by
 obtain⟨v2,h1,h2,h3⟩:=h;refine⟨v2,h1,hc.trans h2 ?_,fun b hb=>?_⟩
 ·rintro b(e|e);·exact .inl (.inl e)
  ·exact(hv b e).imp (fun e=> .inr e) id
 ·rcases h3 b hb with e|e;·exact hv b e
  ·exact .inr (dM hc.size e)
theorem bW.AZ(h:bW B base g vv r w)(s:Str)(hs:s.length<=r.s.length):gG B base g vv {r with s:=s} w (w.setCell ⟨g,0,none⟩ (.string (bs s))):=by have dZ:Ch (fun b=>b=g) w (w.setCell ⟨g,0,none⟩ (.string (bs s))):=(Ch.refl (fun b=>b=g) w).setCell (p:=⟨g,0,none⟩) (.inl rfl) _;have hap:=h.apart;refine⟨vv,⟨(bI h.box 0 _).trans rfl,h.vars.kept fun k hk=>dZ.block k (h.vars.lt k hk).2 (fun e=>hap (e▸hk)),h.tab.keeps (dZ.keeps fun b hb hA e=>by have :=h.bg;omega),⟨h.bg.1,h.bg.2.1,dM h.bg.2.2 dZ.size⟩,?_⟩,dZ.mono fun b _ hb=> .inl hb,fun b hb=> .inl hb⟩;have :=h.len;simp only;omega
theorem bW.xz(h:bW B base g vv r w)(t:Bool):gG B base g vv {r with bad:=t} w (w.setCell ⟨g,2,none⟩ (.bool t)):=by have dZ:Ch (fun b=>b=g) w (w.setCell ⟨g,2,none⟩ (.bool t)):=(Ch.refl (fun b=>b=g) w).setCell (p:=⟨g,2,none⟩) (.inl rfl) _;have hap:=h.apart;exact⟨vv,⟨(bI h.box 2 _).trans rfl,h.vars.kept fun k hk=>dZ.block k (h.vars.lt k hk).2 (fun e=>hap (e▸hk)),h.tab.keeps (dZ.keeps fun b hb hA e=>by have :=h.bg;omega),⟨h.bg.1,h.bg.2.1,dM h.bg.2.2 dZ.size⟩,h.len⟩,dZ.mono fun b _ hb=> .inl hb,fun b hb=> .inl hb⟩
theorem bW.ahD(h:bW B base g vv r w):gG B base g vv {r with vars:=[]} w (w.setCell ⟨g,1,none⟩ (.slice none 0 0)):=by have dZ:Ch (fun b=>b=g) w (w.setCell ⟨g,1,none⟩ (.slice none 0 0)):=(Ch.refl (fun b=>b=g) w).setCell (p:=⟨g,1,none⟩) (.inl rfl) _;refine⟨.slice none 0 0,⟨(bI h.box 1 _).trans rfl,af.nil,h.tab.keeps (dZ.keeps fun b hb hA e=>by have :=h.bg;omega),⟨h.bg.1,h.bg.2.1,dM h.bg.2.2 dZ.size⟩,?_⟩,dZ.mono fun b _ hb=> .inl hb,fun b hb=>by simp[ownB]at hb⟩;have :=h.len;simp only[fC];omega
end
def qG(g:Nat)(w:World):Nat:=match w.cell? ⟨g,0,none⟩with|some (.string s)=>s.size|_=>0
theorem qH{B base g:Nat}{vv:Value}{r:Rd}{w:World}(h:bW B base g vv r w):qG g w=r.s.length:=by unfold qG;rw[h.cells.1];exact dY _
