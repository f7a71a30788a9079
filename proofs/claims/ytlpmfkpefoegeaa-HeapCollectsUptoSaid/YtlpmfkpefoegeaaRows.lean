/-
  NARROWER THAN 'FOR EVERY INPUT', by the rows' own cells (each row's printed sentence says how): TermTidy: loops · TermTurns: loops.
  DERIVED. THE GIVEN ROWS OF THIS SEAT. 11 by the template 'for every input the law returns true; each argument reads behind the call as it read before'; 0 by the template 'total and deterministic' (their statements: YtlpmfkpefoegeaaTotals.lean).
  GIVEN WITH THE SEED: the statements are not yours to turn. If you find one false, say at which input.
  Laid BY PROGRAM, IN A SANDBOX (cutbox-rows.mjs): the forced cells as the released guide's own fill.sh prints them over the translation 5aae20144833b619… (all of the seat's roots in one cut). By AI agents, Wed Nov 11 2026. No macro, syntax, notation, axiom, sorry.
-/
import Derived.Test.YtlpmfkpefoegeaaChecked
import GoSem.Claim
import GoSem.ClaimJoined
import GoSem.ClaimMapViews
import Derived.JoinedTies
import Derived.KernelRfl
namespace Go.Proofs.Ytlpmfkpefoegeaa
/- THE CELL 'sum', in the pinned program and in every row, IS THE sha256 OF THE DUMP (.gsa) THAT YtlpmfkpefoegeaaProg.lean LOADS. Nothing in Lean hashes anything: it is a label: what it is worth is what the hold of that sum in a sandbox is worth. -/
noncomputable def Try.pinned : Pinned := { name := "ytlpmfkpefoegeaa", sum := "5aae20144833b619303ef1e32a3b5bc9a6ce3c73e6ff108c03fb44922319eef5", checked := Try.checked }
namespace Rows
def none {H : Type} : Left H := { results := [], args := [] }

/-- 'queristlaw.Names': WHATEVER THE INPUT: true; the input reads as it did. -/
def namesSpec : ChangeSpec := { name := "names", fn := fun _ => fun
  | [] => { results := [.lit (.bool true)], args := [] }
  | _ => none }
def namesRow : OpenClaim := { program := "ytlpmfkpefoegeaa", sum := "5aae20144833b619303ef1e32a3b5bc9a6ce3c73e6ff108c03fb44922319eef5", func := "querist/queristlaw.Names", spec := "names", apart := false }
def NamesSaid : Prop := namesRow.holds Try.pinned (OpenSpec.ofChange namesSpec)

/-- ITS FALSE NEIGHBOUR: 'it returns false'. Refute it at one input. -/
def namesWrong : ChangeSpec := { name := "names", fn := fun _ => fun
  | [] => { results := [.lit (.bool false)], args := [] }
  | _ => none }
def NamesWrongFalsely : Prop := namesRow.holds Try.pinned (OpenSpec.ofChange namesWrong)

/-- 'queristkeep.TermTidy': WHATEVER THE INPUT: true; the input reads as it did. -/
def termTidySpec : ChangeSpec := { name := "termTidy", fn := fun _ => fun
  | [d1, d2] => { results := [.lit (.bool true)], args := [d1, d2] }
  | _ => none }
def termTidyRow : OpenClaim := { program := "ytlpmfkpefoegeaa", sum := "5aae20144833b619303ef1e32a3b5bc9a6ce3c73e6ff108c03fb44922319eef5", func := "querist/queristkeep.TermTidy", spec := "termTidy", unfollowed := true, recurses := true, loops := true, apart := false }
def TermTidySaid : Prop := termTidyRow.holds Try.pinned (OpenSpec.ofChange termTidySpec)

/-- ITS FALSE NEIGHBOUR: 'it returns false'. Refute it at one input. -/
def termTidyWrong : ChangeSpec := { name := "termTidy", fn := fun _ => fun
  | [d1, d2] => { results := [.lit (.bool false)], args := [d1, d2] }
  | _ => none }
def TermTidyWrongFalsely : Prop := termTidyRow.holds Try.pinned (OpenSpec.ofChange termTidyWrong)

/-- 'queristlaw.TermTurns': WHATEVER THE INPUT: true; the input reads as it did. -/
def termTurnsSpec : ChangeSpec := { name := "termTurns", fn := fun _ => fun
  | [d1, d2, d3, d4] => { results := [.lit (.bool true)], args := [d1, d2, d3, d4] }
  | _ => none }
def termTurnsRow : OpenClaim := { program := "ytlpmfkpefoegeaa", sum := "5aae20144833b619303ef1e32a3b5bc9a6ce3c73e6ff108c03fb44922319eef5", func := "querist/queristlaw.TermTurns", spec := "termTurns", unfollowed := true, recurses := true, loops := true, apart := false }
def TermTurnsSaid : Prop := termTurnsRow.holds Try.pinned (OpenSpec.ofChange termTurnsSpec)

/-- ITS FALSE NEIGHBOUR: 'it returns false'. Refute it at one input. -/
def termTurnsWrong : ChangeSpec := { name := "termTurns", fn := fun _ => fun
  | [d1, d2, d3, d4] => { results := [.lit (.bool false)], args := [d1, d2, d3, d4] }
  | _ => none }
def TermTurnsWrongFalsely : Prop := termTurnsRow.holds Try.pinned (OpenSpec.ofChange termTurnsWrong)

/-- 'queristlaw.HeapLoads': WHATEVER THE INPUT: true; the input reads as it did. -/
def heapLoadsSpec : ChangeSpec := { name := "heapLoads", fn := fun _ => fun
  | [d1, d2] => { results := [.lit (.bool true)], args := [d1, d2] }
  | _ => none }
def heapLoadsRow : OpenClaim := { program := "ytlpmfkpefoegeaa", sum := "5aae20144833b619303ef1e32a3b5bc9a6ce3c73e6ff108c03fb44922319eef5", func := "querist/queristlaw.HeapLoads", spec := "heapLoads", recurses := true, apart := false }
def HeapLoadsSaid : Prop := heapLoadsRow.holds Try.pinned (OpenSpec.ofChange heapLoadsSpec)

/-- ITS FALSE NEIGHBOUR: 'it returns false'. Refute it at one input. -/
def heapLoadsWrong : ChangeSpec := { name := "heapLoads", fn := fun _ => fun
  | [d1, d2] => { results := [.lit (.bool false)], args := [d1, d2] }
  | _ => none }
def HeapLoadsWrongFalsely : Prop := heapLoadsRow.holds Try.pinned (OpenSpec.ofChange heapLoadsWrong)

/-- 'queristlaw.HeapUnifies': WHATEVER THE INPUT: true; the input reads as it did. -/
def heapUnifiesSpec : ChangeSpec := { name := "heapUnifies", fn := fun _ => fun
  | [d1, d2, d3] => { results := [.lit (.bool true)], args := [d1, d2, d3] }
  | _ => none }
def heapUnifiesRow : OpenClaim := { program := "ytlpmfkpefoegeaa", sum := "5aae20144833b619303ef1e32a3b5bc9a6ce3c73e6ff108c03fb44922319eef5", func := "querist/queristlaw.HeapUnifies", spec := "heapUnifies", unfollowed := true, recurses := true, apart := false }
def HeapUnifiesSaid : Prop := heapUnifiesRow.holds Try.pinned (OpenSpec.ofChange heapUnifiesSpec)

/-- ITS FALSE NEIGHBOUR: 'it returns false'. Refute it at one input. -/
def heapUnifiesWrong : ChangeSpec := { name := "heapUnifies", fn := fun _ => fun
  | [d1, d2, d3] => { results := [.lit (.bool false)], args := [d1, d2, d3] }
  | _ => none }
def HeapUnifiesWrongFalsely : Prop := heapUnifiesRow.holds Try.pinned (OpenSpec.ofChange heapUnifiesWrong)

/-- 'queristkeep.HeapAgain': WHATEVER THE INPUT: true; the input reads as it did. -/
def heapAgainSpec : ChangeSpec := { name := "heapAgain", fn := fun _ => fun
  | [d1, d2, d3] => { results := [.lit (.bool true)], args := [d1, d2, d3] }
  | _ => none }
def heapAgainRow : OpenClaim := { program := "ytlpmfkpefoegeaa", sum := "5aae20144833b619303ef1e32a3b5bc9a6ce3c73e6ff108c03fb44922319eef5", func := "querist/queristkeep.HeapAgain", spec := "heapAgain", recurses := true, apart := false }
def HeapAgainSaid : Prop := heapAgainRow.holds Try.pinned (OpenSpec.ofChange heapAgainSpec)

/-- ITS FALSE NEIGHBOUR: 'it returns false'. Refute it at one input. -/
def heapAgainWrong : ChangeSpec := { name := "heapAgain", fn := fun _ => fun
  | [d1, d2, d3] => { results := [.lit (.bool false)], args := [d1, d2, d3] }
  | _ => none }
def HeapAgainWrongFalsely : Prop := heapAgainRow.holds Try.pinned (OpenSpec.ofChange heapAgainWrong)

/-- 'queristlaw.HeapBacks': WHATEVER THE INPUT: true; the input reads as it did. -/
def heapBacksSpec : ChangeSpec := { name := "heapBacks", fn := fun _ => fun
  | [d1, d2] => { results := [.lit (.bool true)], args := [d1, d2] }
  | _ => none }
def heapBacksRow : OpenClaim := { program := "ytlpmfkpefoegeaa", sum := "5aae20144833b619303ef1e32a3b5bc9a6ce3c73e6ff108c03fb44922319eef5", func := "querist/queristlaw.HeapBacks", spec := "heapBacks", recurses := true, apart := false }
def HeapBacksSaid : Prop := heapBacksRow.holds Try.pinned (OpenSpec.ofChange heapBacksSpec)

/-- ITS FALSE NEIGHBOUR: 'it returns false'. Refute it at one input. -/
def heapBacksWrong : ChangeSpec := { name := "heapBacks", fn := fun _ => fun
  | [d1, d2] => { results := [.lit (.bool false)], args := [d1, d2] }
  | _ => none }
def HeapBacksWrongFalsely : Prop := heapBacksRow.holds Try.pinned (OpenSpec.ofChange heapBacksWrong)

/-- 'queristlaw.HeapTerms': WHATEVER THE INPUT: true; the input reads as it did. -/
def heapTermsSpec : ChangeSpec := { name := "heapTerms", fn := fun _ => fun
  | [d1, d2, d3] => { results := [.lit (.bool true)], args := [d1, d2, d3] }
  | _ => none }
def heapTermsRow : OpenClaim := { program := "ytlpmfkpefoegeaa", sum := "5aae20144833b619303ef1e32a3b5bc9a6ce3c73e6ff108c03fb44922319eef5", func := "querist/queristlaw.HeapTerms", spec := "heapTerms", recurses := true, apart := false }
def HeapTermsSaid : Prop := heapTermsRow.holds Try.pinned (OpenSpec.ofChange heapTermsSpec)

/-- ITS FALSE NEIGHBOUR: 'it returns false'. Refute it at one input. -/
def heapTermsWrong : ChangeSpec := { name := "heapTerms", fn := fun _ => fun
  | [d1, d2, d3] => { results := [.lit (.bool false)], args := [d1, d2, d3] }
  | _ => none }
def HeapTermsWrongFalsely : Prop := heapTermsRow.holds Try.pinned (OpenSpec.ofChange heapTermsWrong)

/-- 'queristkeep.HeapOne': WHATEVER THE INPUT: true; the input reads as it did. -/
def heapOneSpec : ChangeSpec := { name := "heapOne", fn := fun _ => fun
  | [d1, d2, d3] => { results := [.lit (.bool true)], args := [d1, d2, d3] }
  | _ => none }
def heapOneRow : OpenClaim := { program := "ytlpmfkpefoegeaa", sum := "5aae20144833b619303ef1e32a3b5bc9a6ce3c73e6ff108c03fb44922319eef5", func := "querist/queristkeep.HeapOne", spec := "heapOne", recurses := true, apart := false }
def HeapOneSaid : Prop := heapOneRow.holds Try.pinned (OpenSpec.ofChange heapOneSpec)

/-- ITS FALSE NEIGHBOUR: 'it returns false'. Refute it at one input. -/
def heapOneWrong : ChangeSpec := { name := "heapOne", fn := fun _ => fun
  | [d1, d2, d3] => { results := [.lit (.bool false)], args := [d1, d2, d3] }
  | _ => none }
def HeapOneWrongFalsely : Prop := heapOneRow.holds Try.pinned (OpenSpec.ofChange heapOneWrong)

/-- 'queristlaw.HeapCollects': WHATEVER THE INPUT: true; the input reads as it did. -/
def heapCollectsSpec : ChangeSpec := { name := "heapCollects", fn := fun _ => fun
  | [d1, d2, d3, d4] => { results := [.lit (.bool true)], args := [d1, d2, d3, d4] }
  | _ => none }
def heapCollectsRow : OpenClaim := { program := "ytlpmfkpefoegeaa", sum := "5aae20144833b619303ef1e32a3b5bc9a6ce3c73e6ff108c03fb44922319eef5", func := "querist/queristlaw.HeapCollects", spec := "heapCollects", unfollowed := true, recurses := true, apart := false }
def HeapCollectsSaid : Prop := heapCollectsRow.holds Try.pinned (OpenSpec.ofChange heapCollectsSpec)

/-- ITS FALSE NEIGHBOUR: 'it returns false'. Refute it at one input. -/
def heapCollectsWrong : ChangeSpec := { name := "heapCollects", fn := fun _ => fun
  | [d1, d2, d3, d4] => { results := [.lit (.bool false)], args := [d1, d2, d3, d4] }
  | _ => none }
def HeapCollectsWrongFalsely : Prop := heapCollectsRow.holds Try.pinned (OpenSpec.ofChange heapCollectsWrong)

/-- 'queristkeep.HeapSmall': WHATEVER THE INPUT: true; the input reads as it did. -/
def heapSmallSpec : ChangeSpec := { name := "heapSmall", fn := fun _ => fun
  | [d1, d2, d3] => { results := [.lit (.bool true)], args := [d1, d2, d3] }
  | _ => none }
def heapSmallRow : OpenClaim := { program := "ytlpmfkpefoegeaa", sum := "5aae20144833b619303ef1e32a3b5bc9a6ce3c73e6ff108c03fb44922319eef5", func := "querist/queristkeep.HeapSmall", spec := "heapSmall", recurses := true, apart := false }
def HeapSmallSaid : Prop := heapSmallRow.holds Try.pinned (OpenSpec.ofChange heapSmallSpec)

/-- ITS FALSE NEIGHBOUR: 'it returns false'. Refute it at one input. -/
def heapSmallWrong : ChangeSpec := { name := "heapSmall", fn := fun _ => fun
  | [d1, d2, d3] => { results := [.lit (.bool false)], args := [d1, d2, d3] }
  | _ => none }
def HeapSmallWrongFalsely : Prop := heapSmallRow.holds Try.pinned (OpenSpec.ofChange heapSmallWrong)

/- THE SECOND FORM. 'bulk': how many values and letters a reading holds, each counted each time it is reached (what is shared counts as often as it is met; a slice's spare places count too). A statement '..UptoSaid' is the law's where the arguments, and the package variables that the reading takes, are together of bulk at most 1048576: NARROWER than '..Said'. Prove '..Said' where nothing that the law and all that it calls make is longer than what came in: it says more and counts as full. Else prove '..UptoSaid'. A law counts once. -/
mutual
def uptoBulk {H : Type} : DataW H → Nat
  | .lit (.string bytes) => bytes.length + 1
  | .lit _ => 1
  | .nil => 1
  | .ptr d => uptoBulk d + 1
  | .slice elems spare => uptoBulkAll elems + uptoBulkAll spare + 1
  | .agg parts => uptoBulkAll parts + 1
  | .iface _ d => uptoBulk d + 1
  | .map entries => uptoBulkEntries entries + 1
  | .held _ => 1
def uptoBulkAll {H : Type} : List (DataW H) → Nat
  | [] => 0
  | d :: r => uptoBulk d + uptoBulkAll r
def uptoBulkEntries {H : Type} : List (Lit × DataW H) → Nat
  | [] => 0
  | x :: r => uptoBulkEntry x + uptoBulkEntries r
def uptoBulkEntry {H : Type} : Lit × DataW H → Nat
  | (.string bytes, d) => bytes.length + uptoBulk d + 1
  | (_, d) => uptoBulk d + 1
 end
def uptoSmall : (H : Type) → List (DataW H) → Bool := fun _ ds => decide (uptoBulkAll ds ≤ 1048576)
def OpenSpec.upto (s : _root_.Go.ChangeSpec) : _root_.Go.OpenSpec := { _root_.Go.OpenSpec.ofChange s with cond := some uptoSmall }

/-- 'queristlaw.Names', WHERE WHAT IT READS IS OF BULK AT MOST 1048576: true; the input reads as it did. -/
def namesUptoRow : OpenClaim := { program := "ytlpmfkpefoegeaa", sum := "5aae20144833b619303ef1e32a3b5bc9a6ce3c73e6ff108c03fb44922319eef5", func := "querist/queristlaw.Names", spec := "names", apart := false, narrowed := true }
def NamesUptoSaid : Prop := namesUptoRow.holds Try.pinned (OpenSpec.upto namesSpec)

/-- 'queristkeep.TermTidy', WHERE WHAT IT READS IS OF BULK AT MOST 1048576: true; the input reads as it did. -/
def termTidyUptoRow : OpenClaim := { program := "ytlpmfkpefoegeaa", sum := "5aae20144833b619303ef1e32a3b5bc9a6ce3c73e6ff108c03fb44922319eef5", func := "querist/queristkeep.TermTidy", spec := "termTidy", unfollowed := true, recurses := true, loops := true, apart := false, narrowed := true }
def TermTidyUptoSaid : Prop := termTidyUptoRow.holds Try.pinned (OpenSpec.upto termTidySpec)

/-- 'queristlaw.TermTurns', WHERE WHAT IT READS IS OF BULK AT MOST 1048576: true; the input reads as it did. -/
def termTurnsUptoRow : OpenClaim := { program := "ytlpmfkpefoegeaa", sum := "5aae20144833b619303ef1e32a3b5bc9a6ce3c73e6ff108c03fb44922319eef5", func := "querist/queristlaw.TermTurns", spec := "termTurns", unfollowed := true, recurses := true, loops := true, apart := false, narrowed := true }
def TermTurnsUptoSaid : Prop := termTurnsUptoRow.holds Try.pinned (OpenSpec.upto termTurnsSpec)

/-- 'queristlaw.HeapLoads', WHERE WHAT IT READS IS OF BULK AT MOST 1048576: true; the input reads as it did. -/
def heapLoadsUptoRow : OpenClaim := { program := "ytlpmfkpefoegeaa", sum := "5aae20144833b619303ef1e32a3b5bc9a6ce3c73e6ff108c03fb44922319eef5", func := "querist/queristlaw.HeapLoads", spec := "heapLoads", recurses := true, apart := false, narrowed := true }
def HeapLoadsUptoSaid : Prop := heapLoadsUptoRow.holds Try.pinned (OpenSpec.upto heapLoadsSpec)

/-- 'queristlaw.HeapUnifies', WHERE WHAT IT READS IS OF BULK AT MOST 1048576: true; the input reads as it did. -/
def heapUnifiesUptoRow : OpenClaim := { program := "ytlpmfkpefoegeaa", sum := "5aae20144833b619303ef1e32a3b5bc9a6ce3c73e6ff108c03fb44922319eef5", func := "querist/queristlaw.HeapUnifies", spec := "heapUnifies", unfollowed := true, recurses := true, apart := false, narrowed := true }
def HeapUnifiesUptoSaid : Prop := heapUnifiesUptoRow.holds Try.pinned (OpenSpec.upto heapUnifiesSpec)

/-- 'queristkeep.HeapAgain', WHERE WHAT IT READS IS OF BULK AT MOST 1048576: true; the input reads as it did. -/
def heapAgainUptoRow : OpenClaim := { program := "ytlpmfkpefoegeaa", sum := "5aae20144833b619303ef1e32a3b5bc9a6ce3c73e6ff108c03fb44922319eef5", func := "querist/queristkeep.HeapAgain", spec := "heapAgain", recurses := true, apart := false, narrowed := true }
def HeapAgainUptoSaid : Prop := heapAgainUptoRow.holds Try.pinned (OpenSpec.upto heapAgainSpec)

/-- 'queristlaw.HeapBacks', WHERE WHAT IT READS IS OF BULK AT MOST 1048576: true; the input reads as it did. -/
def heapBacksUptoRow : OpenClaim := { program := "ytlpmfkpefoegeaa", sum := "5aae20144833b619303ef1e32a3b5bc9a6ce3c73e6ff108c03fb44922319eef5", func := "querist/queristlaw.HeapBacks", spec := "heapBacks", recurses := true, apart := false, narrowed := true }
def HeapBacksUptoSaid : Prop := heapBacksUptoRow.holds Try.pinned (OpenSpec.upto heapBacksSpec)

/-- 'queristlaw.HeapTerms', WHERE WHAT IT READS IS OF BULK AT MOST 1048576: true; the input reads as it did. -/
def heapTermsUptoRow : OpenClaim := { program := "ytlpmfkpefoegeaa", sum := "5aae20144833b619303ef1e32a3b5bc9a6ce3c73e6ff108c03fb44922319eef5", func := "querist/queristlaw.HeapTerms", spec := "heapTerms", recurses := true, apart := false, narrowed := true }
def HeapTermsUptoSaid : Prop := heapTermsUptoRow.holds Try.pinned (OpenSpec.upto heapTermsSpec)

/-- 'queristkeep.HeapOne', WHERE WHAT IT READS IS OF BULK AT MOST 1048576: true; the input reads as it did. -/
def heapOneUptoRow : OpenClaim := { program := "ytlpmfkpefoegeaa", sum := "5aae20144833b619303ef1e32a3b5bc9a6ce3c73e6ff108c03fb44922319eef5", func := "querist/queristkeep.HeapOne", spec := "heapOne", recurses := true, apart := false, narrowed := true }
def HeapOneUptoSaid : Prop := heapOneUptoRow.holds Try.pinned (OpenSpec.upto heapOneSpec)

/-- 'queristlaw.HeapCollects', WHERE WHAT IT READS IS OF BULK AT MOST 1048576: true; the input reads as it did. -/
def heapCollectsUptoRow : OpenClaim := { program := "ytlpmfkpefoegeaa", sum := "5aae20144833b619303ef1e32a3b5bc9a6ce3c73e6ff108c03fb44922319eef5", func := "querist/queristlaw.HeapCollects", spec := "heapCollects", unfollowed := true, recurses := true, apart := false, narrowed := true }
def HeapCollectsUptoSaid : Prop := heapCollectsUptoRow.holds Try.pinned (OpenSpec.upto heapCollectsSpec)

/-- 'queristkeep.HeapSmall', WHERE WHAT IT READS IS OF BULK AT MOST 1048576: true; the input reads as it did. -/
def heapSmallUptoRow : OpenClaim := { program := "ytlpmfkpefoegeaa", sum := "5aae20144833b619303ef1e32a3b5bc9a6ce3c73e6ff108c03fb44922319eef5", func := "querist/queristkeep.HeapSmall", spec := "heapSmall", recurses := true, apart := false, narrowed := true }
def HeapSmallUptoSaid : Prop := heapSmallUptoRow.holds Try.pinned (OpenSpec.upto heapSmallSpec)

end Rows
end Go.Proofs.Ytlpmfkpefoegeaa
