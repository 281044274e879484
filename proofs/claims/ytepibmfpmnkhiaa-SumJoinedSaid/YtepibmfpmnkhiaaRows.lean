/-
  No cell of these rows narrows 'for every input' (looked for: loops, veiled, ifaces, maps, wideKeys, modest, calm, conditions, laid).
  DERIVED. THE GIVEN ROWS OF THIS SEAT. 12 by the template 'for every input the law returns true; each argument reads behind the call as it read before'; 0 by the template 'total and deterministic' (their statements: YtepibmfpmnkhiaaTotals.lean).
  GIVEN WITH THE SEED: the statements are not yours to turn. If you find one false, say at which input.
  Laid BY PROGRAM, IN A SANDBOX (cutbox-rows.mjs): the forced cells as the released guide's own fill.sh prints them over the translation c59fccae5ec36c31… (all of the seat's roots in one cut). By AI agents, Wed Nov 11 2026. No macro, syntax, notation, axiom, sorry.
-/
import Derived.Test.YtepibmfpmnkhiaaChecked
import GoSem.Claim
import GoSem.ClaimJoined
import GoSem.ClaimMapViews
import Derived.JoinedTies
import Derived.KernelRfl
namespace Go.Proofs.Ytepibmfpmnkhiaa
/- THE CELL 'sum', in the pinned program and in every row, IS THE sha256 OF THE DUMP (.gsa) THAT YtepibmfpmnkhiaaProg.lean LOADS. Nothing in Lean hashes anything: it is a label: what it is worth is what the hold of that sum in a sandbox is worth. -/
noncomputable def Try.pinned : Pinned := { name := "ytepibmfpmnkhiaa", sum := "c59fccae5ec36c314552262fb9f7d41cd0d18bc8873476a7ac1ccafba341eed1", checked := Try.checked }
namespace Rows
def none {H : Type} : Left H := { results := [], args := [] }

/-- 'linenlaw.Names': WHATEVER THE INPUT: true; the input reads as it did. -/
def namesSpec : ChangeSpec := { name := "names", fn := fun _ => fun
  | [] => { results := [.lit (.bool true)], args := [] }
  | _ => none }
def namesRow : OpenClaim := { program := "ytepibmfpmnkhiaa", sum := "c59fccae5ec36c314552262fb9f7d41cd0d18bc8873476a7ac1ccafba341eed1", func := "linenpress/linenlaw.Names", spec := "names", apart := false }
def NamesSaid : Prop := namesRow.holds Try.pinned (OpenSpec.ofChange namesSpec)

/-- ITS FALSE NEIGHBOUR: 'it returns false'. Refute it at one input. -/
def namesWrong : ChangeSpec := { name := "names", fn := fun _ => fun
  | [] => { results := [.lit (.bool false)], args := [] }
  | _ => none }
def NamesWrongFalsely : Prop := namesRow.holds Try.pinned (OpenSpec.ofChange namesWrong)

/-- 'linenlaw.NumZigs': WHATEVER THE INPUT: true; the input reads as it did. -/
def numZigsSpec : ChangeSpec := { name := "numZigs", fn := fun _ => fun
  | [d1, d2] => { results := [.lit (.bool true)], args := [d1, d2] }
  | _ => none }
def numZigsRow : OpenClaim := { program := "ytepibmfpmnkhiaa", sum := "c59fccae5ec36c314552262fb9f7d41cd0d18bc8873476a7ac1ccafba341eed1", func := "linenpress/linenlaw.NumZigs", spec := "numZigs", apart := false }
def NumZigsSaid : Prop := numZigsRow.holds Try.pinned (OpenSpec.ofChange numZigsSpec)

/-- ITS FALSE NEIGHBOUR: 'it returns false'. Refute it at one input. -/
def numZigsWrong : ChangeSpec := { name := "numZigs", fn := fun _ => fun
  | [d1, d2] => { results := [.lit (.bool false)], args := [d1, d2] }
  | _ => none }
def NumZigsWrongFalsely : Prop := numZigsRow.holds Try.pinned (OpenSpec.ofChange numZigsWrong)

/-- 'linenlaw.BitsFlips': WHATEVER THE INPUT: true; the input reads as it did. -/
def bitsFlipsSpec : ChangeSpec := { name := "bitsFlips", fn := fun _ => fun
  | [d1, d2] => { results := [.lit (.bool true)], args := [d1, d2] }
  | _ => none }
def bitsFlipsRow : OpenClaim := { program := "ytepibmfpmnkhiaa", sum := "c59fccae5ec36c314552262fb9f7d41cd0d18bc8873476a7ac1ccafba341eed1", func := "linenpress/linenlaw.BitsFlips", spec := "bitsFlips", apart := false }
def BitsFlipsSaid : Prop := bitsFlipsRow.holds Try.pinned (OpenSpec.ofChange bitsFlipsSpec)

/-- ITS FALSE NEIGHBOUR: 'it returns false'. Refute it at one input. -/
def bitsFlipsWrong : ChangeSpec := { name := "bitsFlips", fn := fun _ => fun
  | [d1, d2] => { results := [.lit (.bool false)], args := [d1, d2] }
  | _ => none }
def BitsFlipsWrongFalsely : Prop := bitsFlipsRow.holds Try.pinned (OpenSpec.ofChange bitsFlipsWrong)

/-- 'linenlaw.LensFills': WHATEVER THE INPUT: true; the input reads as it did. -/
def lensFillsSpec : ChangeSpec := { name := "lensFills", fn := fun _ => fun
  | [d] => { results := [.lit (.bool true)], args := [d] }
  | _ => none }
def lensFillsRow : OpenClaim := { program := "ytepibmfpmnkhiaa", sum := "c59fccae5ec36c314552262fb9f7d41cd0d18bc8873476a7ac1ccafba341eed1", func := "linenpress/linenlaw.LensFills", spec := "lensFills", apart := false }
def LensFillsSaid : Prop := lensFillsRow.holds Try.pinned (OpenSpec.ofChange lensFillsSpec)

/-- ITS FALSE NEIGHBOUR: 'it returns false'. Refute it at one input. -/
def lensFillsWrong : ChangeSpec := { name := "lensFills", fn := fun _ => fun
  | [d] => { results := [.lit (.bool false)], args := [d] }
  | _ => none }
def LensFillsWrongFalsely : Prop := lensFillsRow.holds Try.pinned (OpenSpec.ofChange lensFillsWrong)

/-- 'linenlaw.GlobQuotes': WHATEVER THE INPUT: true; the input reads as it did. -/
def globQuotesSpec : ChangeSpec := { name := "globQuotes", fn := fun _ => fun
  | [d] => { results := [.lit (.bool true)], args := [d] }
  | _ => none }
def globQuotesRow : OpenClaim := { program := "ytepibmfpmnkhiaa", sum := "c59fccae5ec36c314552262fb9f7d41cd0d18bc8873476a7ac1ccafba341eed1", func := "linenpress/linenlaw.GlobQuotes", spec := "globQuotes", inPlace := ["internal/bytealg.IndexByteString"], apart := false }
def GlobQuotesSaid : Prop := globQuotesRow.holds Try.pinned (OpenSpec.ofChange globQuotesSpec)

/-- ITS FALSE NEIGHBOUR: 'it returns false'. Refute it at one input. -/
def globQuotesWrong : ChangeSpec := { name := "globQuotes", fn := fun _ => fun
  | [d] => { results := [.lit (.bool false)], args := [d] }
  | _ => none }
def GlobQuotesWrongFalsely : Prop := globQuotesRow.holds Try.pinned (OpenSpec.ofChange globQuotesWrong)

/-- 'linenlaw.NumFixes': WHATEVER THE INPUT: true; the input reads as it did. -/
def numFixesSpec : ChangeSpec := { name := "numFixes", fn := fun _ => fun
  | [d1, d2, d3] => { results := [.lit (.bool true)], args := [d1, d2, d3] }
  | _ => none }
def numFixesRow : OpenClaim := { program := "ytepibmfpmnkhiaa", sum := "c59fccae5ec36c314552262fb9f7d41cd0d18bc8873476a7ac1ccafba341eed1", func := "linenpress/linenlaw.NumFixes", spec := "numFixes", apart := false }
def NumFixesSaid : Prop := numFixesRow.holds Try.pinned (OpenSpec.ofChange numFixesSpec)

/-- ITS FALSE NEIGHBOUR: 'it returns false'. Refute it at one input. -/
def numFixesWrong : ChangeSpec := { name := "numFixes", fn := fun _ => fun
  | [d1, d2, d3] => { results := [.lit (.bool false)], args := [d1, d2, d3] }
  | _ => none }
def NumFixesWrongFalsely : Prop := numFixesRow.holds Try.pinned (OpenSpec.ofChange numFixesWrong)

/-- 'linenlaw.NumPuts': WHATEVER THE INPUT: true; the input reads as it did. -/
def numPutsSpec : ChangeSpec := { name := "numPuts", fn := fun _ => fun
  | [d1, d2] => { results := [.lit (.bool true)], args := [d1, d2] }
  | _ => none }
def numPutsRow : OpenClaim := { program := "ytepibmfpmnkhiaa", sum := "c59fccae5ec36c314552262fb9f7d41cd0d18bc8873476a7ac1ccafba341eed1", func := "linenpress/linenlaw.NumPuts", spec := "numPuts", recurses := true, apart := false }
def NumPutsSaid : Prop := numPutsRow.holds Try.pinned (OpenSpec.ofChange numPutsSpec)

/-- ITS FALSE NEIGHBOUR: 'it returns false'. Refute it at one input. -/
def numPutsWrong : ChangeSpec := { name := "numPuts", fn := fun _ => fun
  | [d1, d2] => { results := [.lit (.bool false)], args := [d1, d2] }
  | _ => none }
def NumPutsWrongFalsely : Prop := numPutsRow.holds Try.pinned (OpenSpec.ofChange numPutsWrong)

/-- 'linenlaw.RunsWrites': WHATEVER THE INPUT: true; the input reads as it did. -/
def runsWritesSpec : ChangeSpec := { name := "runsWrites", fn := fun _ => fun
  | [d] => { results := [.lit (.bool true)], args := [d] }
  | _ => none }
def runsWritesRow : OpenClaim := { program := "ytepibmfpmnkhiaa", sum := "c59fccae5ec36c314552262fb9f7d41cd0d18bc8873476a7ac1ccafba341eed1", func := "linenpress/linenlaw.RunsWrites", spec := "runsWrites", recurses := true, apart := false }
def RunsWritesSaid : Prop := runsWritesRow.holds Try.pinned (OpenSpec.ofChange runsWritesSpec)

/-- ITS FALSE NEIGHBOUR: 'it returns false'. Refute it at one input. -/
def runsWritesWrong : ChangeSpec := { name := "runsWrites", fn := fun _ => fun
  | [d] => { results := [.lit (.bool false)], args := [d] }
  | _ => none }
def RunsWritesWrongFalsely : Prop := runsWritesRow.holds Try.pinned (OpenSpec.ofChange runsWritesWrong)

/-- 'linenlaw.LzExpands': WHATEVER THE INPUT: true; the input reads as it did. -/
def lzExpandsSpec : ChangeSpec := { name := "lzExpands", fn := fun _ => fun
  | [d1, d2] => { results := [.lit (.bool true)], args := [d1, d2] }
  | _ => none }
def lzExpandsRow : OpenClaim := { program := "ytepibmfpmnkhiaa", sum := "c59fccae5ec36c314552262fb9f7d41cd0d18bc8873476a7ac1ccafba341eed1", func := "linenpress/linenlaw.LzExpands", spec := "lzExpands", apart := false }
def LzExpandsSaid : Prop := lzExpandsRow.holds Try.pinned (OpenSpec.ofChange lzExpandsSpec)

/-- ITS FALSE NEIGHBOUR: 'it returns false'. Refute it at one input. -/
def lzExpandsWrong : ChangeSpec := { name := "lzExpands", fn := fun _ => fun
  | [d1, d2] => { results := [.lit (.bool false)], args := [d1, d2] }
  | _ => none }
def LzExpandsWrongFalsely : Prop := lzExpandsRow.holds Try.pinned (OpenSpec.ofChange lzExpandsWrong)

/-- 'linenlaw.SumSays': WHATEVER THE INPUT: true; the input reads as it did. -/
def sumSaysSpec : ChangeSpec := { name := "sumSays", fn := fun _ => fun
  | [d1, d2] => { results := [.lit (.bool true)], args := [d1, d2] }
  | _ => none }
def sumSaysRow : OpenClaim := { program := "ytepibmfpmnkhiaa", sum := "c59fccae5ec36c314552262fb9f7d41cd0d18bc8873476a7ac1ccafba341eed1", func := "linenpress/linenlaw.SumSays", spec := "sumSays", apart := false }
def SumSaysSaid : Prop := sumSaysRow.holds Try.pinned (OpenSpec.ofChange sumSaysSpec)

/-- ITS FALSE NEIGHBOUR: 'it returns false'. Refute it at one input. -/
def sumSaysWrong : ChangeSpec := { name := "sumSays", fn := fun _ => fun
  | [d1, d2] => { results := [.lit (.bool false)], args := [d1, d2] }
  | _ => none }
def SumSaysWrongFalsely : Prop := sumSaysRow.holds Try.pinned (OpenSpec.ofChange sumSaysWrong)

/-- 'linenlaw.SumJoined': WHATEVER THE INPUT: true; the input reads as it did. -/
def sumJoinedSpec : ChangeSpec := { name := "sumJoined", fn := fun _ => fun
  | [d1, d2, d3] => { results := [.lit (.bool true)], args := [d1, d2, d3] }
  | _ => none }
def sumJoinedRow : OpenClaim := { program := "ytepibmfpmnkhiaa", sum := "c59fccae5ec36c314552262fb9f7d41cd0d18bc8873476a7ac1ccafba341eed1", func := "linenpress/linenlaw.SumJoined", spec := "sumJoined", apart := false }
def SumJoinedSaid : Prop := sumJoinedRow.holds Try.pinned (OpenSpec.ofChange sumJoinedSpec)

/-- ITS FALSE NEIGHBOUR: 'it returns false'. Refute it at one input. -/
def sumJoinedWrong : ChangeSpec := { name := "sumJoined", fn := fun _ => fun
  | [d1, d2, d3] => { results := [.lit (.bool false)], args := [d1, d2, d3] }
  | _ => none }
def SumJoinedWrongFalsely : Prop := sumJoinedRow.holds Try.pinned (OpenSpec.ofChange sumJoinedWrong)

/-- 'linenlaw.BitsPacks': WHATEVER THE INPUT: true; the input reads as it did. -/
def bitsPacksSpec : ChangeSpec := { name := "bitsPacks", fn := fun _ => fun
  | [d] => { results := [.lit (.bool true)], args := [d] }
  | _ => none }
def bitsPacksRow : OpenClaim := { program := "ytepibmfpmnkhiaa", sum := "c59fccae5ec36c314552262fb9f7d41cd0d18bc8873476a7ac1ccafba341eed1", func := "linenpress/linenlaw.BitsPacks", spec := "bitsPacks", recurses := true, apart := false }
def BitsPacksSaid : Prop := bitsPacksRow.holds Try.pinned (OpenSpec.ofChange bitsPacksSpec)

/-- ITS FALSE NEIGHBOUR: 'it returns false'. Refute it at one input. -/
def bitsPacksWrong : ChangeSpec := { name := "bitsPacks", fn := fun _ => fun
  | [d] => { results := [.lit (.bool false)], args := [d] }
  | _ => none }
def BitsPacksWrongFalsely : Prop := bitsPacksRow.holds Try.pinned (OpenSpec.ofChange bitsPacksWrong)

/- THE SECOND FORM. 'bulk': how many values and letters a reading holds, each counted each time it is reached (what is shared counts as often as it is met; a slice's spare places count too). A statement '..UptoSaid' is the law's where the arguments, and the package variables that the reading takes, are together of bulk at most 1048576: NARROWER than '..Said'. Prove '..Said' where nothing that the law and all that it calls make is longer than what came in: it says more and counts as full. Else prove '..UptoSaid'. A law counts once. -/
mutual
def uptoBulk {H : Type} : DataW H → Nat
  | .lit (.string bytes) => bytes.length + 1
  | .lit _ => 1
  | .nil => 1
  | .ptr d => uptoBulk d + 1
  | .slice elems spare => uptoBulkAll elems + uptoBulkAll spare + 1
  | .agg parts => uptoBulkAll parts + 1
  | .iface _ d => uptoBulk d + 1
  | .map entries => uptoBulkEntries entries + 1
  | .held _ => 1
def uptoBulkAll {H : Type} : List (DataW H) → Nat
  | [] => 0
  | d :: r => uptoBulk d + uptoBulkAll r
def uptoBulkEntries {H : Type} : List (Lit × DataW H) → Nat
  | [] => 0
  | x :: r => uptoBulkEntry x + uptoBulkEntries r
def uptoBulkEntry {H : Type} : Lit × DataW H → Nat
  | (.string bytes, d) => bytes.length + uptoBulk d + 1
  | (_, d) => uptoBulk d + 1
 end
def uptoSmall : (H : Type) → List (DataW H) → Bool := fun _ ds => decide (uptoBulkAll ds ≤ 1048576)
def OpenSpec.upto (s : _root_.Go.ChangeSpec) : _root_.Go.OpenSpec := { _root_.Go.OpenSpec.ofChange s with cond := some uptoSmall }

/-- 'linenlaw.Names', WHERE WHAT IT READS IS OF BULK AT MOST 1048576: true; the input reads as it did. -/
def namesUptoRow : OpenClaim := { program := "ytepibmfpmnkhiaa", sum := "c59fccae5ec36c314552262fb9f7d41cd0d18bc8873476a7ac1ccafba341eed1", func := "linenpress/linenlaw.Names", spec := "names", apart := false, narrowed := true }
def NamesUptoSaid : Prop := namesUptoRow.holds Try.pinned (OpenSpec.upto namesSpec)

/-- 'linenlaw.NumZigs', WHERE WHAT IT READS IS OF BULK AT MOST 1048576: true; the input reads as it did. -/
def numZigsUptoRow : OpenClaim := { program := "ytepibmfpmnkhiaa", sum := "c59fccae5ec36c314552262fb9f7d41cd0d18bc8873476a7ac1ccafba341eed1", func := "linenpress/linenlaw.NumZigs", spec := "numZigs", apart := false, narrowed := true }
def NumZigsUptoSaid : Prop := numZigsUptoRow.holds Try.pinned (OpenSpec.upto numZigsSpec)

/-- 'linenlaw.BitsFlips', WHERE WHAT IT READS IS OF BULK AT MOST 1048576: true; the input reads as it did. -/
def bitsFlipsUptoRow : OpenClaim := { program := "ytepibmfpmnkhiaa", sum := "c59fccae5ec36c314552262fb9f7d41cd0d18bc8873476a7ac1ccafba341eed1", func := "linenpress/linenlaw.BitsFlips", spec := "bitsFlips", apart := false, narrowed := true }
def BitsFlipsUptoSaid : Prop := bitsFlipsUptoRow.holds Try.pinned (OpenSpec.upto bitsFlipsSpec)

/-- 'linenlaw.LensFills', WHERE WHAT IT READS IS OF BULK AT MOST 1048576: true; the input reads as it did. -/
def lensFillsUptoRow : OpenClaim := { program := "ytepibmfpmnkhiaa", sum := "c59fccae5ec36c314552262fb9f7d41cd0d18bc8873476a7ac1ccafba341eed1", func := "linenpress/linenlaw.LensFills", spec := "lensFills", apart := false, narrowed := true }
def LensFillsUptoSaid : Prop := lensFillsUptoRow.holds Try.pinned (OpenSpec.upto lensFillsSpec)

/-- 'linenlaw.GlobQuotes', WHERE WHAT IT READS IS OF BULK AT MOST 1048576: true; the input reads as it did. -/
def globQuotesUptoRow : OpenClaim := { program := "ytepibmfpmnkhiaa", sum := "c59fccae5ec36c314552262fb9f7d41cd0d18bc8873476a7ac1ccafba341eed1", func := "linenpress/linenlaw.GlobQuotes", spec := "globQuotes", inPlace := ["internal/bytealg.IndexByteString"], apart := false, narrowed := true }
def GlobQuotesUptoSaid : Prop := globQuotesUptoRow.holds Try.pinned (OpenSpec.upto globQuotesSpec)

/-- 'linenlaw.NumFixes', WHERE WHAT IT READS IS OF BULK AT MOST 1048576: true; the input reads as it did. -/
def numFixesUptoRow : OpenClaim := { program := "ytepibmfpmnkhiaa", sum := "c59fccae5ec36c314552262fb9f7d41cd0d18bc8873476a7ac1ccafba341eed1", func := "linenpress/linenlaw.NumFixes", spec := "numFixes", apart := false, narrowed := true }
def NumFixesUptoSaid : Prop := numFixesUptoRow.holds Try.pinned (OpenSpec.upto numFixesSpec)

/-- 'linenlaw.NumPuts', WHERE WHAT IT READS IS OF BULK AT MOST 1048576: true; the input reads as it did. -/
def numPutsUptoRow : OpenClaim := { program := "ytepibmfpmnkhiaa", sum := "c59fccae5ec36c314552262fb9f7d41cd0d18bc8873476a7ac1ccafba341eed1", func := "linenpress/linenlaw.NumPuts", spec := "numPuts", recurses := true, apart := false, narrowed := true }
def NumPutsUptoSaid : Prop := numPutsUptoRow.holds Try.pinned (OpenSpec.upto numPutsSpec)

/-- 'linenlaw.RunsWrites', WHERE WHAT IT READS IS OF BULK AT MOST 1048576: true; the input reads as it did. -/
def runsWritesUptoRow : OpenClaim := { program := "ytepibmfpmnkhiaa", sum := "c59fccae5ec36c314552262fb9f7d41cd0d18bc8873476a7ac1ccafba341eed1", func := "linenpress/linenlaw.RunsWrites", spec := "runsWrites", recurses := true, apart := false, narrowed := true }
def RunsWritesUptoSaid : Prop := runsWritesUptoRow.holds Try.pinned (OpenSpec.upto runsWritesSpec)

/-- 'linenlaw.LzExpands', WHERE WHAT IT READS IS OF BULK AT MOST 1048576: true; the input reads as it did. -/
def lzExpandsUptoRow : OpenClaim := { program := "ytepibmfpmnkhiaa", sum := "c59fccae5ec36c314552262fb9f7d41cd0d18bc8873476a7ac1ccafba341eed1", func := "linenpress/linenlaw.LzExpands", spec := "lzExpands", apart := false, narrowed := true }
def LzExpandsUptoSaid : Prop := lzExpandsUptoRow.holds Try.pinned (OpenSpec.upto lzExpandsSpec)

/-- 'linenlaw.SumSays', WHERE WHAT IT READS IS OF BULK AT MOST 1048576: true; the input reads as it did. -/
def sumSaysUptoRow : OpenClaim := { program := "ytepibmfpmnkhiaa", sum := "c59fccae5ec36c314552262fb9f7d41cd0d18bc8873476a7ac1ccafba341eed1", func := "linenpress/linenlaw.SumSays", spec := "sumSays", apart := false, narrowed := true }
def SumSaysUptoSaid : Prop := sumSaysUptoRow.holds Try.pinned (OpenSpec.upto sumSaysSpec)

/-- 'linenlaw.SumJoined', WHERE WHAT IT READS IS OF BULK AT MOST 1048576: true; the input reads as it did. -/
def sumJoinedUptoRow : OpenClaim := { program := "ytepibmfpmnkhiaa", sum := "c59fccae5ec36c314552262fb9f7d41cd0d18bc8873476a7ac1ccafba341eed1", func := "linenpress/linenlaw.SumJoined", spec := "sumJoined", apart := false, narrowed := true }
def SumJoinedUptoSaid : Prop := sumJoinedUptoRow.holds Try.pinned (OpenSpec.upto sumJoinedSpec)

/-- 'linenlaw.BitsPacks', WHERE WHAT IT READS IS OF BULK AT MOST 1048576: true; the input reads as it did. -/
def bitsPacksUptoRow : OpenClaim := { program := "ytepibmfpmnkhiaa", sum := "c59fccae5ec36c314552262fb9f7d41cd0d18bc8873476a7ac1ccafba341eed1", func := "linenpress/linenlaw.BitsPacks", spec := "bitsPacks", recurses := true, apart := false, narrowed := true }
def BitsPacksUptoSaid : Prop := bitsPacksUptoRow.holds Try.pinned (OpenSpec.upto bitsPacksSpec)

end Rows
end Go.Proofs.Ytepibmfpmnkhiaa
