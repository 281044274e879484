/-
  No cell of these rows narrows 'for every input' (looked for: loops, veiled, ifaces, maps, wideKeys, modest, calm, conditions, laid).
  DERIVED. THE GIVEN ROWS OF THIS SEAT. 12 by the template 'for every input the law returns true; each argument reads behind the call as it read before'; 0 by the template 'total and deterministic' (their statements: YtjmgocfoimhmjaaTotals.lean).
  GIVEN WITH THE SEED: the statements are not yours to turn. If you find one false, say at which input.
  Laid BY PROGRAM, IN A SANDBOX (cutbox-rows.mjs): the forced cells as the released guide's own fill.sh prints them over the translation bcc3a12cfdf39c8f… (all of the seat's roots in one cut). By AI agents, Wed Nov 11 2026. No macro, syntax, notation, axiom, sorry.
-/
import Derived.Test.YtjmgocfoimhmjaaChecked
import GoSem.Claim
import GoSem.ClaimJoined
import GoSem.ClaimMapViews
import Derived.JoinedTies
import Derived.KernelRfl
namespace Go.Proofs.Ytjmgocfoimhmjaa
/- THE CELL 'sum', in the pinned program and in every row, IS THE sha256 OF THE DUMP (.gsa) THAT YtjmgocfoimhmjaaProg.lean LOADS. Nothing in Lean hashes anything: it is a label: what it is worth is what the hold of that sum in a sandbox is worth. -/
noncomputable def Try.pinned : Pinned := { name := "ytjmgocfoimhmjaa", sum := "bcc3a12cfdf39c8f2c7cc14565a0c9d9bc9b13c7f8991074ef6c19f9730e6333", checked := Try.checked }
namespace Rows
def none {H : Type} : Left H := { results := [], args := [] }

/-- 'linenlaw.ImapSets': WHATEVER THE INPUT: true; the input reads as it did. -/
def imapSetsSpec : ChangeSpec := { name := "imapSets", fn := fun _ => fun
  | [d1, d2, d3] => { results := [.lit (.bool true)], args := [d1, d2, d3] }
  | _ => none }
def imapSetsRow : OpenClaim := { program := "ytjmgocfoimhmjaa", sum := "bcc3a12cfdf39c8f2c7cc14565a0c9d9bc9b13c7f8991074ef6c19f9730e6333", func := "linenpress/linenlaw.ImapSets", spec := "imapSets", apart := false }
def ImapSetsSaid : Prop := imapSetsRow.holds Try.pinned (OpenSpec.ofChange imapSetsSpec)

/-- ITS FALSE NEIGHBOUR: 'it returns false'. Refute it at one input. -/
def imapSetsWrong : ChangeSpec := { name := "imapSets", fn := fun _ => fun
  | [d1, d2, d3] => { results := [.lit (.bool false)], args := [d1, d2, d3] }
  | _ => none }
def ImapSetsWrongFalsely : Prop := imapSetsRow.holds Try.pinned (OpenSpec.ofChange imapSetsWrong)

/-- 'linenlaw.DiskWrites': WHATEVER THE INPUT: true; the input reads as it did. -/
def diskWritesSpec : ChangeSpec := { name := "diskWrites", fn := fun _ => fun
  | [d1, d2, d3] => { results := [.lit (.bool true)], args := [d1, d2, d3] }
  | _ => none }
def diskWritesRow : OpenClaim := { program := "ytjmgocfoimhmjaa", sum := "bcc3a12cfdf39c8f2c7cc14565a0c9d9bc9b13c7f8991074ef6c19f9730e6333", func := "linenpress/linenlaw.DiskWrites", spec := "diskWrites", unfollowed := true, recurses := true, apart := false }
def DiskWritesSaid : Prop := diskWritesRow.holds Try.pinned (OpenSpec.ofChange diskWritesSpec)

/-- ITS FALSE NEIGHBOUR: 'it returns false'. Refute it at one input. -/
def diskWritesWrong : ChangeSpec := { name := "diskWrites", fn := fun _ => fun
  | [d1, d2, d3] => { results := [.lit (.bool false)], args := [d1, d2, d3] }
  | _ => none }
def DiskWritesWrongFalsely : Prop := diskWritesRow.holds Try.pinned (OpenSpec.ofChange diskWritesWrong)

/-- 'linenlaw.OpsPlays': WHATEVER THE INPUT: true; the input reads as it did. -/
def opsPlaysSpec : ChangeSpec := { name := "opsPlays", fn := fun _ => fun
  | [d1, d2, d3, d4] => { results := [.lit (.bool true)], args := [d1, d2, d3, d4] }
  | _ => none }
def opsPlaysRow : OpenClaim := { program := "ytjmgocfoimhmjaa", sum := "bcc3a12cfdf39c8f2c7cc14565a0c9d9bc9b13c7f8991074ef6c19f9730e6333", func := "linenpress/linenlaw.OpsPlays", spec := "opsPlays", unfollowed := true, recurses := true, apart := false }
def OpsPlaysSaid : Prop := opsPlaysRow.holds Try.pinned (OpenSpec.ofChange opsPlaysSpec)

/-- ITS FALSE NEIGHBOUR: 'it returns false'. Refute it at one input. -/
def opsPlaysWrong : ChangeSpec := { name := "opsPlays", fn := fun _ => fun
  | [d1, d2, d3, d4] => { results := [.lit (.bool false)], args := [d1, d2, d3, d4] }
  | _ => none }
def OpsPlaysWrongFalsely : Prop := opsPlaysRow.holds Try.pinned (OpenSpec.ofChange opsPlaysWrong)

/-- 'linenlaw.OpsLeans': WHATEVER THE INPUT: true; the input reads as it did. -/
def opsLeansSpec : ChangeSpec := { name := "opsLeans", fn := fun _ => fun
  | [d] => { results := [.lit (.bool true)], args := [d] }
  | _ => none }
def opsLeansRow : OpenClaim := { program := "ytjmgocfoimhmjaa", sum := "bcc3a12cfdf39c8f2c7cc14565a0c9d9bc9b13c7f8991074ef6c19f9730e6333", func := "linenpress/linenlaw.OpsLeans", spec := "opsLeans", apart := false }
def OpsLeansSaid : Prop := opsLeansRow.holds Try.pinned (OpenSpec.ofChange opsLeansSpec)

/-- ITS FALSE NEIGHBOUR: 'it returns false'. Refute it at one input. -/
def opsLeansWrong : ChangeSpec := { name := "opsLeans", fn := fun _ => fun
  | [d] => { results := [.lit (.bool false)], args := [d] }
  | _ => none }
def OpsLeansWrongFalsely : Prop := opsLeansRow.holds Try.pinned (OpenSpec.ofChange opsLeansWrong)

/-- 'linenlaw.PointReads': WHATEVER THE INPUT: true; the input reads as it did. -/
def pointReadsSpec : ChangeSpec := { name := "pointReads", fn := fun _ => fun
  | [d] => { results := [.lit (.bool true)], args := [d] }
  | _ => none }
def pointReadsRow : OpenClaim := { program := "ytjmgocfoimhmjaa", sum := "bcc3a12cfdf39c8f2c7cc14565a0c9d9bc9b13c7f8991074ef6c19f9730e6333", func := "linenpress/linenlaw.PointReads", spec := "pointReads", apart := false }
def PointReadsSaid : Prop := pointReadsRow.holds Try.pinned (OpenSpec.ofChange pointReadsSpec)

/-- ITS FALSE NEIGHBOUR: 'it returns false'. Refute it at one input. -/
def pointReadsWrong : ChangeSpec := { name := "pointReads", fn := fun _ => fun
  | [d] => { results := [.lit (.bool false)], args := [d] }
  | _ => none }
def PointReadsWrongFalsely : Prop := pointReadsRow.holds Try.pinned (OpenSpec.ofChange pointReadsWrong)

/-- 'linenlaw.PointNewest': WHATEVER THE INPUT: true; the input reads as it did. -/
def pointNewestSpec : ChangeSpec := { name := "pointNewest", fn := fun _ => fun
  | [d] => { results := [.lit (.bool true)], args := [d] }
  | _ => none }
def pointNewestRow : OpenClaim := { program := "ytjmgocfoimhmjaa", sum := "bcc3a12cfdf39c8f2c7cc14565a0c9d9bc9b13c7f8991074ef6c19f9730e6333", func := "linenpress/linenlaw.PointNewest", spec := "pointNewest", unfollowed := true, recurses := true, apart := false }
def PointNewestSaid : Prop := pointNewestRow.holds Try.pinned (OpenSpec.ofChange pointNewestSpec)

/-- ITS FALSE NEIGHBOUR: 'it returns false'. Refute it at one input. -/
def pointNewestWrong : ChangeSpec := { name := "pointNewest", fn := fun _ => fun
  | [d] => { results := [.lit (.bool false)], args := [d] }
  | _ => none }
def PointNewestWrongFalsely : Prop := pointNewestRow.holds Try.pinned (OpenSpec.ofChange pointNewestWrong)

/-- 'linenlaw.UseAts': WHATEVER THE INPUT: true; the input reads as it did. -/
def useAtsSpec : ChangeSpec := { name := "useAts", fn := fun _ => fun
  | [d1, d2] => { results := [.lit (.bool true)], args := [d1, d2] }
  | _ => none }
def useAtsRow : OpenClaim := { program := "ytjmgocfoimhmjaa", sum := "bcc3a12cfdf39c8f2c7cc14565a0c9d9bc9b13c7f8991074ef6c19f9730e6333", func := "linenpress/linenlaw.UseAts", spec := "useAts", unfollowed := true, recurses := true, apart := false }
def UseAtsSaid : Prop := useAtsRow.holds Try.pinned (OpenSpec.ofChange useAtsSpec)

/-- ITS FALSE NEIGHBOUR: 'it returns false'. Refute it at one input. -/
def useAtsWrong : ChangeSpec := { name := "useAts", fn := fun _ => fun
  | [d1, d2] => { results := [.lit (.bool false)], args := [d1, d2] }
  | _ => none }
def UseAtsWrongFalsely : Prop := useAtsRow.holds Try.pinned (OpenSpec.ofChange useAtsWrong)

/-- 'linenlaw.UseCounts': WHATEVER THE INPUT: true; the input reads as it did. -/
def useCountsSpec : ChangeSpec := { name := "useCounts", fn := fun _ => fun
  | [d1, d2] => { results := [.lit (.bool true)], args := [d1, d2] }
  | _ => none }
def useCountsRow : OpenClaim := { program := "ytjmgocfoimhmjaa", sum := "bcc3a12cfdf39c8f2c7cc14565a0c9d9bc9b13c7f8991074ef6c19f9730e6333", func := "linenpress/linenlaw.UseCounts", spec := "useCounts", unfollowed := true, recurses := true, apart := false }
def UseCountsSaid : Prop := useCountsRow.holds Try.pinned (OpenSpec.ofChange useCountsSpec)

/-- ITS FALSE NEIGHBOUR: 'it returns false'. Refute it at one input. -/
def useCountsWrong : ChangeSpec := { name := "useCounts", fn := fun _ => fun
  | [d1, d2] => { results := [.lit (.bool false)], args := [d1, d2] }
  | _ => none }
def UseCountsWrongFalsely : Prop := useCountsRow.holds Try.pinned (OpenSpec.ofChange useCountsWrong)

/-- 'linenlaw.ScanSays': WHATEVER THE INPUT: true; the input reads as it did. -/
def scanSaysSpec : ChangeSpec := { name := "scanSays", fn := fun _ => fun
  | [d1, d2] => { results := [.lit (.bool true)], args := [d1, d2] }
  | _ => none }
def scanSaysRow : OpenClaim := { program := "ytjmgocfoimhmjaa", sum := "bcc3a12cfdf39c8f2c7cc14565a0c9d9bc9b13c7f8991074ef6c19f9730e6333", func := "linenpress/linenlaw.ScanSays", spec := "scanSays", unfollowed := true, recurses := true, apart := false }
def ScanSaysSaid : Prop := scanSaysRow.holds Try.pinned (OpenSpec.ofChange scanSaysSpec)

/-- ITS FALSE NEIGHBOUR: 'it returns false'. Refute it at one input. -/
def scanSaysWrong : ChangeSpec := { name := "scanSays", fn := fun _ => fun
  | [d1, d2] => { results := [.lit (.bool false)], args := [d1, d2] }
  | _ => none }
def ScanSaysWrongFalsely : Prop := scanSaysRow.holds Try.pinned (OpenSpec.ofChange scanSaysWrong)

/-- 'linenlaw.PointWrites': WHATEVER THE INPUT: true; the input reads as it did. -/
def pointWritesSpec : ChangeSpec := { name := "pointWrites", fn := fun _ => fun
  | [d1, d2] => { results := [.lit (.bool true)], args := [d1, d2] }
  | _ => none }
def pointWritesRow : OpenClaim := { program := "ytjmgocfoimhmjaa", sum := "bcc3a12cfdf39c8f2c7cc14565a0c9d9bc9b13c7f8991074ef6c19f9730e6333", func := "linenpress/linenlaw.PointWrites", spec := "pointWrites", recurses := true, apart := false }
def PointWritesSaid : Prop := pointWritesRow.holds Try.pinned (OpenSpec.ofChange pointWritesSpec)

/-- ITS FALSE NEIGHBOUR: 'it returns false'. Refute it at one input. -/
def pointWritesWrong : ChangeSpec := { name := "pointWrites", fn := fun _ => fun
  | [d1, d2] => { results := [.lit (.bool false)], args := [d1, d2] }
  | _ => none }
def PointWritesWrongFalsely : Prop := pointWritesRow.holds Try.pinned (OpenSpec.ofChange pointWritesWrong)

/-- 'linenlaw.SealOpens': WHATEVER THE INPUT: true; the input reads as it did. -/
def sealOpensSpec : ChangeSpec := { name := "sealOpens", fn := fun _ => fun
  | [d] => { results := [.lit (.bool true)], args := [d] }
  | _ => none }
def sealOpensRow : OpenClaim := { program := "ytjmgocfoimhmjaa", sum := "bcc3a12cfdf39c8f2c7cc14565a0c9d9bc9b13c7f8991074ef6c19f9730e6333", func := "linenpress/linenlaw.SealOpens", spec := "sealOpens", apart := false }
def SealOpensSaid : Prop := sealOpensRow.holds Try.pinned (OpenSpec.ofChange sealOpensSpec)

/-- ITS FALSE NEIGHBOUR: 'it returns false'. Refute it at one input. -/
def sealOpensWrong : ChangeSpec := { name := "sealOpens", fn := fun _ => fun
  | [d] => { results := [.lit (.bool false)], args := [d] }
  | _ => none }
def SealOpensWrongFalsely : Prop := sealOpensRow.holds Try.pinned (OpenSpec.ofChange sealOpensWrong)

/-- 'linenlaw.BlobReads': WHATEVER THE INPUT: true; the input reads as it did. -/
def blobReadsSpec : ChangeSpec := { name := "blobReads", fn := fun _ => fun
  | [d] => { results := [.lit (.bool true)], args := [d] }
  | _ => none }
def blobReadsRow : OpenClaim := { program := "ytjmgocfoimhmjaa", sum := "bcc3a12cfdf39c8f2c7cc14565a0c9d9bc9b13c7f8991074ef6c19f9730e6333", func := "linenpress/linenlaw.BlobReads", spec := "blobReads", recurses := true, apart := false }
def BlobReadsSaid : Prop := blobReadsRow.holds Try.pinned (OpenSpec.ofChange blobReadsSpec)

/-- ITS FALSE NEIGHBOUR: 'it returns false'. Refute it at one input. -/
def blobReadsWrong : ChangeSpec := { name := "blobReads", fn := fun _ => fun
  | [d] => { results := [.lit (.bool false)], args := [d] }
  | _ => none }
def BlobReadsWrongFalsely : Prop := blobReadsRow.holds Try.pinned (OpenSpec.ofChange blobReadsWrong)

/- THE SECOND FORM. 'bulk': how many values and letters a reading holds, each counted each time it is reached (what is shared counts as often as it is met; a slice's spare places count too). A statement '..UptoSaid' is the law's where the arguments, and the package variables that the reading takes, are together of bulk at most 1048576: NARROWER than '..Said'. Prove '..Said' where nothing that the law and all that it calls make is longer than what came in: it says more and counts as full. Else prove '..UptoSaid'. A law counts once. -/
mutual
def uptoBulk {H : Type} : DataW H → Nat
  | .lit (.string bytes) => bytes.length + 1
  | .lit _ => 1
  | .nil => 1
  | .ptr d => uptoBulk d + 1
  | .slice elems spare => uptoBulkAll elems + uptoBulkAll spare + 1
  | .agg parts => uptoBulkAll parts + 1
  | .iface _ d => uptoBulk d + 1
  | .map entries => uptoBulkEntries entries + 1
  | .held _ => 1
def uptoBulkAll {H : Type} : List (DataW H) → Nat
  | [] => 0
  | d :: r => uptoBulk d + uptoBulkAll r
def uptoBulkEntries {H : Type} : List (Lit × DataW H) → Nat
  | [] => 0
  | x :: r => uptoBulkEntry x + uptoBulkEntries r
def uptoBulkEntry {H : Type} : Lit × DataW H → Nat
  | (.string bytes, d) => bytes.length + uptoBulk d + 1
  | (_, d) => uptoBulk d + 1
 end
def uptoSmall : (H : Type) → List (DataW H) → Bool := fun _ ds => decide (uptoBulkAll ds ≤ 1048576)
def OpenSpec.upto (s : _root_.Go.ChangeSpec) : _root_.Go.OpenSpec := { _root_.Go.OpenSpec.ofChange s with cond := some uptoSmall }

/-- 'linenlaw.ImapSets', WHERE WHAT IT READS IS OF BULK AT MOST 1048576: true; the input reads as it did. -/
def imapSetsUptoRow : OpenClaim := { program := "ytjmgocfoimhmjaa", sum := "bcc3a12cfdf39c8f2c7cc14565a0c9d9bc9b13c7f8991074ef6c19f9730e6333", func := "linenpress/linenlaw.ImapSets", spec := "imapSets", apart := false, narrowed := true }
def ImapSetsUptoSaid : Prop := imapSetsUptoRow.holds Try.pinned (OpenSpec.upto imapSetsSpec)

/-- 'linenlaw.DiskWrites', WHERE WHAT IT READS IS OF BULK AT MOST 1048576: true; the input reads as it did. -/
def diskWritesUptoRow : OpenClaim := { program := "ytjmgocfoimhmjaa", sum := "bcc3a12cfdf39c8f2c7cc14565a0c9d9bc9b13c7f8991074ef6c19f9730e6333", func := "linenpress/linenlaw.DiskWrites", spec := "diskWrites", unfollowed := true, recurses := true, apart := false, narrowed := true }
def DiskWritesUptoSaid : Prop := diskWritesUptoRow.holds Try.pinned (OpenSpec.upto diskWritesSpec)

/-- 'linenlaw.OpsPlays', WHERE WHAT IT READS IS OF BULK AT MOST 1048576: true; the input reads as it did. -/
def opsPlaysUptoRow : OpenClaim := { program := "ytjmgocfoimhmjaa", sum := "bcc3a12cfdf39c8f2c7cc14565a0c9d9bc9b13c7f8991074ef6c19f9730e6333", func := "linenpress/linenlaw.OpsPlays", spec := "opsPlays", unfollowed := true, recurses := true, apart := false, narrowed := true }
def OpsPlaysUptoSaid : Prop := opsPlaysUptoRow.holds Try.pinned (OpenSpec.upto opsPlaysSpec)

/-- 'linenlaw.OpsLeans', WHERE WHAT IT READS IS OF BULK AT MOST 1048576: true; the input reads as it did. -/
def opsLeansUptoRow : OpenClaim := { program := "ytjmgocfoimhmjaa", sum := "bcc3a12cfdf39c8f2c7cc14565a0c9d9bc9b13c7f8991074ef6c19f9730e6333", func := "linenpress/linenlaw.OpsLeans", spec := "opsLeans", apart := false, narrowed := true }
def OpsLeansUptoSaid : Prop := opsLeansUptoRow.holds Try.pinned (OpenSpec.upto opsLeansSpec)

/-- 'linenlaw.PointReads', WHERE WHAT IT READS IS OF BULK AT MOST 1048576: true; the input reads as it did. -/
def pointReadsUptoRow : OpenClaim := { program := "ytjmgocfoimhmjaa", sum := "bcc3a12cfdf39c8f2c7cc14565a0c9d9bc9b13c7f8991074ef6c19f9730e6333", func := "linenpress/linenlaw.PointReads", spec := "pointReads", apart := false, narrowed := true }
def PointReadsUptoSaid : Prop := pointReadsUptoRow.holds Try.pinned (OpenSpec.upto pointReadsSpec)

/-- 'linenlaw.PointNewest', WHERE WHAT IT READS IS OF BULK AT MOST 1048576: true; the input reads as it did. -/
def pointNewestUptoRow : OpenClaim := { program := "ytjmgocfoimhmjaa", sum := "bcc3a12cfdf39c8f2c7cc14565a0c9d9bc9b13c7f8991074ef6c19f9730e6333", func := "linenpress/linenlaw.PointNewest", spec := "pointNewest", unfollowed := true, recurses := true, apart := false, narrowed := true }
def PointNewestUptoSaid : Prop := pointNewestUptoRow.holds Try.pinned (OpenSpec.upto pointNewestSpec)

/-- 'linenlaw.UseAts', WHERE WHAT IT READS IS OF BULK AT MOST 1048576: true; the input reads as it did. -/
def useAtsUptoRow : OpenClaim := { program := "ytjmgocfoimhmjaa", sum := "bcc3a12cfdf39c8f2c7cc14565a0c9d9bc9b13c7f8991074ef6c19f9730e6333", func := "linenpress/linenlaw.UseAts", spec := "useAts", unfollowed := true, recurses := true, apart := false, narrowed := true }
def UseAtsUptoSaid : Prop := useAtsUptoRow.holds Try.pinned (OpenSpec.upto useAtsSpec)

/-- 'linenlaw.UseCounts', WHERE WHAT IT READS IS OF BULK AT MOST 1048576: true; the input reads as it did. -/
def useCountsUptoRow : OpenClaim := { program := "ytjmgocfoimhmjaa", sum := "bcc3a12cfdf39c8f2c7cc14565a0c9d9bc9b13c7f8991074ef6c19f9730e6333", func := "linenpress/linenlaw.UseCounts", spec := "useCounts", unfollowed := true, recurses := true, apart := false, narrowed := true }
def UseCountsUptoSaid : Prop := useCountsUptoRow.holds Try.pinned (OpenSpec.upto useCountsSpec)

/-- 'linenlaw.ScanSays', WHERE WHAT IT READS IS OF BULK AT MOST 1048576: true; the input reads as it did. -/
def scanSaysUptoRow : OpenClaim := { program := "ytjmgocfoimhmjaa", sum := "bcc3a12cfdf39c8f2c7cc14565a0c9d9bc9b13c7f8991074ef6c19f9730e6333", func := "linenpress/linenlaw.ScanSays", spec := "scanSays", unfollowed := true, recurses := true, apart := false, narrowed := true }
def ScanSaysUptoSaid : Prop := scanSaysUptoRow.holds Try.pinned (OpenSpec.upto scanSaysSpec)

/-- 'linenlaw.PointWrites', WHERE WHAT IT READS IS OF BULK AT MOST 1048576: true; the input reads as it did. -/
def pointWritesUptoRow : OpenClaim := { program := "ytjmgocfoimhmjaa", sum := "bcc3a12cfdf39c8f2c7cc14565a0c9d9bc9b13c7f8991074ef6c19f9730e6333", func := "linenpress/linenlaw.PointWrites", spec := "pointWrites", recurses := true, apart := false, narrowed := true }
def PointWritesUptoSaid : Prop := pointWritesUptoRow.holds Try.pinned (OpenSpec.upto pointWritesSpec)

/-- 'linenlaw.SealOpens', WHERE WHAT IT READS IS OF BULK AT MOST 1048576: true; the input reads as it did. -/
def sealOpensUptoRow : OpenClaim := { program := "ytjmgocfoimhmjaa", sum := "bcc3a12cfdf39c8f2c7cc14565a0c9d9bc9b13c7f8991074ef6c19f9730e6333", func := "linenpress/linenlaw.SealOpens", spec := "sealOpens", apart := false, narrowed := true }
def SealOpensUptoSaid : Prop := sealOpensUptoRow.holds Try.pinned (OpenSpec.upto sealOpensSpec)

/-- 'linenlaw.BlobReads', WHERE WHAT IT READS IS OF BULK AT MOST 1048576: true; the input reads as it did. -/
def blobReadsUptoRow : OpenClaim := { program := "ytjmgocfoimhmjaa", sum := "bcc3a12cfdf39c8f2c7cc14565a0c9d9bc9b13c7f8991074ef6c19f9730e6333", func := "linenpress/linenlaw.BlobReads", spec := "blobReads", recurses := true, apart := false, narrowed := true }
def BlobReadsUptoSaid : Prop := blobReadsUptoRow.holds Try.pinned (OpenSpec.upto blobReadsSpec)

end Rows
end Go.Proofs.Ytjmgocfoimhmjaa
