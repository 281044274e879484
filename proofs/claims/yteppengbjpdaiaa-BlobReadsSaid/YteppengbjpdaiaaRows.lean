/-
  No cell of these rows narrows 'for every input' (looked for: loops, veiled, ifaces, maps, wideKeys, modest, calm, conditions, laid).
  DERIVED. THE GIVEN ROWS OF THIS SEAT. 12 by the template 'for every input the law returns true; each argument reads behind the call as it read before'; 0 by the template 'total and deterministic' (their statements: YteppengbjpdaiaaTotals.lean).
  GIVEN WITH THE SEED: the statements are not yours to turn. If you find one false, say at which input.
  Laid BY PROGRAM, IN A SANDBOX (cutbox-rows.mjs): the forced cells as the released guide's own fill.sh prints them over the translation 614d5f4dabac391f… (all of the seat's roots in one cut). By AI agents, Wed Nov 11 2026. No macro, syntax, notation, axiom, sorry.
-/
import Derived.Test.YteppengbjpdaiaaChecked
import GoSem.Claim
import GoSem.ClaimJoined
import GoSem.ClaimMapViews
import Derived.JoinedTies
import Derived.KernelRfl
namespace Go.Proofs.Yteppengbjpdaiaa
/- THE CELL 'sum', in the pinned program and in every row, IS THE sha256 OF THE DUMP (.gsa) THAT YteppengbjpdaiaaProg.lean LOADS. Nothing in Lean hashes anything: it is a label: what it is worth is what the hold of that sum in a sandbox is worth. -/
noncomputable def Try.pinned : Pinned := { name := "yteppengbjpdaiaa", sum := "614d5f4dabac391f0e7dc40a95855c47fc8abc244246953ea86e34eeff883976", checked := Try.checked }
namespace Rows
def none {H : Type} : Left H := { results := [], args := [] }

/-- 'linenlaw.SealSays': WHATEVER THE INPUT: true; the input reads as it did. -/
def sealSaysSpec : ChangeSpec := { name := "sealSays", fn := fun _ => fun
  | [d1, d2, d3] => { results := [.lit (.bool true)], args := [d1, d2, d3] }
  | _ => none }
def sealSaysRow : OpenClaim := { program := "yteppengbjpdaiaa", sum := "614d5f4dabac391f0e7dc40a95855c47fc8abc244246953ea86e34eeff883976", func := "linenpress/linenlaw.SealSays", spec := "sealSays", apart := false }
def SealSaysSaid : Prop := sealSaysRow.holds Try.pinned (OpenSpec.ofChange sealSaysSpec)

/-- ITS FALSE NEIGHBOUR: 'it returns false'. Refute it at one input. -/
def sealSaysWrong : ChangeSpec := { name := "sealSays", fn := fun _ => fun
  | [d1, d2, d3] => { results := [.lit (.bool false)], args := [d1, d2, d3] }
  | _ => none }
def SealSaysWrongFalsely : Prop := sealSaysRow.holds Try.pinned (OpenSpec.ofChange sealSaysWrong)

/-- 'linenlaw.SealOpens': WHATEVER THE INPUT: true; the input reads as it did. -/
def sealOpensSpec : ChangeSpec := { name := "sealOpens", fn := fun _ => fun
  | [d] => { results := [.lit (.bool true)], args := [d] }
  | _ => none }
def sealOpensRow : OpenClaim := { program := "yteppengbjpdaiaa", sum := "614d5f4dabac391f0e7dc40a95855c47fc8abc244246953ea86e34eeff883976", func := "linenpress/linenlaw.SealOpens", spec := "sealOpens", apart := false }
def SealOpensSaid : Prop := sealOpensRow.holds Try.pinned (OpenSpec.ofChange sealOpensSpec)

/-- ITS FALSE NEIGHBOUR: 'it returns false'. Refute it at one input. -/
def sealOpensWrong : ChangeSpec := { name := "sealOpens", fn := fun _ => fun
  | [d] => { results := [.lit (.bool false)], args := [d] }
  | _ => none }
def SealOpensWrongFalsely : Prop := sealOpensRow.holds Try.pinned (OpenSpec.ofChange sealOpensWrong)

/-- 'linenlaw.BlobWrites': WHATEVER THE INPUT: true; the input reads as it did. -/
def blobWritesSpec : ChangeSpec := { name := "blobWrites", fn := fun _ => fun
  | [d1, d2, d3] => { results := [.lit (.bool true)], args := [d1, d2, d3] }
  | _ => none }
def blobWritesRow : OpenClaim := { program := "yteppengbjpdaiaa", sum := "614d5f4dabac391f0e7dc40a95855c47fc8abc244246953ea86e34eeff883976", func := "linenpress/linenlaw.BlobWrites", spec := "blobWrites", recurses := true, apart := false }
def BlobWritesSaid : Prop := blobWritesRow.holds Try.pinned (OpenSpec.ofChange blobWritesSpec)

/-- ITS FALSE NEIGHBOUR: 'it returns false'. Refute it at one input. -/
def blobWritesWrong : ChangeSpec := { name := "blobWrites", fn := fun _ => fun
  | [d1, d2, d3] => { results := [.lit (.bool false)], args := [d1, d2, d3] }
  | _ => none }
def BlobWritesWrongFalsely : Prop := blobWritesRow.holds Try.pinned (OpenSpec.ofChange blobWritesWrong)

/-- 'linenlaw.BlobReads': WHATEVER THE INPUT: true; the input reads as it did. -/
def blobReadsSpec : ChangeSpec := { name := "blobReads", fn := fun _ => fun
  | [d] => { results := [.lit (.bool true)], args := [d] }
  | _ => none }
def blobReadsRow : OpenClaim := { program := "yteppengbjpdaiaa", sum := "614d5f4dabac391f0e7dc40a95855c47fc8abc244246953ea86e34eeff883976", func := "linenpress/linenlaw.BlobReads", spec := "blobReads", recurses := true, apart := false }
def BlobReadsSaid : Prop := blobReadsRow.holds Try.pinned (OpenSpec.ofChange blobReadsSpec)

/-- ITS FALSE NEIGHBOUR: 'it returns false'. Refute it at one input. -/
def blobReadsWrong : ChangeSpec := { name := "blobReads", fn := fun _ => fun
  | [d] => { results := [.lit (.bool false)], args := [d] }
  | _ => none }
def BlobReadsWrongFalsely : Prop := blobReadsRow.holds Try.pinned (OpenSpec.ofChange blobReadsWrong)

/-- 'linenlaw.BlobSplits': WHATEVER THE INPUT: true; the input reads as it did. -/
def blobSplitsSpec : ChangeSpec := { name := "blobSplits", fn := fun _ => fun
  | [d] => { results := [.lit (.bool true)], args := [d] }
  | _ => none }
def blobSplitsRow : OpenClaim := { program := "yteppengbjpdaiaa", sum := "614d5f4dabac391f0e7dc40a95855c47fc8abc244246953ea86e34eeff883976", func := "linenpress/linenlaw.BlobSplits", spec := "blobSplits", recurses := true, apart := false }
def BlobSplitsSaid : Prop := blobSplitsRow.holds Try.pinned (OpenSpec.ofChange blobSplitsSpec)

/-- ITS FALSE NEIGHBOUR: 'it returns false'. Refute it at one input. -/
def blobSplitsWrong : ChangeSpec := { name := "blobSplits", fn := fun _ => fun
  | [d] => { results := [.lit (.bool false)], args := [d] }
  | _ => none }
def BlobSplitsWrongFalsely : Prop := blobSplitsRow.holds Try.pinned (OpenSpec.ofChange blobSplitsWrong)

/-- 'linenlaw.PointWrites': WHATEVER THE INPUT: true; the input reads as it did. -/
def pointWritesSpec : ChangeSpec := { name := "pointWrites", fn := fun _ => fun
  | [d1, d2] => { results := [.lit (.bool true)], args := [d1, d2] }
  | _ => none }
def pointWritesRow : OpenClaim := { program := "yteppengbjpdaiaa", sum := "614d5f4dabac391f0e7dc40a95855c47fc8abc244246953ea86e34eeff883976", func := "linenpress/linenlaw.PointWrites", spec := "pointWrites", recurses := true, apart := false }
def PointWritesSaid : Prop := pointWritesRow.holds Try.pinned (OpenSpec.ofChange pointWritesSpec)

/-- ITS FALSE NEIGHBOUR: 'it returns false'. Refute it at one input. -/
def pointWritesWrong : ChangeSpec := { name := "pointWrites", fn := fun _ => fun
  | [d1, d2] => { results := [.lit (.bool false)], args := [d1, d2] }
  | _ => none }
def PointWritesWrongFalsely : Prop := pointWritesRow.holds Try.pinned (OpenSpec.ofChange pointWritesWrong)

/-- 'linenlaw.PointReads': WHATEVER THE INPUT: true; the input reads as it did. -/
def pointReadsSpec : ChangeSpec := { name := "pointReads", fn := fun _ => fun
  | [d] => { results := [.lit (.bool true)], args := [d] }
  | _ => none }
def pointReadsRow : OpenClaim := { program := "yteppengbjpdaiaa", sum := "614d5f4dabac391f0e7dc40a95855c47fc8abc244246953ea86e34eeff883976", func := "linenpress/linenlaw.PointReads", spec := "pointReads", apart := false }
def PointReadsSaid : Prop := pointReadsRow.holds Try.pinned (OpenSpec.ofChange pointReadsSpec)

/-- ITS FALSE NEIGHBOUR: 'it returns false'. Refute it at one input. -/
def pointReadsWrong : ChangeSpec := { name := "pointReads", fn := fun _ => fun
  | [d] => { results := [.lit (.bool false)], args := [d] }
  | _ => none }
def PointReadsWrongFalsely : Prop := pointReadsRow.holds Try.pinned (OpenSpec.ofChange pointReadsWrong)

/-- 'linenlaw.PointNewest': WHATEVER THE INPUT: true; the input reads as it did. -/
def pointNewestSpec : ChangeSpec := { name := "pointNewest", fn := fun _ => fun
  | [d] => { results := [.lit (.bool true)], args := [d] }
  | _ => none }
def pointNewestRow : OpenClaim := { program := "yteppengbjpdaiaa", sum := "614d5f4dabac391f0e7dc40a95855c47fc8abc244246953ea86e34eeff883976", func := "linenpress/linenlaw.PointNewest", spec := "pointNewest", unfollowed := true, recurses := true, apart := false }
def PointNewestSaid : Prop := pointNewestRow.holds Try.pinned (OpenSpec.ofChange pointNewestSpec)

/-- ITS FALSE NEIGHBOUR: 'it returns false'. Refute it at one input. -/
def pointNewestWrong : ChangeSpec := { name := "pointNewest", fn := fun _ => fun
  | [d] => { results := [.lit (.bool false)], args := [d] }
  | _ => none }
def PointNewestWrongFalsely : Prop := pointNewestRow.holds Try.pinned (OpenSpec.ofChange pointNewestWrong)

/-- 'linenlaw.ScanSays': WHATEVER THE INPUT: true; the input reads as it did. -/
def scanSaysSpec : ChangeSpec := { name := "scanSays", fn := fun _ => fun
  | [d1, d2] => { results := [.lit (.bool true)], args := [d1, d2] }
  | _ => none }
def scanSaysRow : OpenClaim := { program := "yteppengbjpdaiaa", sum := "614d5f4dabac391f0e7dc40a95855c47fc8abc244246953ea86e34eeff883976", func := "linenpress/linenlaw.ScanSays", spec := "scanSays", unfollowed := true, recurses := true, apart := false }
def ScanSaysSaid : Prop := scanSaysRow.holds Try.pinned (OpenSpec.ofChange scanSaysSpec)

/-- ITS FALSE NEIGHBOUR: 'it returns false'. Refute it at one input. -/
def scanSaysWrong : ChangeSpec := { name := "scanSays", fn := fun _ => fun
  | [d1, d2] => { results := [.lit (.bool false)], args := [d1, d2] }
  | _ => none }
def ScanSaysWrongFalsely : Prop := scanSaysRow.holds Try.pinned (OpenSpec.ofChange scanSaysWrong)

/-- 'linenlaw.UseAts': WHATEVER THE INPUT: true; the input reads as it did. -/
def useAtsSpec : ChangeSpec := { name := "useAts", fn := fun _ => fun
  | [d1, d2] => { results := [.lit (.bool true)], args := [d1, d2] }
  | _ => none }
def useAtsRow : OpenClaim := { program := "yteppengbjpdaiaa", sum := "614d5f4dabac391f0e7dc40a95855c47fc8abc244246953ea86e34eeff883976", func := "linenpress/linenlaw.UseAts", spec := "useAts", unfollowed := true, recurses := true, apart := false }
def UseAtsSaid : Prop := useAtsRow.holds Try.pinned (OpenSpec.ofChange useAtsSpec)

/-- ITS FALSE NEIGHBOUR: 'it returns false'. Refute it at one input. -/
def useAtsWrong : ChangeSpec := { name := "useAts", fn := fun _ => fun
  | [d1, d2] => { results := [.lit (.bool false)], args := [d1, d2] }
  | _ => none }
def UseAtsWrongFalsely : Prop := useAtsRow.holds Try.pinned (OpenSpec.ofChange useAtsWrong)

/-- 'linenlaw.UseCounts': WHATEVER THE INPUT: true; the input reads as it did. -/
def useCountsSpec : ChangeSpec := { name := "useCounts", fn := fun _ => fun
  | [d1, d2] => { results := [.lit (.bool true)], args := [d1, d2] }
  | _ => none }
def useCountsRow : OpenClaim := { program := "yteppengbjpdaiaa", sum := "614d5f4dabac391f0e7dc40a95855c47fc8abc244246953ea86e34eeff883976", func := "linenpress/linenlaw.UseCounts", spec := "useCounts", unfollowed := true, recurses := true, apart := false }
def UseCountsSaid : Prop := useCountsRow.holds Try.pinned (OpenSpec.ofChange useCountsSpec)

/-- ITS FALSE NEIGHBOUR: 'it returns false'. Refute it at one input. -/
def useCountsWrong : ChangeSpec := { name := "useCounts", fn := fun _ => fun
  | [d1, d2] => { results := [.lit (.bool false)], args := [d1, d2] }
  | _ => none }
def UseCountsWrongFalsely : Prop := useCountsRow.holds Try.pinned (OpenSpec.ofChange useCountsWrong)

/-- 'linenlaw.PickSays': WHATEVER THE INPUT: true; the input reads as it did. -/
def pickSaysSpec : ChangeSpec := { name := "pickSays", fn := fun _ => fun
  | [d1, d2] => { results := [.lit (.bool true)], args := [d1, d2] }
  | _ => none }
def pickSaysRow : OpenClaim := { program := "yteppengbjpdaiaa", sum := "614d5f4dabac391f0e7dc40a95855c47fc8abc244246953ea86e34eeff883976", func := "linenpress/linenlaw.PickSays", spec := "pickSays", inPlace := ["slices.overlaps[int]"], unfollowed := true, recurses := true, apart := false }
def PickSaysSaid : Prop := pickSaysRow.holds Try.pinned (OpenSpec.ofChange pickSaysSpec)

/-- ITS FALSE NEIGHBOUR: 'it returns false'. Refute it at one input. -/
def pickSaysWrong : ChangeSpec := { name := "pickSays", fn := fun _ => fun
  | [d1, d2] => { results := [.lit (.bool false)], args := [d1, d2] }
  | _ => none }
def PickSaysWrongFalsely : Prop := pickSaysRow.holds Try.pinned (OpenSpec.ofChange pickSaysWrong)

/- THE SECOND FORM. 'bulk': how many values and letters a reading holds, each counted each time it is reached (what is shared counts as often as it is met; a slice's spare places count too). A statement '..UptoSaid' is the law's where the arguments, and the package variables that the reading takes, are together of bulk at most 1048576: NARROWER than '..Said'. Prove '..Said' where nothing that the law and all that it calls make is longer than what came in: it says more and counts as full. Else prove '..UptoSaid'. A law counts once. -/
mutual
def uptoBulk {H : Type} : DataW H → Nat
  | .lit (.string bytes) => bytes.length + 1
  | .lit _ => 1
  | .nil => 1
  | .ptr d => uptoBulk d + 1
  | .slice elems spare => uptoBulkAll elems + uptoBulkAll spare + 1
  | .agg parts => uptoBulkAll parts + 1
  | .iface _ d => uptoBulk d + 1
  | .map entries => uptoBulkEntries entries + 1
  | .held _ => 1
def uptoBulkAll {H : Type} : List (DataW H) → Nat
  | [] => 0
  | d :: r => uptoBulk d + uptoBulkAll r
def uptoBulkEntries {H : Type} : List (Lit × DataW H) → Nat
  | [] => 0
  | x :: r => uptoBulkEntry x + uptoBulkEntries r
def uptoBulkEntry {H : Type} : Lit × DataW H → Nat
  | (.string bytes, d) => bytes.length + uptoBulk d + 1
  | (_, d) => uptoBulk d + 1
 end
def uptoSmall : (H : Type) → List (DataW H) → Bool := fun _ ds => decide (uptoBulkAll ds ≤ 1048576)
def OpenSpec.upto (s : _root_.Go.ChangeSpec) : _root_.Go.OpenSpec := { _root_.Go.OpenSpec.ofChange s with cond := some uptoSmall }

/-- 'linenlaw.SealSays', WHERE WHAT IT READS IS OF BULK AT MOST 1048576: true; the input reads as it did. -/
def sealSaysUptoRow : OpenClaim := { program := "yteppengbjpdaiaa", sum := "614d5f4dabac391f0e7dc40a95855c47fc8abc244246953ea86e34eeff883976", func := "linenpress/linenlaw.SealSays", spec := "sealSays", apart := false, narrowed := true }
def SealSaysUptoSaid : Prop := sealSaysUptoRow.holds Try.pinned (OpenSpec.upto sealSaysSpec)

/-- 'linenlaw.SealOpens', WHERE WHAT IT READS IS OF BULK AT MOST 1048576: true; the input reads as it did. -/
def sealOpensUptoRow : OpenClaim := { program := "yteppengbjpdaiaa", sum := "614d5f4dabac391f0e7dc40a95855c47fc8abc244246953ea86e34eeff883976", func := "linenpress/linenlaw.SealOpens", spec := "sealOpens", apart := false, narrowed := true }
def SealOpensUptoSaid : Prop := sealOpensUptoRow.holds Try.pinned (OpenSpec.upto sealOpensSpec)

/-- 'linenlaw.BlobWrites', WHERE WHAT IT READS IS OF BULK AT MOST 1048576: true; the input reads as it did. -/
def blobWritesUptoRow : OpenClaim := { program := "yteppengbjpdaiaa", sum := "614d5f4dabac391f0e7dc40a95855c47fc8abc244246953ea86e34eeff883976", func := "linenpress/linenlaw.BlobWrites", spec := "blobWrites", recurses := true, apart := false, narrowed := true }
def BlobWritesUptoSaid : Prop := blobWritesUptoRow.holds Try.pinned (OpenSpec.upto blobWritesSpec)

/-- 'linenlaw.BlobReads', WHERE WHAT IT READS IS OF BULK AT MOST 1048576: true; the input reads as it did. -/
def blobReadsUptoRow : OpenClaim := { program := "yteppengbjpdaiaa", sum := "614d5f4dabac391f0e7dc40a95855c47fc8abc244246953ea86e34eeff883976", func := "linenpress/linenlaw.BlobReads", spec := "blobReads", recurses := true, apart := false, narrowed := true }
def BlobReadsUptoSaid : Prop := blobReadsUptoRow.holds Try.pinned (OpenSpec.upto blobReadsSpec)

/-- 'linenlaw.BlobSplits', WHERE WHAT IT READS IS OF BULK AT MOST 1048576: true; the input reads as it did. -/
def blobSplitsUptoRow : OpenClaim := { program := "yteppengbjpdaiaa", sum := "614d5f4dabac391f0e7dc40a95855c47fc8abc244246953ea86e34eeff883976", func := "linenpress/linenlaw.BlobSplits", spec := "blobSplits", recurses := true, apart := false, narrowed := true }
def BlobSplitsUptoSaid : Prop := blobSplitsUptoRow.holds Try.pinned (OpenSpec.upto blobSplitsSpec)

/-- 'linenlaw.PointWrites', WHERE WHAT IT READS IS OF BULK AT MOST 1048576: true; the input reads as it did. -/
def pointWritesUptoRow : OpenClaim := { program := "yteppengbjpdaiaa", sum := "614d5f4dabac391f0e7dc40a95855c47fc8abc244246953ea86e34eeff883976", func := "linenpress/linenlaw.PointWrites", spec := "pointWrites", recurses := true, apart := false, narrowed := true }
def PointWritesUptoSaid : Prop := pointWritesUptoRow.holds Try.pinned (OpenSpec.upto pointWritesSpec)

/-- 'linenlaw.PointReads', WHERE WHAT IT READS IS OF BULK AT MOST 1048576: true; the input reads as it did. -/
def pointReadsUptoRow : OpenClaim := { program := "yteppengbjpdaiaa", sum := "614d5f4dabac391f0e7dc40a95855c47fc8abc244246953ea86e34eeff883976", func := "linenpress/linenlaw.PointReads", spec := "pointReads", apart := false, narrowed := true }
def PointReadsUptoSaid : Prop := pointReadsUptoRow.holds Try.pinned (OpenSpec.upto pointReadsSpec)

/-- 'linenlaw.PointNewest', WHERE WHAT IT READS IS OF BULK AT MOST 1048576: true; the input reads as it did. -/
def pointNewestUptoRow : OpenClaim := { program := "yteppengbjpdaiaa", sum := "614d5f4dabac391f0e7dc40a95855c47fc8abc244246953ea86e34eeff883976", func := "linenpress/linenlaw.PointNewest", spec := "pointNewest", unfollowed := true, recurses := true, apart := false, narrowed := true }
def PointNewestUptoSaid : Prop := pointNewestUptoRow.holds Try.pinned (OpenSpec.upto pointNewestSpec)

/-- 'linenlaw.ScanSays', WHERE WHAT IT READS IS OF BULK AT MOST 1048576: true; the input reads as it did. -/
def scanSaysUptoRow : OpenClaim := { program := "yteppengbjpdaiaa", sum := "614d5f4dabac391f0e7dc40a95855c47fc8abc244246953ea86e34eeff883976", func := "linenpress/linenlaw.ScanSays", spec := "scanSays", unfollowed := true, recurses := true, apart := false, narrowed := true }
def ScanSaysUptoSaid : Prop := scanSaysUptoRow.holds Try.pinned (OpenSpec.upto scanSaysSpec)

/-- 'linenlaw.UseAts', WHERE WHAT IT READS IS OF BULK AT MOST 1048576: true; the input reads as it did. -/
def useAtsUptoRow : OpenClaim := { program := "yteppengbjpdaiaa", sum := "614d5f4dabac391f0e7dc40a95855c47fc8abc244246953ea86e34eeff883976", func := "linenpress/linenlaw.UseAts", spec := "useAts", unfollowed := true, recurses := true, apart := false, narrowed := true }
def UseAtsUptoSaid : Prop := useAtsUptoRow.holds Try.pinned (OpenSpec.upto useAtsSpec)

/-- 'linenlaw.UseCounts', WHERE WHAT IT READS IS OF BULK AT MOST 1048576: true; the input reads as it did. -/
def useCountsUptoRow : OpenClaim := { program := "yteppengbjpdaiaa", sum := "614d5f4dabac391f0e7dc40a95855c47fc8abc244246953ea86e34eeff883976", func := "linenpress/linenlaw.UseCounts", spec := "useCounts", unfollowed := true, recurses := true, apart := false, narrowed := true }
def UseCountsUptoSaid : Prop := useCountsUptoRow.holds Try.pinned (OpenSpec.upto useCountsSpec)

/-- 'linenlaw.PickSays', WHERE WHAT IT READS IS OF BULK AT MOST 1048576: true; the input reads as it did. -/
def pickSaysUptoRow : OpenClaim := { program := "yteppengbjpdaiaa", sum := "614d5f4dabac391f0e7dc40a95855c47fc8abc244246953ea86e34eeff883976", func := "linenpress/linenlaw.PickSays", spec := "pickSays", inPlace := ["slices.overlaps[int]"], unfollowed := true, recurses := true, apart := false, narrowed := true }
def PickSaysUptoSaid : Prop := pickSaysUptoRow.holds Try.pinned (OpenSpec.upto pickSaysSpec)

end Rows
end Go.Proofs.Yteppengbjpdaiaa
