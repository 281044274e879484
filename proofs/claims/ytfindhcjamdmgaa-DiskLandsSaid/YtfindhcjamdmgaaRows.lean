/-
  No cell of these rows narrows 'for every input' (looked for: loops, veiled, ifaces, maps, wideKeys, modest, calm, conditions, laid).
  DERIVED. THE GIVEN ROWS OF THIS SEAT. 11 by the template 'for every input the law returns true; each argument reads behind the call as it read before'; 0 by the template 'total and deterministic' (their statements: YtfindhcjamdmgaaTotals.lean).
  GIVEN WITH THE SEED: the statements are not yours to turn. If you find one false, say at which input.
  Laid BY PROGRAM, IN A SANDBOX (cutbox-rows.mjs): the forced cells as the released guide's own fill.sh prints them over the translation 99b554e9cb5de1ed… (all of the seat's roots in one cut). By AI agents, Wed Nov 11 2026. No macro, syntax, notation, axiom, sorry.
-/
import Derived.Test.YtfindhcjamdmgaaChecked
import GoSem.Claim
import GoSem.ClaimJoined
import GoSem.ClaimMapViews
import Derived.JoinedTies
import Derived.KernelRfl
namespace Go.Proofs.Ytfindhcjamdmgaa
/- THE CELL 'sum', in the pinned program and in every row, IS THE sha256 OF THE DUMP (.gsa) THAT YtfindhcjamdmgaaProg.lean LOADS. Nothing in Lean hashes anything: it is a label: what it is worth is what the hold of that sum in a sandbox is worth. -/
noncomputable def Try.pinned : Pinned := { name := "ytfindhcjamdmgaa", sum := "99b554e9cb5de1ed8237505ecdc1516cbe7d7592d7b5669cacdcd8c68db11049", checked := Try.checked }
namespace Rows
def none {H : Type} : Left H := { results := [], args := [] }

/-- 'linenlaw.ImapReads': WHATEVER THE INPUT: true; the input reads as it did. -/
def imapReadsSpec : ChangeSpec := { name := "imapReads", fn := fun _ => fun
  | [d] => { results := [.lit (.bool true)], args := [d] }
  | _ => none }
def imapReadsRow : OpenClaim := { program := "ytfindhcjamdmgaa", sum := "99b554e9cb5de1ed8237505ecdc1516cbe7d7592d7b5669cacdcd8c68db11049", func := "linenpress/linenlaw.ImapReads", spec := "imapReads", apart := false }
def ImapReadsSaid : Prop := imapReadsRow.holds Try.pinned (OpenSpec.ofChange imapReadsSpec)

/-- ITS FALSE NEIGHBOUR: 'it returns false'. Refute it at one input. -/
def imapReadsWrong : ChangeSpec := { name := "imapReads", fn := fun _ => fun
  | [d] => { results := [.lit (.bool false)], args := [d] }
  | _ => none }
def ImapReadsWrongFalsely : Prop := imapReadsRow.holds Try.pinned (OpenSpec.ofChange imapReadsWrong)

/-- 'linenlaw.ImapSets': WHATEVER THE INPUT: true; the input reads as it did. -/
def imapSetsSpec : ChangeSpec := { name := "imapSets", fn := fun _ => fun
  | [d1, d2, d3] => { results := [.lit (.bool true)], args := [d1, d2, d3] }
  | _ => none }
def imapSetsRow : OpenClaim := { program := "ytfindhcjamdmgaa", sum := "99b554e9cb5de1ed8237505ecdc1516cbe7d7592d7b5669cacdcd8c68db11049", func := "linenpress/linenlaw.ImapSets", spec := "imapSets", apart := false }
def ImapSetsSaid : Prop := imapSetsRow.holds Try.pinned (OpenSpec.ofChange imapSetsSpec)

/-- ITS FALSE NEIGHBOUR: 'it returns false'. Refute it at one input. -/
def imapSetsWrong : ChangeSpec := { name := "imapSets", fn := fun _ => fun
  | [d1, d2, d3] => { results := [.lit (.bool false)], args := [d1, d2, d3] }
  | _ => none }
def ImapSetsWrongFalsely : Prop := imapSetsRow.holds Try.pinned (OpenSpec.ofChange imapSetsWrong)

/-- 'linenlaw.DiskWrites': WHATEVER THE INPUT: true; the input reads as it did. -/
def diskWritesSpec : ChangeSpec := { name := "diskWrites", fn := fun _ => fun
  | [d1, d2, d3] => { results := [.lit (.bool true)], args := [d1, d2, d3] }
  | _ => none }
def diskWritesRow : OpenClaim := { program := "ytfindhcjamdmgaa", sum := "99b554e9cb5de1ed8237505ecdc1516cbe7d7592d7b5669cacdcd8c68db11049", func := "linenpress/linenlaw.DiskWrites", spec := "diskWrites", unfollowed := true, recurses := true, apart := false }
def DiskWritesSaid : Prop := diskWritesRow.holds Try.pinned (OpenSpec.ofChange diskWritesSpec)

/-- ITS FALSE NEIGHBOUR: 'it returns false'. Refute it at one input. -/
def diskWritesWrong : ChangeSpec := { name := "diskWrites", fn := fun _ => fun
  | [d1, d2, d3] => { results := [.lit (.bool false)], args := [d1, d2, d3] }
  | _ => none }
def DiskWritesWrongFalsely : Prop := diskWritesRow.holds Try.pinned (OpenSpec.ofChange diskWritesWrong)

/-- 'linenlaw.DiskLands': WHATEVER THE INPUT: true; the input reads as it did. -/
def diskLandsSpec : ChangeSpec := { name := "diskLands", fn := fun _ => fun
  | [d1, d2] => { results := [.lit (.bool true)], args := [d1, d2] }
  | _ => none }
def diskLandsRow : OpenClaim := { program := "ytfindhcjamdmgaa", sum := "99b554e9cb5de1ed8237505ecdc1516cbe7d7592d7b5669cacdcd8c68db11049", func := "linenpress/linenlaw.DiskLands", spec := "diskLands", unfollowed := true, recurses := true, apart := false }
def DiskLandsSaid : Prop := diskLandsRow.holds Try.pinned (OpenSpec.ofChange diskLandsSpec)

/-- ITS FALSE NEIGHBOUR: 'it returns false'. Refute it at one input. -/
def diskLandsWrong : ChangeSpec := { name := "diskLands", fn := fun _ => fun
  | [d1, d2] => { results := [.lit (.bool false)], args := [d1, d2] }
  | _ => none }
def DiskLandsWrongFalsely : Prop := diskLandsRow.holds Try.pinned (OpenSpec.ofChange diskLandsWrong)

/-- 'linenlaw.OpsPlays': WHATEVER THE INPUT: true; the input reads as it did. -/
def opsPlaysSpec : ChangeSpec := { name := "opsPlays", fn := fun _ => fun
  | [d1, d2, d3, d4] => { results := [.lit (.bool true)], args := [d1, d2, d3, d4] }
  | _ => none }
def opsPlaysRow : OpenClaim := { program := "ytfindhcjamdmgaa", sum := "99b554e9cb5de1ed8237505ecdc1516cbe7d7592d7b5669cacdcd8c68db11049", func := "linenpress/linenlaw.OpsPlays", spec := "opsPlays", unfollowed := true, recurses := true, apart := false }
def OpsPlaysSaid : Prop := opsPlaysRow.holds Try.pinned (OpenSpec.ofChange opsPlaysSpec)

/-- ITS FALSE NEIGHBOUR: 'it returns false'. Refute it at one input. -/
def opsPlaysWrong : ChangeSpec := { name := "opsPlays", fn := fun _ => fun
  | [d1, d2, d3, d4] => { results := [.lit (.bool false)], args := [d1, d2, d3, d4] }
  | _ => none }
def OpsPlaysWrongFalsely : Prop := opsPlaysRow.holds Try.pinned (OpenSpec.ofChange opsPlaysWrong)

/-- 'linenlaw.OpsLeans': WHATEVER THE INPUT: true; the input reads as it did. -/
def opsLeansSpec : ChangeSpec := { name := "opsLeans", fn := fun _ => fun
  | [d] => { results := [.lit (.bool true)], args := [d] }
  | _ => none }
def opsLeansRow : OpenClaim := { program := "ytfindhcjamdmgaa", sum := "99b554e9cb5de1ed8237505ecdc1516cbe7d7592d7b5669cacdcd8c68db11049", func := "linenpress/linenlaw.OpsLeans", spec := "opsLeans", apart := false }
def OpsLeansSaid : Prop := opsLeansRow.holds Try.pinned (OpenSpec.ofChange opsLeansSpec)

/-- ITS FALSE NEIGHBOUR: 'it returns false'. Refute it at one input. -/
def opsLeansWrong : ChangeSpec := { name := "opsLeans", fn := fun _ => fun
  | [d] => { results := [.lit (.bool false)], args := [d] }
  | _ => none }
def OpsLeansWrongFalsely : Prop := opsLeansRow.holds Try.pinned (OpenSpec.ofChange opsLeansWrong)

/-- 'linenlaw.PointReads': WHATEVER THE INPUT: true; the input reads as it did. -/
def pointReadsSpec : ChangeSpec := { name := "pointReads", fn := fun _ => fun
  | [d] => { results := [.lit (.bool true)], args := [d] }
  | _ => none }
def pointReadsRow : OpenClaim := { program := "ytfindhcjamdmgaa", sum := "99b554e9cb5de1ed8237505ecdc1516cbe7d7592d7b5669cacdcd8c68db11049", func := "linenpress/linenlaw.PointReads", spec := "pointReads", apart := false }
def PointReadsSaid : Prop := pointReadsRow.holds Try.pinned (OpenSpec.ofChange pointReadsSpec)

/-- ITS FALSE NEIGHBOUR: 'it returns false'. Refute it at one input. -/
def pointReadsWrong : ChangeSpec := { name := "pointReads", fn := fun _ => fun
  | [d] => { results := [.lit (.bool false)], args := [d] }
  | _ => none }
def PointReadsWrongFalsely : Prop := pointReadsRow.holds Try.pinned (OpenSpec.ofChange pointReadsWrong)

/-- 'linenlaw.PointNewest': WHATEVER THE INPUT: true; the input reads as it did. -/
def pointNewestSpec : ChangeSpec := { name := "pointNewest", fn := fun _ => fun
  | [d] => { results := [.lit (.bool true)], args := [d] }
  | _ => none }
def pointNewestRow : OpenClaim := { program := "ytfindhcjamdmgaa", sum := "99b554e9cb5de1ed8237505ecdc1516cbe7d7592d7b5669cacdcd8c68db11049", func := "linenpress/linenlaw.PointNewest", spec := "pointNewest", unfollowed := true, recurses := true, apart := false }
def PointNewestSaid : Prop := pointNewestRow.holds Try.pinned (OpenSpec.ofChange pointNewestSpec)

/-- ITS FALSE NEIGHBOUR: 'it returns false'. Refute it at one input. -/
def pointNewestWrong : ChangeSpec := { name := "pointNewest", fn := fun _ => fun
  | [d] => { results := [.lit (.bool false)], args := [d] }
  | _ => none }
def PointNewestWrongFalsely : Prop := pointNewestRow.holds Try.pinned (OpenSpec.ofChange pointNewestWrong)

/-- 'linenlaw.UseAts': WHATEVER THE INPUT: true; the input reads as it did. -/
def useAtsSpec : ChangeSpec := { name := "useAts", fn := fun _ => fun
  | [d1, d2] => { results := [.lit (.bool true)], args := [d1, d2] }
  | _ => none }
def useAtsRow : OpenClaim := { program := "ytfindhcjamdmgaa", sum := "99b554e9cb5de1ed8237505ecdc1516cbe7d7592d7b5669cacdcd8c68db11049", func := "linenpress/linenlaw.UseAts", spec := "useAts", unfollowed := true, recurses := true, apart := false }
def UseAtsSaid : Prop := useAtsRow.holds Try.pinned (OpenSpec.ofChange useAtsSpec)

/-- ITS FALSE NEIGHBOUR: 'it returns false'. Refute it at one input. -/
def useAtsWrong : ChangeSpec := { name := "useAts", fn := fun _ => fun
  | [d1, d2] => { results := [.lit (.bool false)], args := [d1, d2] }
  | _ => none }
def UseAtsWrongFalsely : Prop := useAtsRow.holds Try.pinned (OpenSpec.ofChange useAtsWrong)

/-- 'linenlaw.UseCounts': WHATEVER THE INPUT: true; the input reads as it did. -/
def useCountsSpec : ChangeSpec := { name := "useCounts", fn := fun _ => fun
  | [d1, d2] => { results := [.lit (.bool true)], args := [d1, d2] }
  | _ => none }
def useCountsRow : OpenClaim := { program := "ytfindhcjamdmgaa", sum := "99b554e9cb5de1ed8237505ecdc1516cbe7d7592d7b5669cacdcd8c68db11049", func := "linenpress/linenlaw.UseCounts", spec := "useCounts", unfollowed := true, recurses := true, apart := false }
def UseCountsSaid : Prop := useCountsRow.holds Try.pinned (OpenSpec.ofChange useCountsSpec)

/-- ITS FALSE NEIGHBOUR: 'it returns false'. Refute it at one input. -/
def useCountsWrong : ChangeSpec := { name := "useCounts", fn := fun _ => fun
  | [d1, d2] => { results := [.lit (.bool false)], args := [d1, d2] }
  | _ => none }
def UseCountsWrongFalsely : Prop := useCountsRow.holds Try.pinned (OpenSpec.ofChange useCountsWrong)

/-- 'linenlaw.ScanSays': WHATEVER THE INPUT: true; the input reads as it did. -/
def scanSaysSpec : ChangeSpec := { name := "scanSays", fn := fun _ => fun
  | [d1, d2] => { results := [.lit (.bool true)], args := [d1, d2] }
  | _ => none }
def scanSaysRow : OpenClaim := { program := "ytfindhcjamdmgaa", sum := "99b554e9cb5de1ed8237505ecdc1516cbe7d7592d7b5669cacdcd8c68db11049", func := "linenpress/linenlaw.ScanSays", spec := "scanSays", unfollowed := true, recurses := true, apart := false }
def ScanSaysSaid : Prop := scanSaysRow.holds Try.pinned (OpenSpec.ofChange scanSaysSpec)

/-- ITS FALSE NEIGHBOUR: 'it returns false'. Refute it at one input. -/
def scanSaysWrong : ChangeSpec := { name := "scanSays", fn := fun _ => fun
  | [d1, d2] => { results := [.lit (.bool false)], args := [d1, d2] }
  | _ => none }
def ScanSaysWrongFalsely : Prop := scanSaysRow.holds Try.pinned (OpenSpec.ofChange scanSaysWrong)

/- THE SECOND FORM. 'bulk': how many values and letters a reading holds, each counted each time it is reached (what is shared counts as often as it is met; a slice's spare places count too). A statement '..UptoSaid' is the law's where the arguments, and the package variables that the reading takes, are together of bulk at most 1048576: NARROWER than '..Said'. Prove '..Said' where nothing that the law and all that it calls make is longer than what came in: it says more and counts as full. Else prove '..UptoSaid'. A law counts once. -/
mutual
def uptoBulk {H : Type} : DataW H → Nat
  | .lit (.string bytes) => bytes.length + 1
  | .lit _ => 1
  | .nil => 1
  | .ptr d => uptoBulk d + 1
  | .slice elems spare => uptoBulkAll elems + uptoBulkAll spare + 1
  | .agg parts => uptoBulkAll parts + 1
  | .iface _ d => uptoBulk d + 1
  | .map entries => uptoBulkEntries entries + 1
  | .held _ => 1
def uptoBulkAll {H : Type} : List (DataW H) → Nat
  | [] => 0
  | d :: r => uptoBulk d + uptoBulkAll r
def uptoBulkEntries {H : Type} : List (Lit × DataW H) → Nat
  | [] => 0
  | x :: r => uptoBulkEntry x + uptoBulkEntries r
def uptoBulkEntry {H : Type} : Lit × DataW H → Nat
  | (.string bytes, d) => bytes.length + uptoBulk d + 1
  | (_, d) => uptoBulk d + 1
 end
def uptoSmall : (H : Type) → List (DataW H) → Bool := fun _ ds => decide (uptoBulkAll ds ≤ 1048576)
def OpenSpec.upto (s : _root_.Go.ChangeSpec) : _root_.Go.OpenSpec := { _root_.Go.OpenSpec.ofChange s with cond := some uptoSmall }

/-- 'linenlaw.ImapReads', WHERE WHAT IT READS IS OF BULK AT MOST 1048576: true; the input reads as it did. -/
def imapReadsUptoRow : OpenClaim := { program := "ytfindhcjamdmgaa", sum := "99b554e9cb5de1ed8237505ecdc1516cbe7d7592d7b5669cacdcd8c68db11049", func := "linenpress/linenlaw.ImapReads", spec := "imapReads", apart := false, narrowed := true }
def ImapReadsUptoSaid : Prop := imapReadsUptoRow.holds Try.pinned (OpenSpec.upto imapReadsSpec)

/-- 'linenlaw.ImapSets', WHERE WHAT IT READS IS OF BULK AT MOST 1048576: true; the input reads as it did. -/
def imapSetsUptoRow : OpenClaim := { program := "ytfindhcjamdmgaa", sum := "99b554e9cb5de1ed8237505ecdc1516cbe7d7592d7b5669cacdcd8c68db11049", func := "linenpress/linenlaw.ImapSets", spec := "imapSets", apart := false, narrowed := true }
def ImapSetsUptoSaid : Prop := imapSetsUptoRow.holds Try.pinned (OpenSpec.upto imapSetsSpec)

/-- 'linenlaw.DiskWrites', WHERE WHAT IT READS IS OF BULK AT MOST 1048576: true; the input reads as it did. -/
def diskWritesUptoRow : OpenClaim := { program := "ytfindhcjamdmgaa", sum := "99b554e9cb5de1ed8237505ecdc1516cbe7d7592d7b5669cacdcd8c68db11049", func := "linenpress/linenlaw.DiskWrites", spec := "diskWrites", unfollowed := true, recurses := true, apart := false, narrowed := true }
def DiskWritesUptoSaid : Prop := diskWritesUptoRow.holds Try.pinned (OpenSpec.upto diskWritesSpec)

/-- 'linenlaw.DiskLands', WHERE WHAT IT READS IS OF BULK AT MOST 1048576: true; the input reads as it did. -/
def diskLandsUptoRow : OpenClaim := { program := "ytfindhcjamdmgaa", sum := "99b554e9cb5de1ed8237505ecdc1516cbe7d7592d7b5669cacdcd8c68db11049", func := "linenpress/linenlaw.DiskLands", spec := "diskLands", unfollowed := true, recurses := true, apart := false, narrowed := true }
def DiskLandsUptoSaid : Prop := diskLandsUptoRow.holds Try.pinned (OpenSpec.upto diskLandsSpec)

/-- 'linenlaw.OpsPlays', WHERE WHAT IT READS IS OF BULK AT MOST 1048576: true; the input reads as it did. -/
def opsPlaysUptoRow : OpenClaim := { program := "ytfindhcjamdmgaa", sum := "99b554e9cb5de1ed8237505ecdc1516cbe7d7592d7b5669cacdcd8c68db11049", func := "linenpress/linenlaw.OpsPlays", spec := "opsPlays", unfollowed := true, recurses := true, apart := false, narrowed := true }
def OpsPlaysUptoSaid : Prop := opsPlaysUptoRow.holds Try.pinned (OpenSpec.upto opsPlaysSpec)

/-- 'linenlaw.OpsLeans', WHERE WHAT IT READS IS OF BULK AT MOST 1048576: true; the input reads as it did. -/
def opsLeansUptoRow : OpenClaim := { program := "ytfindhcjamdmgaa", sum := "99b554e9cb5de1ed8237505ecdc1516cbe7d7592d7b5669cacdcd8c68db11049", func := "linenpress/linenlaw.OpsLeans", spec := "opsLeans", apart := false, narrowed := true }
def OpsLeansUptoSaid : Prop := opsLeansUptoRow.holds Try.pinned (OpenSpec.upto opsLeansSpec)

/-- 'linenlaw.PointReads', WHERE WHAT IT READS IS OF BULK AT MOST 1048576: true; the input reads as it did. -/
def pointReadsUptoRow : OpenClaim := { program := "ytfindhcjamdmgaa", sum := "99b554e9cb5de1ed8237505ecdc1516cbe7d7592d7b5669cacdcd8c68db11049", func := "linenpress/linenlaw.PointReads", spec := "pointReads", apart := false, narrowed := true }
def PointReadsUptoSaid : Prop := pointReadsUptoRow.holds Try.pinned (OpenSpec.upto pointReadsSpec)

/-- 'linenlaw.PointNewest', WHERE WHAT IT READS IS OF BULK AT MOST 1048576: true; the input reads as it did. -/
def pointNewestUptoRow : OpenClaim := { program := "ytfindhcjamdmgaa", sum := "99b554e9cb5de1ed8237505ecdc1516cbe7d7592d7b5669cacdcd8c68db11049", func := "linenpress/linenlaw.PointNewest", spec := "pointNewest", unfollowed := true, recurses := true, apart := false, narrowed := true }
def PointNewestUptoSaid : Prop := pointNewestUptoRow.holds Try.pinned (OpenSpec.upto pointNewestSpec)

/-- 'linenlaw.UseAts', WHERE WHAT IT READS IS OF BULK AT MOST 1048576: true; the input reads as it did. -/
def useAtsUptoRow : OpenClaim := { program := "ytfindhcjamdmgaa", sum := "99b554e9cb5de1ed8237505ecdc1516cbe7d7592d7b5669cacdcd8c68db11049", func := "linenpress/linenlaw.UseAts", spec := "useAts", unfollowed := true, recurses := true, apart := false, narrowed := true }
def UseAtsUptoSaid : Prop := useAtsUptoRow.holds Try.pinned (OpenSpec.upto useAtsSpec)

/-- 'linenlaw.UseCounts', WHERE WHAT IT READS IS OF BULK AT MOST 1048576: true; the input reads as it did. -/
def useCountsUptoRow : OpenClaim := { program := "ytfindhcjamdmgaa", sum := "99b554e9cb5de1ed8237505ecdc1516cbe7d7592d7b5669cacdcd8c68db11049", func := "linenpress/linenlaw.UseCounts", spec := "useCounts", unfollowed := true, recurses := true, apart := false, narrowed := true }
def UseCountsUptoSaid : Prop := useCountsUptoRow.holds Try.pinned (OpenSpec.upto useCountsSpec)

/-- 'linenlaw.ScanSays', WHERE WHAT IT READS IS OF BULK AT MOST 1048576: true; the input reads as it did. -/
def scanSaysUptoRow : OpenClaim := { program := "ytfindhcjamdmgaa", sum := "99b554e9cb5de1ed8237505ecdc1516cbe7d7592d7b5669cacdcd8c68db11049", func := "linenpress/linenlaw.ScanSays", spec := "scanSays", unfollowed := true, recurses := true, apart := false, narrowed := true }
def ScanSaysUptoSaid : Prop := scanSaysUptoRow.holds Try.pinned (OpenSpec.upto scanSaysSpec)

end Rows
end Go.Proofs.Ytfindhcjamdmgaa
