/-
  No cell of these rows narrows 'for every input' (looked for: loops, veiled, ifaces, maps, wideKeys, modest, calm, conditions, laid).
  DERIVED. THE GIVEN ROWS OF THIS SEAT. 10 by the template 'for every input the law returns true; each argument reads behind the call as it read before'; 0 by the template 'total and deterministic' (their statements: YtfhgglghofhndaaTotals.lean).
  GIVEN WITH THE SEED: the statements are not yours to turn. If you find one false, say at which input.
  Laid BY PROGRAM, IN A SANDBOX (cutbox-rows.mjs): the forced cells as the released guide's own fill.sh prints them over the translation 49ef67ea7ffc0497… (all of the seat's roots in one cut). By AI agents, Wed Nov 11 2026. No macro, syntax, notation, axiom, sorry.
-/
import Derived.Test.YtfhgglghofhndaaChecked
import GoSem.Claim
import GoSem.ClaimJoined
import GoSem.ClaimMapViews
import Derived.JoinedTies
import Derived.KernelRfl
namespace Go.Proofs.Ytfhgglghofhndaa
/- THE CELL 'sum', in the pinned program and in every row, IS THE sha256 OF THE DUMP (.gsa) THAT YtfhgglghofhndaaProg.lean LOADS. Nothing in Lean hashes anything: it is a label: what it is worth is what the hold of that sum in a sandbox is worth. -/
noncomputable def Try.pinned : Pinned := { name := "ytfhgglghofhndaa", sum := "49ef67ea7ffc0497a10c432cc60423501484d15a3151c4112815c93f5b7f709b", checked := Try.checked }
namespace Rows
def none {H : Type} : Left H := { results := [], args := [] }

/-- 'linenlaw.FileReads': WHATEVER THE INPUT: true; the input reads as it did. -/
def fileReadsSpec : ChangeSpec := { name := "fileReads", fn := fun _ => fun
  | [d1, d2, d3] => { results := [.lit (.bool true)], args := [d1, d2, d3] }
  | _ => none }
def fileReadsRow : OpenClaim := { program := "ytfhgglghofhndaa", sum := "49ef67ea7ffc0497a10c432cc60423501484d15a3151c4112815c93f5b7f709b", func := "linenpress/linenlaw.FileReads", spec := "fileReads", inPlace := ["internal/abi.NoEscape", "internal/bytealg.MakeNoZero"], apart := false }
def FileReadsSaid : Prop := fileReadsRow.holds Try.pinned (OpenSpec.ofChange fileReadsSpec)

/-- ITS FALSE NEIGHBOUR: 'it returns false'. Refute it at one input. -/
def fileReadsWrong : ChangeSpec := { name := "fileReads", fn := fun _ => fun
  | [d1, d2, d3] => { results := [.lit (.bool false)], args := [d1, d2, d3] }
  | _ => none }
def FileReadsWrongFalsely : Prop := fileReadsRow.holds Try.pinned (OpenSpec.ofChange fileReadsWrong)

/-- 'linenlaw.FileCuts': WHATEVER THE INPUT: true; the input reads as it did. -/
def fileCutsSpec : ChangeSpec := { name := "fileCuts", fn := fun _ => fun
  | [d1, d2] => { results := [.lit (.bool true)], args := [d1, d2] }
  | _ => none }
def fileCutsRow : OpenClaim := { program := "ytfhgglghofhndaa", sum := "49ef67ea7ffc0497a10c432cc60423501484d15a3151c4112815c93f5b7f709b", func := "linenpress/linenlaw.FileCuts", spec := "fileCuts", inPlace := ["internal/abi.NoEscape", "internal/bytealg.MakeNoZero"], unfollowed := true, recurses := true, apart := false }
def FileCutsSaid : Prop := fileCutsRow.holds Try.pinned (OpenSpec.ofChange fileCutsSpec)

/-- ITS FALSE NEIGHBOUR: 'it returns false'. Refute it at one input. -/
def fileCutsWrong : ChangeSpec := { name := "fileCuts", fn := fun _ => fun
  | [d1, d2] => { results := [.lit (.bool false)], args := [d1, d2] }
  | _ => none }
def FileCutsWrongFalsely : Prop := fileCutsRow.holds Try.pinned (OpenSpec.ofChange fileCutsWrong)

/-- 'linenlaw.FileWrites': WHATEVER THE INPUT: true; the input reads as it did. -/
def fileWritesSpec : ChangeSpec := { name := "fileWrites", fn := fun _ => fun
  | [d1, d2, d3] => { results := [.lit (.bool true)], args := [d1, d2, d3] }
  | _ => none }
def fileWritesRow : OpenClaim := { program := "ytfhgglghofhndaa", sum := "49ef67ea7ffc0497a10c432cc60423501484d15a3151c4112815c93f5b7f709b", func := "linenpress/linenlaw.FileWrites", spec := "fileWrites", inPlace := ["internal/abi.NoEscape", "internal/bytealg.MakeNoZero"], unfollowed := true, recurses := true, apart := false }
def FileWritesSaid : Prop := fileWritesRow.holds Try.pinned (OpenSpec.ofChange fileWritesSpec)

/-- ITS FALSE NEIGHBOUR: 'it returns false'. Refute it at one input. -/
def fileWritesWrong : ChangeSpec := { name := "fileWrites", fn := fun _ => fun
  | [d1, d2, d3] => { results := [.lit (.bool false)], args := [d1, d2, d3] }
  | _ => none }
def FileWritesWrongFalsely : Prop := fileWritesRow.holds Try.pinned (OpenSpec.ofChange fileWritesWrong)

/-- 'linenlaw.DirReads': WHATEVER THE INPUT: true; the input reads as it did. -/
def dirReadsSpec : ChangeSpec := { name := "dirReads", fn := fun _ => fun
  | [d] => { results := [.lit (.bool true)], args := [d] }
  | _ => none }
def dirReadsRow : OpenClaim := { program := "ytfhgglghofhndaa", sum := "49ef67ea7ffc0497a10c432cc60423501484d15a3151c4112815c93f5b7f709b", func := "linenpress/linenlaw.DirReads", spec := "dirReads", inPlace := ["internal/bytealg.IndexByteString", "internal/bytealg.IndexString"], named := ["internal/bytealg.MaxLen"], apart := false }
def DirReadsSaid : Prop := dirReadsRow.holds Try.pinned (OpenSpec.ofChange dirReadsSpec)

/-- ITS FALSE NEIGHBOUR: 'it returns false'. Refute it at one input. -/
def dirReadsWrong : ChangeSpec := { name := "dirReads", fn := fun _ => fun
  | [d] => { results := [.lit (.bool false)], args := [d] }
  | _ => none }
def DirReadsWrongFalsely : Prop := dirReadsRow.holds Try.pinned (OpenSpec.ofChange dirReadsWrong)

/-- 'linenlaw.DirSays': WHATEVER THE INPUT: true; the input reads as it did. -/
def dirSaysSpec : ChangeSpec := { name := "dirSays", fn := fun _ => fun
  | [d1, d2] => { results := [.lit (.bool true)], args := [d1, d2] }
  | _ => none }
def dirSaysRow : OpenClaim := { program := "ytfhgglghofhndaa", sum := "49ef67ea7ffc0497a10c432cc60423501484d15a3151c4112815c93f5b7f709b", func := "linenpress/linenlaw.DirSays", spec := "dirSays", inPlace := ["internal/bytealg.IndexByteString", "internal/bytealg.IndexString", "internal/abi.NoEscape"], named := ["internal/bytealg.MaxLen"], apart := false }
def DirSaysSaid : Prop := dirSaysRow.holds Try.pinned (OpenSpec.ofChange dirSaysSpec)

/-- ITS FALSE NEIGHBOUR: 'it returns false'. Refute it at one input. -/
def dirSaysWrong : ChangeSpec := { name := "dirSays", fn := fun _ => fun
  | [d1, d2] => { results := [.lit (.bool false)], args := [d1, d2] }
  | _ => none }
def DirSaysWrongFalsely : Prop := dirSaysRow.holds Try.pinned (OpenSpec.ofChange dirSaysWrong)

/-- 'linenlaw.DirTurns': WHATEVER THE INPUT: true; the input reads as it did. -/
def dirTurnsSpec : ChangeSpec := { name := "dirTurns", fn := fun _ => fun
  | [d1, d2] => { results := [.lit (.bool true)], args := [d1, d2] }
  | _ => none }
def dirTurnsRow : OpenClaim := { program := "ytfhgglghofhndaa", sum := "49ef67ea7ffc0497a10c432cc60423501484d15a3151c4112815c93f5b7f709b", func := "linenpress/linenlaw.DirTurns", spec := "dirTurns", inPlace := ["internal/bytealg.IndexByteString", "internal/bytealg.IndexString", "internal/bytealg.abigen_runtime_cmpstring", "slices.overlaps[linenpress/api.Ent]"], unfollowed := true, recurses := true, named := ["internal/bytealg.MaxLen"], apart := false }
def DirTurnsSaid : Prop := dirTurnsRow.holds Try.pinned (OpenSpec.ofChange dirTurnsSpec)

/-- ITS FALSE NEIGHBOUR: 'it returns false'. Refute it at one input. -/
def dirTurnsWrong : ChangeSpec := { name := "dirTurns", fn := fun _ => fun
  | [d1, d2] => { results := [.lit (.bool false)], args := [d1, d2] }
  | _ => none }
def DirTurnsWrongFalsely : Prop := dirTurnsRow.holds Try.pinned (OpenSpec.ofChange dirTurnsWrong)

/-- 'linenlaw.PathSplits': WHATEVER THE INPUT: true; the input reads as it did. -/
def pathSplitsSpec : ChangeSpec := { name := "pathSplits", fn := fun _ => fun
  | [d] => { results := [.lit (.bool true)], args := [d] }
  | _ => none }
def pathSplitsRow : OpenClaim := { program := "ytfhgglghofhndaa", sum := "49ef67ea7ffc0497a10c432cc60423501484d15a3151c4112815c93f5b7f709b", func := "linenpress/linenlaw.PathSplits", spec := "pathSplits", inPlace := ["internal/bytealg.IndexByteString", "internal/bytealg.IndexString"], unfollowed := true, recurses := true, named := ["internal/bytealg.MaxLen"], apart := false }
def PathSplitsSaid : Prop := pathSplitsRow.holds Try.pinned (OpenSpec.ofChange pathSplitsSpec)

/-- ITS FALSE NEIGHBOUR: 'it returns false'. Refute it at one input. -/
def pathSplitsWrong : ChangeSpec := { name := "pathSplits", fn := fun _ => fun
  | [d] => { results := [.lit (.bool false)], args := [d] }
  | _ => none }
def PathSplitsWrongFalsely : Prop := pathSplitsRow.holds Try.pinned (OpenSpec.ofChange pathSplitsWrong)

/-- 'linenlaw.PathJoins': WHATEVER THE INPUT: true; the input reads as it did. -/
def pathJoinsSpec : ChangeSpec := { name := "pathJoins", fn := fun _ => fun
  | [d1, d2] => { results := [.lit (.bool true)], args := [d1, d2] }
  | _ => none }
def pathJoinsRow : OpenClaim := { program := "ytfhgglghofhndaa", sum := "49ef67ea7ffc0497a10c432cc60423501484d15a3151c4112815c93f5b7f709b", func := "linenpress/linenlaw.PathJoins", spec := "pathJoins", inPlace := ["internal/bytealg.IndexByteString", "internal/bytealg.IndexString", "internal/abi.NoEscape", "internal/bytealg.MakeNoZero"], named := ["internal/bytealg.MaxLen"], apart := false }
def PathJoinsSaid : Prop := pathJoinsRow.holds Try.pinned (OpenSpec.ofChange pathJoinsSpec)

/-- ITS FALSE NEIGHBOUR: 'it returns false'. Refute it at one input. -/
def pathJoinsWrong : ChangeSpec := { name := "pathJoins", fn := fun _ => fun
  | [d1, d2] => { results := [.lit (.bool false)], args := [d1, d2] }
  | _ => none }
def PathJoinsWrongFalsely : Prop := pathJoinsRow.holds Try.pinned (OpenSpec.ofChange pathJoinsWrong)

/-- 'linenlaw.BitsPacks': WHATEVER THE INPUT: true; the input reads as it did. -/
def bitsPacksSpec : ChangeSpec := { name := "bitsPacks", fn := fun _ => fun
  | [d] => { results := [.lit (.bool true)], args := [d] }
  | _ => none }
def bitsPacksRow : OpenClaim := { program := "ytfhgglghofhndaa", sum := "49ef67ea7ffc0497a10c432cc60423501484d15a3151c4112815c93f5b7f709b", func := "linenpress/linenlaw.BitsPacks", spec := "bitsPacks", recurses := true, apart := false }
def BitsPacksSaid : Prop := bitsPacksRow.holds Try.pinned (OpenSpec.ofChange bitsPacksSpec)

/-- ITS FALSE NEIGHBOUR: 'it returns false'. Refute it at one input. -/
def bitsPacksWrong : ChangeSpec := { name := "bitsPacks", fn := fun _ => fun
  | [d] => { results := [.lit (.bool false)], args := [d] }
  | _ => none }
def BitsPacksWrongFalsely : Prop := bitsPacksRow.holds Try.pinned (OpenSpec.ofChange bitsPacksWrong)

/-- 'linenlaw.CodeReads': WHATEVER THE INPUT: true; the input reads as it did. -/
def codeReadsSpec : ChangeSpec := { name := "codeReads", fn := fun _ => fun
  | [d1, d2, d3, d4] => { results := [.lit (.bool true)], args := [d1, d2, d3, d4] }
  | _ => none }
def codeReadsRow : OpenClaim := { program := "ytfhgglghofhndaa", sum := "49ef67ea7ffc0497a10c432cc60423501484d15a3151c4112815c93f5b7f709b", func := "linenpress/linenlaw.CodeReads", spec := "codeReads", apart := false }
def CodeReadsSaid : Prop := codeReadsRow.holds Try.pinned (OpenSpec.ofChange codeReadsSpec)

/-- ITS FALSE NEIGHBOUR: 'it returns false'. Refute it at one input. -/
def codeReadsWrong : ChangeSpec := { name := "codeReads", fn := fun _ => fun
  | [d1, d2, d3, d4] => { results := [.lit (.bool false)], args := [d1, d2, d3, d4] }
  | _ => none }
def CodeReadsWrongFalsely : Prop := codeReadsRow.holds Try.pinned (OpenSpec.ofChange codeReadsWrong)

/- THE SECOND FORM. 'bulk': how many values and letters a reading holds, each counted each time it is reached (what is shared counts as often as it is met; a slice's spare places count too). A statement '..UptoSaid' is the law's where the arguments, and the package variables that the reading takes, are together of bulk at most 1048576: NARROWER than '..Said'. Prove '..Said' where nothing that the law and all that it calls make is longer than what came in: it says more and counts as full. Else prove '..UptoSaid'. A law counts once. -/
mutual
def uptoBulk {H : Type} : DataW H → Nat
  | .lit (.string bytes) => bytes.length + 1
  | .lit _ => 1
  | .nil => 1
  | .ptr d => uptoBulk d + 1
  | .slice elems spare => uptoBulkAll elems + uptoBulkAll spare + 1
  | .agg parts => uptoBulkAll parts + 1
  | .iface _ d => uptoBulk d + 1
  | .map entries => uptoBulkEntries entries + 1
  | .held _ => 1
def uptoBulkAll {H : Type} : List (DataW H) → Nat
  | [] => 0
  | d :: r => uptoBulk d + uptoBulkAll r
def uptoBulkEntries {H : Type} : List (Lit × DataW H) → Nat
  | [] => 0
  | x :: r => uptoBulkEntry x + uptoBulkEntries r
def uptoBulkEntry {H : Type} : Lit × DataW H → Nat
  | (.string bytes, d) => bytes.length + uptoBulk d + 1
  | (_, d) => uptoBulk d + 1
 end
def uptoSmall : (H : Type) → List (DataW H) → Bool := fun _ ds => decide (uptoBulkAll ds ≤ 1048576)
def OpenSpec.upto (s : _root_.Go.ChangeSpec) : _root_.Go.OpenSpec := { _root_.Go.OpenSpec.ofChange s with cond := some uptoSmall }

/-- 'linenlaw.FileReads', WHERE WHAT IT READS IS OF BULK AT MOST 1048576: true; the input reads as it did. -/
def fileReadsUptoRow : OpenClaim := { program := "ytfhgglghofhndaa", sum := "49ef67ea7ffc0497a10c432cc60423501484d15a3151c4112815c93f5b7f709b", func := "linenpress/linenlaw.FileReads", spec := "fileReads", inPlace := ["internal/abi.NoEscape", "internal/bytealg.MakeNoZero"], apart := false, narrowed := true }
def FileReadsUptoSaid : Prop := fileReadsUptoRow.holds Try.pinned (OpenSpec.upto fileReadsSpec)

/-- 'linenlaw.FileCuts', WHERE WHAT IT READS IS OF BULK AT MOST 1048576: true; the input reads as it did. -/
def fileCutsUptoRow : OpenClaim := { program := "ytfhgglghofhndaa", sum := "49ef67ea7ffc0497a10c432cc60423501484d15a3151c4112815c93f5b7f709b", func := "linenpress/linenlaw.FileCuts", spec := "fileCuts", inPlace := ["internal/abi.NoEscape", "internal/bytealg.MakeNoZero"], unfollowed := true, recurses := true, apart := false, narrowed := true }
def FileCutsUptoSaid : Prop := fileCutsUptoRow.holds Try.pinned (OpenSpec.upto fileCutsSpec)

/-- 'linenlaw.FileWrites', WHERE WHAT IT READS IS OF BULK AT MOST 1048576: true; the input reads as it did. -/
def fileWritesUptoRow : OpenClaim := { program := "ytfhgglghofhndaa", sum := "49ef67ea7ffc0497a10c432cc60423501484d15a3151c4112815c93f5b7f709b", func := "linenpress/linenlaw.FileWrites", spec := "fileWrites", inPlace := ["internal/abi.NoEscape", "internal/bytealg.MakeNoZero"], unfollowed := true, recurses := true, apart := false, narrowed := true }
def FileWritesUptoSaid : Prop := fileWritesUptoRow.holds Try.pinned (OpenSpec.upto fileWritesSpec)

/-- 'linenlaw.DirReads', WHERE WHAT IT READS IS OF BULK AT MOST 1048576: true; the input reads as it did. -/
def dirReadsUptoRow : OpenClaim := { program := "ytfhgglghofhndaa", sum := "49ef67ea7ffc0497a10c432cc60423501484d15a3151c4112815c93f5b7f709b", func := "linenpress/linenlaw.DirReads", spec := "dirReads", inPlace := ["internal/bytealg.IndexByteString", "internal/bytealg.IndexString"], named := ["internal/bytealg.MaxLen"], apart := false, narrowed := true }
def DirReadsUptoSaid : Prop := dirReadsUptoRow.holds Try.pinned (OpenSpec.upto dirReadsSpec)

/-- 'linenlaw.DirSays', WHERE WHAT IT READS IS OF BULK AT MOST 1048576: true; the input reads as it did. -/
def dirSaysUptoRow : OpenClaim := { program := "ytfhgglghofhndaa", sum := "49ef67ea7ffc0497a10c432cc60423501484d15a3151c4112815c93f5b7f709b", func := "linenpress/linenlaw.DirSays", spec := "dirSays", inPlace := ["internal/bytealg.IndexByteString", "internal/bytealg.IndexString", "internal/abi.NoEscape"], named := ["internal/bytealg.MaxLen"], apart := false, narrowed := true }
def DirSaysUptoSaid : Prop := dirSaysUptoRow.holds Try.pinned (OpenSpec.upto dirSaysSpec)

/-- 'linenlaw.DirTurns', WHERE WHAT IT READS IS OF BULK AT MOST 1048576: true; the input reads as it did. -/
def dirTurnsUptoRow : OpenClaim := { program := "ytfhgglghofhndaa", sum := "49ef67ea7ffc0497a10c432cc60423501484d15a3151c4112815c93f5b7f709b", func := "linenpress/linenlaw.DirTurns", spec := "dirTurns", inPlace := ["internal/bytealg.IndexByteString", "internal/bytealg.IndexString", "internal/bytealg.abigen_runtime_cmpstring", "slices.overlaps[linenpress/api.Ent]"], unfollowed := true, recurses := true, named := ["internal/bytealg.MaxLen"], apart := false, narrowed := true }
def DirTurnsUptoSaid : Prop := dirTurnsUptoRow.holds Try.pinned (OpenSpec.upto dirTurnsSpec)

/-- 'linenlaw.PathSplits', WHERE WHAT IT READS IS OF BULK AT MOST 1048576: true; the input reads as it did. -/
def pathSplitsUptoRow : OpenClaim := { program := "ytfhgglghofhndaa", sum := "49ef67ea7ffc0497a10c432cc60423501484d15a3151c4112815c93f5b7f709b", func := "linenpress/linenlaw.PathSplits", spec := "pathSplits", inPlace := ["internal/bytealg.IndexByteString", "internal/bytealg.IndexString"], unfollowed := true, recurses := true, named := ["internal/bytealg.MaxLen"], apart := false, narrowed := true }
def PathSplitsUptoSaid : Prop := pathSplitsUptoRow.holds Try.pinned (OpenSpec.upto pathSplitsSpec)

/-- 'linenlaw.PathJoins', WHERE WHAT IT READS IS OF BULK AT MOST 1048576: true; the input reads as it did. -/
def pathJoinsUptoRow : OpenClaim := { program := "ytfhgglghofhndaa", sum := "49ef67ea7ffc0497a10c432cc60423501484d15a3151c4112815c93f5b7f709b", func := "linenpress/linenlaw.PathJoins", spec := "pathJoins", inPlace := ["internal/bytealg.IndexByteString", "internal/bytealg.IndexString", "internal/abi.NoEscape", "internal/bytealg.MakeNoZero"], named := ["internal/bytealg.MaxLen"], apart := false, narrowed := true }
def PathJoinsUptoSaid : Prop := pathJoinsUptoRow.holds Try.pinned (OpenSpec.upto pathJoinsSpec)

/-- 'linenlaw.BitsPacks', WHERE WHAT IT READS IS OF BULK AT MOST 1048576: true; the input reads as it did. -/
def bitsPacksUptoRow : OpenClaim := { program := "ytfhgglghofhndaa", sum := "49ef67ea7ffc0497a10c432cc60423501484d15a3151c4112815c93f5b7f709b", func := "linenpress/linenlaw.BitsPacks", spec := "bitsPacks", recurses := true, apart := false, narrowed := true }
def BitsPacksUptoSaid : Prop := bitsPacksUptoRow.holds Try.pinned (OpenSpec.upto bitsPacksSpec)

/-- 'linenlaw.CodeReads', WHERE WHAT IT READS IS OF BULK AT MOST 1048576: true; the input reads as it did. -/
def codeReadsUptoRow : OpenClaim := { program := "ytfhgglghofhndaa", sum := "49ef67ea7ffc0497a10c432cc60423501484d15a3151c4112815c93f5b7f709b", func := "linenpress/linenlaw.CodeReads", spec := "codeReads", apart := false, narrowed := true }
def CodeReadsUptoSaid : Prop := codeReadsUptoRow.holds Try.pinned (OpenSpec.upto codeReadsSpec)

end Rows
end Go.Proofs.Ytfhgglghofhndaa
