/-
  No cell of these rows narrows 'for every input' (looked for: loops, veiled, ifaces, maps, wideKeys, modest, calm, conditions, laid).
  DERIVED. THE GIVEN ROWS OF THIS SEAT. 12 by the template 'for every input the law returns true; each argument reads behind the call as it read before'; 0 by the template 'total and deterministic' (their statements: YtnnmiolgffcgkaaTotals.lean).
  GIVEN WITH THE SEED: the statements are not yours to turn. If you find one false, say at which input.
  Laid BY PROGRAM, IN A SANDBOX (cutbox-rows.mjs): the forced cells as the released guide's own fill.sh prints them over the translation 8c06eacb8750c18a… (all of the seat's roots in one cut). By AI agents, Wed Nov 11 2026. No macro, syntax, notation, axiom, sorry.
-/
import Derived.Test.YtnnmiolgffcgkaaChecked
import GoSem.Claim
import GoSem.ClaimJoined
import GoSem.ClaimMapViews
import Derived.JoinedTies
import Derived.KernelRfl
namespace Go.Proofs.Ytnnmiolgffcgkaa
/- THE CELL 'sum', in the pinned program and in every row, IS THE sha256 OF THE DUMP (.gsa) THAT YtnnmiolgffcgkaaProg.lean LOADS. Nothing in Lean hashes anything: it is a label: what it is worth is what the hold of that sum in a sandbox is worth. -/
noncomputable def Try.pinned : Pinned := { name := "ytnnmiolgffcgkaa", sum := "8c06eacb8750c18a7ea11efa6f2f56a95146f9836db87b655c728e4664a9a0d3", checked := Try.checked }
namespace Rows
def none {H : Type} : Left H := { results := [], args := [] }

/-- 'linenlaw.BitsPacks': WHATEVER THE INPUT: true; the input reads as it did. -/
def bitsPacksSpec : ChangeSpec := { name := "bitsPacks", fn := fun _ => fun
  | [d] => { results := [.lit (.bool true)], args := [d] }
  | _ => none }
def bitsPacksRow : OpenClaim := { program := "ytnnmiolgffcgkaa", sum := "8c06eacb8750c18a7ea11efa6f2f56a95146f9836db87b655c728e4664a9a0d3", func := "linenpress/linenlaw.BitsPacks", spec := "bitsPacks", recurses := true, plainKeys := false, apart := false }
def BitsPacksSaid : Prop := bitsPacksRow.holds Try.pinned (OpenSpec.ofChange bitsPacksSpec)

/-- ITS FALSE NEIGHBOUR: 'it returns false'. Refute it at one input. -/
def bitsPacksWrong : ChangeSpec := { name := "bitsPacks", fn := fun _ => fun
  | [d] => { results := [.lit (.bool false)], args := [d] }
  | _ => none }
def BitsPacksWrongFalsely : Prop := bitsPacksRow.holds Try.pinned (OpenSpec.ofChange bitsPacksWrong)

/-- 'linenlaw.LzFinds': WHATEVER THE INPUT: true; the input reads as it did. -/
def lzFindsSpec : ChangeSpec := { name := "lzFinds", fn := fun _ => fun
  | [d] => { results := [.lit (.bool true)], args := [d] }
  | _ => none }
def lzFindsRow : OpenClaim := { program := "ytnnmiolgffcgkaa", sum := "8c06eacb8750c18a7ea11efa6f2f56a95146f9836db87b655c728e4664a9a0d3", func := "linenpress/linenlaw.LzFinds", spec := "lzFinds", plainKeys := false, apart := false }
def LzFindsSaid : Prop := lzFindsRow.holds Try.pinned (OpenSpec.ofChange lzFindsSpec)

/-- ITS FALSE NEIGHBOUR: 'it returns false'. Refute it at one input. -/
def lzFindsWrong : ChangeSpec := { name := "lzFinds", fn := fun _ => fun
  | [d] => { results := [.lit (.bool false)], args := [d] }
  | _ => none }
def LzFindsWrongFalsely : Prop := lzFindsRow.holds Try.pinned (OpenSpec.ofChange lzFindsWrong)

/-- 'linenlaw.HuffTakes': WHATEVER THE INPUT: true; the input reads as it did. -/
def huffTakesSpec : ChangeSpec := { name := "huffTakes", fn := fun _ => fun
  | [d1, d2] => { results := [.lit (.bool true)], args := [d1, d2] }
  | _ => none }
def huffTakesRow : OpenClaim := { program := "ytnnmiolgffcgkaa", sum := "8c06eacb8750c18a7ea11efa6f2f56a95146f9836db87b655c728e4664a9a0d3", func := "linenpress/linenlaw.HuffTakes", spec := "huffTakes", unfollowed := true, recurses := true, plainKeys := false, apart := false }
def HuffTakesSaid : Prop := huffTakesRow.holds Try.pinned (OpenSpec.ofChange huffTakesSpec)

/-- ITS FALSE NEIGHBOUR: 'it returns false'. Refute it at one input. -/
def huffTakesWrong : ChangeSpec := { name := "huffTakes", fn := fun _ => fun
  | [d1, d2] => { results := [.lit (.bool false)], args := [d1, d2] }
  | _ => none }
def HuffTakesWrongFalsely : Prop := huffTakesRow.holds Try.pinned (OpenSpec.ofChange huffTakesWrong)

/-- 'linenlaw.PressOpens': WHATEVER THE INPUT: true; the input reads as it did. -/
def pressOpensSpec : ChangeSpec := { name := "pressOpens", fn := fun _ => fun
  | [d] => { results := [.lit (.bool true)], args := [d] }
  | _ => none }
def pressOpensRow : OpenClaim := { program := "ytnnmiolgffcgkaa", sum := "8c06eacb8750c18a7ea11efa6f2f56a95146f9836db87b655c728e4664a9a0d3", func := "linenpress/linenlaw.PressOpens", spec := "pressOpens", inPlace := ["internal/abi.NoEscape", "internal/bytealg.MakeNoZero"], unfollowed := true, recurses := true, plainKeys := false, apart := false }
def PressOpensSaid : Prop := pressOpensRow.holds Try.pinned (OpenSpec.ofChange pressOpensSpec)

/-- ITS FALSE NEIGHBOUR: 'it returns false'. Refute it at one input. -/
def pressOpensWrong : ChangeSpec := { name := "pressOpens", fn := fun _ => fun
  | [d] => { results := [.lit (.bool false)], args := [d] }
  | _ => none }
def PressOpensWrongFalsely : Prop := pressOpensRow.holds Try.pinned (OpenSpec.ofChange pressOpensWrong)

/-- 'linenlaw.DirTurns': WHATEVER THE INPUT: true; the input reads as it did. -/
def dirTurnsSpec : ChangeSpec := { name := "dirTurns", fn := fun _ => fun
  | [d1, d2] => { results := [.lit (.bool true)], args := [d1, d2] }
  | _ => none }
def dirTurnsRow : OpenClaim := { program := "ytnnmiolgffcgkaa", sum := "8c06eacb8750c18a7ea11efa6f2f56a95146f9836db87b655c728e4664a9a0d3", func := "linenpress/linenlaw.DirTurns", spec := "dirTurns", inPlace := ["internal/bytealg.IndexByteString", "internal/bytealg.IndexString", "internal/bytealg.abigen_runtime_cmpstring", "slices.overlaps[linenpress/api.Ent]"], unfollowed := true, recurses := true, named := ["internal/bytealg.MaxLen"], plainKeys := false, apart := false }
def DirTurnsSaid : Prop := dirTurnsRow.holds Try.pinned (OpenSpec.ofChange dirTurnsSpec)

/-- ITS FALSE NEIGHBOUR: 'it returns false'. Refute it at one input. -/
def dirTurnsWrong : ChangeSpec := { name := "dirTurns", fn := fun _ => fun
  | [d1, d2] => { results := [.lit (.bool false)], args := [d1, d2] }
  | _ => none }
def DirTurnsWrongFalsely : Prop := dirTurnsRow.holds Try.pinned (OpenSpec.ofChange dirTurnsWrong)

/-- 'linenlaw.NumPuts': WHATEVER THE INPUT: true; the input reads as it did. -/
def numPutsSpec : ChangeSpec := { name := "numPuts", fn := fun _ => fun
  | [d1, d2] => { results := [.lit (.bool true)], args := [d1, d2] }
  | _ => none }
def numPutsRow : OpenClaim := { program := "ytnnmiolgffcgkaa", sum := "8c06eacb8750c18a7ea11efa6f2f56a95146f9836db87b655c728e4664a9a0d3", func := "linenpress/linenlaw.NumPuts", spec := "numPuts", recurses := true, plainKeys := false, apart := false }
def NumPutsSaid : Prop := numPutsRow.holds Try.pinned (OpenSpec.ofChange numPutsSpec)

/-- ITS FALSE NEIGHBOUR: 'it returns false'. Refute it at one input. -/
def numPutsWrong : ChangeSpec := { name := "numPuts", fn := fun _ => fun
  | [d1, d2] => { results := [.lit (.bool false)], args := [d1, d2] }
  | _ => none }
def NumPutsWrongFalsely : Prop := numPutsRow.holds Try.pinned (OpenSpec.ofChange numPutsWrong)

/-- 'linenlaw.RunsReads': WHATEVER THE INPUT: true; the input reads as it did. -/
def runsReadsSpec : ChangeSpec := { name := "runsReads", fn := fun _ => fun
  | [d] => { results := [.lit (.bool true)], args := [d] }
  | _ => none }
def runsReadsRow : OpenClaim := { program := "ytnnmiolgffcgkaa", sum := "8c06eacb8750c18a7ea11efa6f2f56a95146f9836db87b655c728e4664a9a0d3", func := "linenpress/linenlaw.RunsReads", spec := "runsReads", plainKeys := false, apart := false }
def RunsReadsSaid : Prop := runsReadsRow.holds Try.pinned (OpenSpec.ofChange runsReadsSpec)

/-- ITS FALSE NEIGHBOUR: 'it returns false'. Refute it at one input. -/
def runsReadsWrong : ChangeSpec := { name := "runsReads", fn := fun _ => fun
  | [d] => { results := [.lit (.bool false)], args := [d] }
  | _ => none }
def RunsReadsWrongFalsely : Prop := runsReadsRow.holds Try.pinned (OpenSpec.ofChange runsReadsWrong)

/-- 'linenlaw.LzExpands': WHATEVER THE INPUT: true; the input reads as it did. -/
def lzExpandsSpec : ChangeSpec := { name := "lzExpands", fn := fun _ => fun
  | [d1, d2] => { results := [.lit (.bool true)], args := [d1, d2] }
  | _ => none }
def lzExpandsRow : OpenClaim := { program := "ytnnmiolgffcgkaa", sum := "8c06eacb8750c18a7ea11efa6f2f56a95146f9836db87b655c728e4664a9a0d3", func := "linenpress/linenlaw.LzExpands", spec := "lzExpands", plainKeys := false, apart := false }
def LzExpandsSaid : Prop := lzExpandsRow.holds Try.pinned (OpenSpec.ofChange lzExpandsSpec)

/-- ITS FALSE NEIGHBOUR: 'it returns false'. Refute it at one input. -/
def lzExpandsWrong : ChangeSpec := { name := "lzExpands", fn := fun _ => fun
  | [d1, d2] => { results := [.lit (.bool false)], args := [d1, d2] }
  | _ => none }
def LzExpandsWrongFalsely : Prop := lzExpandsRow.holds Try.pinned (OpenSpec.ofChange lzExpandsWrong)

/-- 'linenlaw.BitsUnpacks': WHATEVER THE INPUT: true; the input reads as it did. -/
def bitsUnpacksSpec : ChangeSpec := { name := "bitsUnpacks", fn := fun _ => fun
  | [d1, d2] => { results := [.lit (.bool true)], args := [d1, d2] }
  | _ => none }
def bitsUnpacksRow : OpenClaim := { program := "ytnnmiolgffcgkaa", sum := "8c06eacb8750c18a7ea11efa6f2f56a95146f9836db87b655c728e4664a9a0d3", func := "linenpress/linenlaw.BitsUnpacks", spec := "bitsUnpacks", unfollowed := true, recurses := true, plainKeys := false, apart := false }
def BitsUnpacksSaid : Prop := bitsUnpacksRow.holds Try.pinned (OpenSpec.ofChange bitsUnpacksSpec)

/-- ITS FALSE NEIGHBOUR: 'it returns false'. Refute it at one input. -/
def bitsUnpacksWrong : ChangeSpec := { name := "bitsUnpacks", fn := fun _ => fun
  | [d1, d2] => { results := [.lit (.bool false)], args := [d1, d2] }
  | _ => none }
def BitsUnpacksWrongFalsely : Prop := bitsUnpacksRow.holds Try.pinned (OpenSpec.ofChange bitsUnpacksWrong)

/-- 'linenlaw.CodeReads': WHATEVER THE INPUT: true; the input reads as it did. -/
def codeReadsSpec : ChangeSpec := { name := "codeReads", fn := fun _ => fun
  | [d1, d2, d3, d4] => { results := [.lit (.bool true)], args := [d1, d2, d3, d4] }
  | _ => none }
def codeReadsRow : OpenClaim := { program := "ytnnmiolgffcgkaa", sum := "8c06eacb8750c18a7ea11efa6f2f56a95146f9836db87b655c728e4664a9a0d3", func := "linenpress/linenlaw.CodeReads", spec := "codeReads", plainKeys := false, apart := false }
def CodeReadsSaid : Prop := codeReadsRow.holds Try.pinned (OpenSpec.ofChange codeReadsSpec)

/-- ITS FALSE NEIGHBOUR: 'it returns false'. Refute it at one input. -/
def codeReadsWrong : ChangeSpec := { name := "codeReads", fn := fun _ => fun
  | [d1, d2, d3, d4] => { results := [.lit (.bool false)], args := [d1, d2, d3, d4] }
  | _ => none }
def CodeReadsWrongFalsely : Prop := codeReadsRow.holds Try.pinned (OpenSpec.ofChange codeReadsWrong)

/-- 'linenlaw.DirReads': WHATEVER THE INPUT: true; the input reads as it did. -/
def dirReadsSpec : ChangeSpec := { name := "dirReads", fn := fun _ => fun
  | [d] => { results := [.lit (.bool true)], args := [d] }
  | _ => none }
def dirReadsRow : OpenClaim := { program := "ytnnmiolgffcgkaa", sum := "8c06eacb8750c18a7ea11efa6f2f56a95146f9836db87b655c728e4664a9a0d3", func := "linenpress/linenlaw.DirReads", spec := "dirReads", inPlace := ["internal/bytealg.IndexByteString", "internal/bytealg.IndexString"], named := ["internal/bytealg.MaxLen"], plainKeys := false, apart := false }
def DirReadsSaid : Prop := dirReadsRow.holds Try.pinned (OpenSpec.ofChange dirReadsSpec)

/-- ITS FALSE NEIGHBOUR: 'it returns false'. Refute it at one input. -/
def dirReadsWrong : ChangeSpec := { name := "dirReads", fn := fun _ => fun
  | [d] => { results := [.lit (.bool false)], args := [d] }
  | _ => none }
def DirReadsWrongFalsely : Prop := dirReadsRow.holds Try.pinned (OpenSpec.ofChange dirReadsWrong)

/-- 'linenlaw.DirSays': WHATEVER THE INPUT: true; the input reads as it did. -/
def dirSaysSpec : ChangeSpec := { name := "dirSays", fn := fun _ => fun
  | [d1, d2] => { results := [.lit (.bool true)], args := [d1, d2] }
  | _ => none }
def dirSaysRow : OpenClaim := { program := "ytnnmiolgffcgkaa", sum := "8c06eacb8750c18a7ea11efa6f2f56a95146f9836db87b655c728e4664a9a0d3", func := "linenpress/linenlaw.DirSays", spec := "dirSays", inPlace := ["internal/bytealg.IndexByteString", "internal/bytealg.IndexString", "internal/abi.NoEscape"], named := ["internal/bytealg.MaxLen"], plainKeys := false, apart := false }
def DirSaysSaid : Prop := dirSaysRow.holds Try.pinned (OpenSpec.ofChange dirSaysSpec)

/-- ITS FALSE NEIGHBOUR: 'it returns false'. Refute it at one input. -/
def dirSaysWrong : ChangeSpec := { name := "dirSays", fn := fun _ => fun
  | [d1, d2] => { results := [.lit (.bool false)], args := [d1, d2] }
  | _ => none }
def DirSaysWrongFalsely : Prop := dirSaysRow.holds Try.pinned (OpenSpec.ofChange dirSaysWrong)

/- THE SECOND FORM. 'bulk': how many values and letters a reading holds, each counted each time it is reached (what is shared counts as often as it is met; a slice's spare places count too). A statement '..UptoSaid' is the law's where the arguments, and the package variables that the reading takes, are together of bulk at most 1048576: NARROWER than '..Said'. Prove '..Said' where nothing that the law and all that it calls make is longer than what came in: it says more and counts as full. Else prove '..UptoSaid'. A law counts once. -/
mutual
def uptoBulk {H : Type} : DataW H → Nat
  | .lit (.string bytes) => bytes.length + 1
  | .lit _ => 1
  | .nil => 1
  | .ptr d => uptoBulk d + 1
  | .slice elems spare => uptoBulkAll elems + uptoBulkAll spare + 1
  | .agg parts => uptoBulkAll parts + 1
  | .iface _ d => uptoBulk d + 1
  | .map entries => uptoBulkEntries entries + 1
  | .held _ => 1
def uptoBulkAll {H : Type} : List (DataW H) → Nat
  | [] => 0
  | d :: r => uptoBulk d + uptoBulkAll r
def uptoBulkEntries {H : Type} : List (Lit × DataW H) → Nat
  | [] => 0
  | x :: r => uptoBulkEntry x + uptoBulkEntries r
def uptoBulkEntry {H : Type} : Lit × DataW H → Nat
  | (.string bytes, d) => bytes.length + uptoBulk d + 1
  | (_, d) => uptoBulk d + 1
 end
def uptoSmall : (H : Type) → List (DataW H) → Bool := fun _ ds => decide (uptoBulkAll ds ≤ 1048576)
def OpenSpec.upto (s : _root_.Go.ChangeSpec) : _root_.Go.OpenSpec := { _root_.Go.OpenSpec.ofChange s with cond := some uptoSmall }

/-- 'linenlaw.BitsPacks', WHERE WHAT IT READS IS OF BULK AT MOST 1048576: true; the input reads as it did. -/
def bitsPacksUptoRow : OpenClaim := { program := "ytnnmiolgffcgkaa", sum := "8c06eacb8750c18a7ea11efa6f2f56a95146f9836db87b655c728e4664a9a0d3", func := "linenpress/linenlaw.BitsPacks", spec := "bitsPacks", recurses := true, plainKeys := false, apart := false, narrowed := true }
def BitsPacksUptoSaid : Prop := bitsPacksUptoRow.holds Try.pinned (OpenSpec.upto bitsPacksSpec)

/-- 'linenlaw.LzFinds', WHERE WHAT IT READS IS OF BULK AT MOST 1048576: true; the input reads as it did. -/
def lzFindsUptoRow : OpenClaim := { program := "ytnnmiolgffcgkaa", sum := "8c06eacb8750c18a7ea11efa6f2f56a95146f9836db87b655c728e4664a9a0d3", func := "linenpress/linenlaw.LzFinds", spec := "lzFinds", plainKeys := false, apart := false, narrowed := true }
def LzFindsUptoSaid : Prop := lzFindsUptoRow.holds Try.pinned (OpenSpec.upto lzFindsSpec)

/-- 'linenlaw.HuffTakes', WHERE WHAT IT READS IS OF BULK AT MOST 1048576: true; the input reads as it did. -/
def huffTakesUptoRow : OpenClaim := { program := "ytnnmiolgffcgkaa", sum := "8c06eacb8750c18a7ea11efa6f2f56a95146f9836db87b655c728e4664a9a0d3", func := "linenpress/linenlaw.HuffTakes", spec := "huffTakes", unfollowed := true, recurses := true, plainKeys := false, apart := false, narrowed := true }
def HuffTakesUptoSaid : Prop := huffTakesUptoRow.holds Try.pinned (OpenSpec.upto huffTakesSpec)

/-- 'linenlaw.PressOpens', WHERE WHAT IT READS IS OF BULK AT MOST 1048576: true; the input reads as it did. -/
def pressOpensUptoRow : OpenClaim := { program := "ytnnmiolgffcgkaa", sum := "8c06eacb8750c18a7ea11efa6f2f56a95146f9836db87b655c728e4664a9a0d3", func := "linenpress/linenlaw.PressOpens", spec := "pressOpens", inPlace := ["internal/abi.NoEscape", "internal/bytealg.MakeNoZero"], unfollowed := true, recurses := true, plainKeys := false, apart := false, narrowed := true }
def PressOpensUptoSaid : Prop := pressOpensUptoRow.holds Try.pinned (OpenSpec.upto pressOpensSpec)

/-- 'linenlaw.DirTurns', WHERE WHAT IT READS IS OF BULK AT MOST 1048576: true; the input reads as it did. -/
def dirTurnsUptoRow : OpenClaim := { program := "ytnnmiolgffcgkaa", sum := "8c06eacb8750c18a7ea11efa6f2f56a95146f9836db87b655c728e4664a9a0d3", func := "linenpress/linenlaw.DirTurns", spec := "dirTurns", inPlace := ["internal/bytealg.IndexByteString", "internal/bytealg.IndexString", "internal/bytealg.abigen_runtime_cmpstring", "slices.overlaps[linenpress/api.Ent]"], unfollowed := true, recurses := true, named := ["internal/bytealg.MaxLen"], plainKeys := false, apart := false, narrowed := true }
def DirTurnsUptoSaid : Prop := dirTurnsUptoRow.holds Try.pinned (OpenSpec.upto dirTurnsSpec)

/-- 'linenlaw.NumPuts', WHERE WHAT IT READS IS OF BULK AT MOST 1048576: true; the input reads as it did. -/
def numPutsUptoRow : OpenClaim := { program := "ytnnmiolgffcgkaa", sum := "8c06eacb8750c18a7ea11efa6f2f56a95146f9836db87b655c728e4664a9a0d3", func := "linenpress/linenlaw.NumPuts", spec := "numPuts", recurses := true, plainKeys := false, apart := false, narrowed := true }
def NumPutsUptoSaid : Prop := numPutsUptoRow.holds Try.pinned (OpenSpec.upto numPutsSpec)

/-- 'linenlaw.RunsReads', WHERE WHAT IT READS IS OF BULK AT MOST 1048576: true; the input reads as it did. -/
def runsReadsUptoRow : OpenClaim := { program := "ytnnmiolgffcgkaa", sum := "8c06eacb8750c18a7ea11efa6f2f56a95146f9836db87b655c728e4664a9a0d3", func := "linenpress/linenlaw.RunsReads", spec := "runsReads", plainKeys := false, apart := false, narrowed := true }
def RunsReadsUptoSaid : Prop := runsReadsUptoRow.holds Try.pinned (OpenSpec.upto runsReadsSpec)

/-- 'linenlaw.LzExpands', WHERE WHAT IT READS IS OF BULK AT MOST 1048576: true; the input reads as it did. -/
def lzExpandsUptoRow : OpenClaim := { program := "ytnnmiolgffcgkaa", sum := "8c06eacb8750c18a7ea11efa6f2f56a95146f9836db87b655c728e4664a9a0d3", func := "linenpress/linenlaw.LzExpands", spec := "lzExpands", plainKeys := false, apart := false, narrowed := true }
def LzExpandsUptoSaid : Prop := lzExpandsUptoRow.holds Try.pinned (OpenSpec.upto lzExpandsSpec)

/-- 'linenlaw.BitsUnpacks', WHERE WHAT IT READS IS OF BULK AT MOST 1048576: true; the input reads as it did. -/
def bitsUnpacksUptoRow : OpenClaim := { program := "ytnnmiolgffcgkaa", sum := "8c06eacb8750c18a7ea11efa6f2f56a95146f9836db87b655c728e4664a9a0d3", func := "linenpress/linenlaw.BitsUnpacks", spec := "bitsUnpacks", unfollowed := true, recurses := true, plainKeys := false, apart := false, narrowed := true }
def BitsUnpacksUptoSaid : Prop := bitsUnpacksUptoRow.holds Try.pinned (OpenSpec.upto bitsUnpacksSpec)

/-- 'linenlaw.CodeReads', WHERE WHAT IT READS IS OF BULK AT MOST 1048576: true; the input reads as it did. -/
def codeReadsUptoRow : OpenClaim := { program := "ytnnmiolgffcgkaa", sum := "8c06eacb8750c18a7ea11efa6f2f56a95146f9836db87b655c728e4664a9a0d3", func := "linenpress/linenlaw.CodeReads", spec := "codeReads", plainKeys := false, apart := false, narrowed := true }
def CodeReadsUptoSaid : Prop := codeReadsUptoRow.holds Try.pinned (OpenSpec.upto codeReadsSpec)

/-- 'linenlaw.DirReads', WHERE WHAT IT READS IS OF BULK AT MOST 1048576: true; the input reads as it did. -/
def dirReadsUptoRow : OpenClaim := { program := "ytnnmiolgffcgkaa", sum := "8c06eacb8750c18a7ea11efa6f2f56a95146f9836db87b655c728e4664a9a0d3", func := "linenpress/linenlaw.DirReads", spec := "dirReads", inPlace := ["internal/bytealg.IndexByteString", "internal/bytealg.IndexString"], named := ["internal/bytealg.MaxLen"], plainKeys := false, apart := false, narrowed := true }
def DirReadsUptoSaid : Prop := dirReadsUptoRow.holds Try.pinned (OpenSpec.upto dirReadsSpec)

/-- 'linenlaw.DirSays', WHERE WHAT IT READS IS OF BULK AT MOST 1048576: true; the input reads as it did. -/
def dirSaysUptoRow : OpenClaim := { program := "ytnnmiolgffcgkaa", sum := "8c06eacb8750c18a7ea11efa6f2f56a95146f9836db87b655c728e4664a9a0d3", func := "linenpress/linenlaw.DirSays", spec := "dirSays", inPlace := ["internal/bytealg.IndexByteString", "internal/bytealg.IndexString", "internal/abi.NoEscape"], named := ["internal/bytealg.MaxLen"], plainKeys := false, apart := false, narrowed := true }
def DirSaysUptoSaid : Prop := dirSaysUptoRow.holds Try.pinned (OpenSpec.upto dirSaysSpec)

end Rows
end Go.Proofs.Ytnnmiolgffcgkaa
