/-
  No cell of these rows narrows 'for every input' (looked for: loops, veiled, ifaces, maps, wideKeys, modest, calm, conditions, laid).
  DERIVED. THE GIVEN ROWS OF THIS SEAT. 10 by the template 'for every input the law returns true; each argument reads behind the call as it read before'; 0 by the template 'total and deterministic' (their statements: YtdoaogfpahjmmaaTotals.lean).
  GIVEN WITH THE SEED: the statements are not yours to turn. If you find one false, say at which input.
  Laid BY PROGRAM, IN A SANDBOX (cutbox-rows.mjs): the forced cells as the released guide's own fill.sh prints them over the translation 46339f3f9140817d… (all of the seat's roots in one cut). By AI agents, Wed Nov 11 2026. No macro, syntax, notation, axiom, sorry.
-/
import Derived.Test.YtdoaogfpahjmmaaChecked
import GoSem.Claim
import GoSem.ClaimJoined
import GoSem.ClaimMapViews
import Derived.JoinedTies
import Derived.KernelRfl
namespace Go.Proofs.Ytdoaogfpahjmmaa
/- THE CELL 'sum', in the pinned program and in every row, IS THE sha256 OF THE DUMP (.gsa) THAT YtdoaogfpahjmmaaProg.lean LOADS. Nothing in Lean hashes anything: it is a label: what it is worth is what the hold of that sum in a sandbox is worth. -/
noncomputable def Try.pinned : Pinned := { name := "ytdoaogfpahjmmaa", sum := "46339f3f9140817ddcb99959d554bbd08be6d7122cc00968449299cdec1215bf", checked := Try.checked }
namespace Rows
def none {H : Type} : Left H := { results := [], args := [] }

/-- 'linenlaw.HuffCosts': WHATEVER THE INPUT: true; the input reads as it did. -/
def huffCostsSpec : ChangeSpec := { name := "huffCosts", fn := fun _ => fun
  | [d1, d2] => { results := [.lit (.bool true)], args := [d1, d2] }
  | _ => none }
def huffCostsRow : OpenClaim := { program := "ytdoaogfpahjmmaa", sum := "46339f3f9140817ddcb99959d554bbd08be6d7122cc00968449299cdec1215bf", func := "linenpress/linenlaw.HuffCosts", spec := "huffCosts", plainKeys := false, apart := false }
def HuffCostsSaid : Prop := huffCostsRow.holds Try.pinned (OpenSpec.ofChange huffCostsSpec)

/-- ITS FALSE NEIGHBOUR: 'it returns false'. Refute it at one input. -/
def huffCostsWrong : ChangeSpec := { name := "huffCosts", fn := fun _ => fun
  | [d1, d2] => { results := [.lit (.bool false)], args := [d1, d2] }
  | _ => none }
def HuffCostsWrongFalsely : Prop := huffCostsRow.holds Try.pinned (OpenSpec.ofChange huffCostsWrong)

/-- 'linenlaw.LzFinds': WHATEVER THE INPUT: true; the input reads as it did. -/
def lzFindsSpec : ChangeSpec := { name := "lzFinds", fn := fun _ => fun
  | [d] => { results := [.lit (.bool true)], args := [d] }
  | _ => none }
def lzFindsRow : OpenClaim := { program := "ytdoaogfpahjmmaa", sum := "46339f3f9140817ddcb99959d554bbd08be6d7122cc00968449299cdec1215bf", func := "linenpress/linenlaw.LzFinds", spec := "lzFinds", plainKeys := false, apart := false }
def LzFindsSaid : Prop := lzFindsRow.holds Try.pinned (OpenSpec.ofChange lzFindsSpec)

/-- ITS FALSE NEIGHBOUR: 'it returns false'. Refute it at one input. -/
def lzFindsWrong : ChangeSpec := { name := "lzFinds", fn := fun _ => fun
  | [d] => { results := [.lit (.bool false)], args := [d] }
  | _ => none }
def LzFindsWrongFalsely : Prop := lzFindsRow.holds Try.pinned (OpenSpec.ofChange lzFindsWrong)

/-- 'linenlaw.LensCanons': WHATEVER THE INPUT: true; the input reads as it did. -/
def lensCanonsSpec : ChangeSpec := { name := "lensCanons", fn := fun _ => fun
  | [d] => { results := [.lit (.bool true)], args := [d] }
  | _ => none }
def lensCanonsRow : OpenClaim := { program := "ytdoaogfpahjmmaa", sum := "46339f3f9140817ddcb99959d554bbd08be6d7122cc00968449299cdec1215bf", func := "linenpress/linenlaw.LensCanons", spec := "lensCanons", plainKeys := false, apart := false }
def LensCanonsSaid : Prop := lensCanonsRow.holds Try.pinned (OpenSpec.ofChange lensCanonsSpec)

/-- ITS FALSE NEIGHBOUR: 'it returns false'. Refute it at one input. -/
def lensCanonsWrong : ChangeSpec := { name := "lensCanons", fn := fun _ => fun
  | [d] => { results := [.lit (.bool false)], args := [d] }
  | _ => none }
def LensCanonsWrongFalsely : Prop := lensCanonsRow.holds Try.pinned (OpenSpec.ofChange lensCanonsWrong)

/-- 'linenlaw.RunsReads': WHATEVER THE INPUT: true; the input reads as it did. -/
def runsReadsSpec : ChangeSpec := { name := "runsReads", fn := fun _ => fun
  | [d] => { results := [.lit (.bool true)], args := [d] }
  | _ => none }
def runsReadsRow : OpenClaim := { program := "ytdoaogfpahjmmaa", sum := "46339f3f9140817ddcb99959d554bbd08be6d7122cc00968449299cdec1215bf", func := "linenpress/linenlaw.RunsReads", spec := "runsReads", plainKeys := false, apart := false }
def RunsReadsSaid : Prop := runsReadsRow.holds Try.pinned (OpenSpec.ofChange runsReadsSpec)

/-- ITS FALSE NEIGHBOUR: 'it returns false'. Refute it at one input. -/
def runsReadsWrong : ChangeSpec := { name := "runsReads", fn := fun _ => fun
  | [d] => { results := [.lit (.bool false)], args := [d] }
  | _ => none }
def RunsReadsWrongFalsely : Prop := runsReadsRow.holds Try.pinned (OpenSpec.ofChange runsReadsWrong)

/-- 'linenlaw.CodeWrites': WHATEVER THE INPUT: true; the input reads as it did. -/
def codeWritesSpec : ChangeSpec := { name := "codeWrites", fn := fun _ => fun
  | [d1, d2] => { results := [.lit (.bool true)], args := [d1, d2] }
  | _ => none }
def codeWritesRow : OpenClaim := { program := "ytdoaogfpahjmmaa", sum := "46339f3f9140817ddcb99959d554bbd08be6d7122cc00968449299cdec1215bf", func := "linenpress/linenlaw.CodeWrites", spec := "codeWrites", plainKeys := false, apart := false }
def CodeWritesSaid : Prop := codeWritesRow.holds Try.pinned (OpenSpec.ofChange codeWritesSpec)

/-- ITS FALSE NEIGHBOUR: 'it returns false'. Refute it at one input. -/
def codeWritesWrong : ChangeSpec := { name := "codeWrites", fn := fun _ => fun
  | [d1, d2] => { results := [.lit (.bool false)], args := [d1, d2] }
  | _ => none }
def CodeWritesWrongFalsely : Prop := codeWritesRow.holds Try.pinned (OpenSpec.ofChange codeWritesWrong)

/-- 'linenlaw.CodeReads': WHATEVER THE INPUT: true; the input reads as it did. -/
def codeReadsSpec : ChangeSpec := { name := "codeReads", fn := fun _ => fun
  | [d1, d2, d3, d4] => { results := [.lit (.bool true)], args := [d1, d2, d3, d4] }
  | _ => none }
def codeReadsRow : OpenClaim := { program := "ytdoaogfpahjmmaa", sum := "46339f3f9140817ddcb99959d554bbd08be6d7122cc00968449299cdec1215bf", func := "linenpress/linenlaw.CodeReads", spec := "codeReads", plainKeys := false, apart := false }
def CodeReadsSaid : Prop := codeReadsRow.holds Try.pinned (OpenSpec.ofChange codeReadsSpec)

/-- ITS FALSE NEIGHBOUR: 'it returns false'. Refute it at one input. -/
def codeReadsWrong : ChangeSpec := { name := "codeReads", fn := fun _ => fun
  | [d1, d2, d3, d4] => { results := [.lit (.bool false)], args := [d1, d2, d3, d4] }
  | _ => none }
def CodeReadsWrongFalsely : Prop := codeReadsRow.holds Try.pinned (OpenSpec.ofChange codeReadsWrong)

/-- 'linenlaw.HuffTakes': WHATEVER THE INPUT: true; the input reads as it did. -/
def huffTakesSpec : ChangeSpec := { name := "huffTakes", fn := fun _ => fun
  | [d1, d2] => { results := [.lit (.bool true)], args := [d1, d2] }
  | _ => none }
def huffTakesRow : OpenClaim := { program := "ytdoaogfpahjmmaa", sum := "46339f3f9140817ddcb99959d554bbd08be6d7122cc00968449299cdec1215bf", func := "linenpress/linenlaw.HuffTakes", spec := "huffTakes", unfollowed := true, recurses := true, plainKeys := false, leaving := true, apart := false }
def HuffTakesSaid : Prop := huffTakesRow.holds Try.pinned (OpenSpec.ofChange huffTakesSpec)

/-- ITS FALSE NEIGHBOUR: 'it returns false'. Refute it at one input. -/
def huffTakesWrong : ChangeSpec := { name := "huffTakes", fn := fun _ => fun
  | [d1, d2] => { results := [.lit (.bool false)], args := [d1, d2] }
  | _ => none }
def HuffTakesWrongFalsely : Prop := huffTakesRow.holds Try.pinned (OpenSpec.ofChange huffTakesWrong)

/-- 'linenlaw.PressOpens': WHATEVER THE INPUT: true; the input reads as it did. -/
def pressOpensSpec : ChangeSpec := { name := "pressOpens", fn := fun _ => fun
  | [d] => { results := [.lit (.bool true)], args := [d] }
  | _ => none }
def pressOpensRow : OpenClaim := { program := "ytdoaogfpahjmmaa", sum := "46339f3f9140817ddcb99959d554bbd08be6d7122cc00968449299cdec1215bf", func := "linenpress/linenlaw.PressOpens", spec := "pressOpens", inPlace := ["internal/abi.NoEscape", "internal/bytealg.MakeNoZero"], unfollowed := true, recurses := true, plainKeys := false, leaving := true, apart := false }
def PressOpensSaid : Prop := pressOpensRow.holds Try.pinned (OpenSpec.ofChange pressOpensSpec)

/-- ITS FALSE NEIGHBOUR: 'it returns false'. Refute it at one input. -/
def pressOpensWrong : ChangeSpec := { name := "pressOpens", fn := fun _ => fun
  | [d] => { results := [.lit (.bool false)], args := [d] }
  | _ => none }
def PressOpensWrongFalsely : Prop := pressOpensRow.holds Try.pinned (OpenSpec.ofChange pressOpensWrong)

/-- 'linenlaw.CrewOpens': WHATEVER THE INPUT: true; the input reads as it did. -/
def crewOpensSpec : ChangeSpec := { name := "crewOpens", fn := fun _ => fun
  | [d1, d2] => { results := [.lit (.bool true)], args := [d1, d2] }
  | _ => none }
def crewOpensRow : OpenClaim := { program := "ytdoaogfpahjmmaa", sum := "46339f3f9140817ddcb99959d554bbd08be6d7122cc00968449299cdec1215bf", func := "linenpress/linenlaw.CrewOpens", spec := "crewOpens", inPlace := ["(*sync.WaitGroup).Add", "internal/race.ReleaseMerge", "internal/race.Disable", "internal/race.Enable", "internal/synctest.IsInBubble", "internal/synctest.Associate[sync.WaitGroup]", "sync.fatal", "sync/atomic.OrUint64", "sync/atomic.AddUint64", "internal/race.Read", "sync/atomic.LoadUint64", "sync/atomic.StoreUint64", "internal/synctest.Disassociate[sync.WaitGroup]", "sync.runtime_Semrelease", "(*sync.WaitGroup).Done", "(*sync.WaitGroup).Wait", "internal/race.Acquire", "internal/synctest.IsAssociated[sync.WaitGroup]", "sync/atomic.CompareAndSwapUint64", "internal/race.Write", "sync.runtime_SemacquireWaitGroup", "internal/abi.NoEscape", "internal/bytealg.MakeNoZero"], unfollowed := true, recurses := true, plainKeys := false, leaving := true, apart := false }
def CrewOpensSaid : Prop := crewOpensRow.holds Try.pinned (OpenSpec.ofChange crewOpensSpec)

/-- ITS FALSE NEIGHBOUR: 'it returns false'. Refute it at one input. -/
def crewOpensWrong : ChangeSpec := { name := "crewOpens", fn := fun _ => fun
  | [d1, d2] => { results := [.lit (.bool false)], args := [d1, d2] }
  | _ => none }
def CrewOpensWrongFalsely : Prop := crewOpensRow.holds Try.pinned (OpenSpec.ofChange crewOpensWrong)

/-- 'linenlaw.BitsUnpacks': WHATEVER THE INPUT: true; the input reads as it did. -/
def bitsUnpacksSpec : ChangeSpec := { name := "bitsUnpacks", fn := fun _ => fun
  | [d1, d2] => { results := [.lit (.bool true)], args := [d1, d2] }
  | _ => none }
def bitsUnpacksRow : OpenClaim := { program := "ytdoaogfpahjmmaa", sum := "46339f3f9140817ddcb99959d554bbd08be6d7122cc00968449299cdec1215bf", func := "linenpress/linenlaw.BitsUnpacks", spec := "bitsUnpacks", unfollowed := true, recurses := true, plainKeys := false, leaving := true, apart := false }
def BitsUnpacksSaid : Prop := bitsUnpacksRow.holds Try.pinned (OpenSpec.ofChange bitsUnpacksSpec)

/-- ITS FALSE NEIGHBOUR: 'it returns false'. Refute it at one input. -/
def bitsUnpacksWrong : ChangeSpec := { name := "bitsUnpacks", fn := fun _ => fun
  | [d1, d2] => { results := [.lit (.bool false)], args := [d1, d2] }
  | _ => none }
def BitsUnpacksWrongFalsely : Prop := bitsUnpacksRow.holds Try.pinned (OpenSpec.ofChange bitsUnpacksWrong)

/- THE SECOND FORM. 'bulk': how many values and letters a reading holds, each counted each time it is reached (what is shared counts as often as it is met; a slice's spare places count too). A statement '..UptoSaid' is the law's where the arguments, and the package variables that the reading takes, are together of bulk at most 1048576: NARROWER than '..Said'. Prove '..Said' where nothing that the law and all that it calls make is longer than what came in: it says more and counts as full. Else prove '..UptoSaid'. A law counts once. -/
mutual
def uptoBulk {H : Type} : DataW H → Nat
  | .lit (.string bytes) => bytes.length + 1
  | .lit _ => 1
  | .nil => 1
  | .ptr d => uptoBulk d + 1
  | .slice elems spare => uptoBulkAll elems + uptoBulkAll spare + 1
  | .agg parts => uptoBulkAll parts + 1
  | .iface _ d => uptoBulk d + 1
  | .map entries => uptoBulkEntries entries + 1
  | .held _ => 1
def uptoBulkAll {H : Type} : List (DataW H) → Nat
  | [] => 0
  | d :: r => uptoBulk d + uptoBulkAll r
def uptoBulkEntries {H : Type} : List (Lit × DataW H) → Nat
  | [] => 0
  | x :: r => uptoBulkEntry x + uptoBulkEntries r
def uptoBulkEntry {H : Type} : Lit × DataW H → Nat
  | (.string bytes, d) => bytes.length + uptoBulk d + 1
  | (_, d) => uptoBulk d + 1
 end
def uptoSmall : (H : Type) → List (DataW H) → Bool := fun _ ds => decide (uptoBulkAll ds ≤ 1048576)
def OpenSpec.upto (s : _root_.Go.ChangeSpec) : _root_.Go.OpenSpec := { _root_.Go.OpenSpec.ofChange s with cond := some uptoSmall }

/-- 'linenlaw.HuffCosts', WHERE WHAT IT READS IS OF BULK AT MOST 1048576: true; the input reads as it did. -/
def huffCostsUptoRow : OpenClaim := { program := "ytdoaogfpahjmmaa", sum := "46339f3f9140817ddcb99959d554bbd08be6d7122cc00968449299cdec1215bf", func := "linenpress/linenlaw.HuffCosts", spec := "huffCosts", plainKeys := false, apart := false, narrowed := true }
def HuffCostsUptoSaid : Prop := huffCostsUptoRow.holds Try.pinned (OpenSpec.upto huffCostsSpec)

/-- 'linenlaw.LzFinds', WHERE WHAT IT READS IS OF BULK AT MOST 1048576: true; the input reads as it did. -/
def lzFindsUptoRow : OpenClaim := { program := "ytdoaogfpahjmmaa", sum := "46339f3f9140817ddcb99959d554bbd08be6d7122cc00968449299cdec1215bf", func := "linenpress/linenlaw.LzFinds", spec := "lzFinds", plainKeys := false, apart := false, narrowed := true }
def LzFindsUptoSaid : Prop := lzFindsUptoRow.holds Try.pinned (OpenSpec.upto lzFindsSpec)

/-- 'linenlaw.LensCanons', WHERE WHAT IT READS IS OF BULK AT MOST 1048576: true; the input reads as it did. -/
def lensCanonsUptoRow : OpenClaim := { program := "ytdoaogfpahjmmaa", sum := "46339f3f9140817ddcb99959d554bbd08be6d7122cc00968449299cdec1215bf", func := "linenpress/linenlaw.LensCanons", spec := "lensCanons", plainKeys := false, apart := false, narrowed := true }
def LensCanonsUptoSaid : Prop := lensCanonsUptoRow.holds Try.pinned (OpenSpec.upto lensCanonsSpec)

/-- 'linenlaw.RunsReads', WHERE WHAT IT READS IS OF BULK AT MOST 1048576: true; the input reads as it did. -/
def runsReadsUptoRow : OpenClaim := { program := "ytdoaogfpahjmmaa", sum := "46339f3f9140817ddcb99959d554bbd08be6d7122cc00968449299cdec1215bf", func := "linenpress/linenlaw.RunsReads", spec := "runsReads", plainKeys := false, apart := false, narrowed := true }
def RunsReadsUptoSaid : Prop := runsReadsUptoRow.holds Try.pinned (OpenSpec.upto runsReadsSpec)

/-- 'linenlaw.CodeWrites', WHERE WHAT IT READS IS OF BULK AT MOST 1048576: true; the input reads as it did. -/
def codeWritesUptoRow : OpenClaim := { program := "ytdoaogfpahjmmaa", sum := "46339f3f9140817ddcb99959d554bbd08be6d7122cc00968449299cdec1215bf", func := "linenpress/linenlaw.CodeWrites", spec := "codeWrites", plainKeys := false, apart := false, narrowed := true }
def CodeWritesUptoSaid : Prop := codeWritesUptoRow.holds Try.pinned (OpenSpec.upto codeWritesSpec)

/-- 'linenlaw.CodeReads', WHERE WHAT IT READS IS OF BULK AT MOST 1048576: true; the input reads as it did. -/
def codeReadsUptoRow : OpenClaim := { program := "ytdoaogfpahjmmaa", sum := "46339f3f9140817ddcb99959d554bbd08be6d7122cc00968449299cdec1215bf", func := "linenpress/linenlaw.CodeReads", spec := "codeReads", plainKeys := false, apart := false, narrowed := true }
def CodeReadsUptoSaid : Prop := codeReadsUptoRow.holds Try.pinned (OpenSpec.upto codeReadsSpec)

/-- 'linenlaw.HuffTakes', WHERE WHAT IT READS IS OF BULK AT MOST 1048576: true; the input reads as it did. -/
def huffTakesUptoRow : OpenClaim := { program := "ytdoaogfpahjmmaa", sum := "46339f3f9140817ddcb99959d554bbd08be6d7122cc00968449299cdec1215bf", func := "linenpress/linenlaw.HuffTakes", spec := "huffTakes", unfollowed := true, recurses := true, plainKeys := false, leaving := true, apart := false, narrowed := true }
def HuffTakesUptoSaid : Prop := huffTakesUptoRow.holds Try.pinned (OpenSpec.upto huffTakesSpec)

/-- 'linenlaw.PressOpens', WHERE WHAT IT READS IS OF BULK AT MOST 1048576: true; the input reads as it did. -/
def pressOpensUptoRow : OpenClaim := { program := "ytdoaogfpahjmmaa", sum := "46339f3f9140817ddcb99959d554bbd08be6d7122cc00968449299cdec1215bf", func := "linenpress/linenlaw.PressOpens", spec := "pressOpens", inPlace := ["internal/abi.NoEscape", "internal/bytealg.MakeNoZero"], unfollowed := true, recurses := true, plainKeys := false, leaving := true, apart := false, narrowed := true }
def PressOpensUptoSaid : Prop := pressOpensUptoRow.holds Try.pinned (OpenSpec.upto pressOpensSpec)

/-- 'linenlaw.CrewOpens', WHERE WHAT IT READS IS OF BULK AT MOST 1048576: true; the input reads as it did. -/
def crewOpensUptoRow : OpenClaim := { program := "ytdoaogfpahjmmaa", sum := "46339f3f9140817ddcb99959d554bbd08be6d7122cc00968449299cdec1215bf", func := "linenpress/linenlaw.CrewOpens", spec := "crewOpens", inPlace := ["(*sync.WaitGroup).Add", "internal/race.ReleaseMerge", "internal/race.Disable", "internal/race.Enable", "internal/synctest.IsInBubble", "internal/synctest.Associate[sync.WaitGroup]", "sync.fatal", "sync/atomic.OrUint64", "sync/atomic.AddUint64", "internal/race.Read", "sync/atomic.LoadUint64", "sync/atomic.StoreUint64", "internal/synctest.Disassociate[sync.WaitGroup]", "sync.runtime_Semrelease", "(*sync.WaitGroup).Done", "(*sync.WaitGroup).Wait", "internal/race.Acquire", "internal/synctest.IsAssociated[sync.WaitGroup]", "sync/atomic.CompareAndSwapUint64", "internal/race.Write", "sync.runtime_SemacquireWaitGroup", "internal/abi.NoEscape", "internal/bytealg.MakeNoZero"], unfollowed := true, recurses := true, plainKeys := false, leaving := true, apart := false, narrowed := true }
def CrewOpensUptoSaid : Prop := crewOpensUptoRow.holds Try.pinned (OpenSpec.upto crewOpensSpec)

/-- 'linenlaw.BitsUnpacks', WHERE WHAT IT READS IS OF BULK AT MOST 1048576: true; the input reads as it did. -/
def bitsUnpacksUptoRow : OpenClaim := { program := "ytdoaogfpahjmmaa", sum := "46339f3f9140817ddcb99959d554bbd08be6d7122cc00968449299cdec1215bf", func := "linenpress/linenlaw.BitsUnpacks", spec := "bitsUnpacks", unfollowed := true, recurses := true, plainKeys := false, leaving := true, apart := false, narrowed := true }
def BitsUnpacksUptoSaid : Prop := bitsUnpacksUptoRow.holds Try.pinned (OpenSpec.upto bitsUnpacksSpec)

end Rows
end Go.Proofs.Ytdoaogfpahjmmaa
