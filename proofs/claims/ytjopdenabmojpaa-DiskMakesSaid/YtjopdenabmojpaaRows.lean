/-
  No cell of these rows narrows 'for every input' (looked for: loops, veiled, ifaces, maps, wideKeys, modest, calm, conditions, laid).
  DERIVED. THE GIVEN ROWS OF THIS SEAT. 11 by the template 'for every input the law returns true; each argument reads behind the call as it read before'; 0 by the template 'total and deterministic' (their statements: YtjopdenabmojpaaTotals.lean).
  GIVEN WITH THE SEED: the statements are not yours to turn. If you find one false, say at which input.
  Laid BY PROGRAM, IN A SANDBOX (cutbox-rows.mjs): the forced cells as the released guide's own fill.sh prints them over the translation e5ccff4df1f87e91… (all of the seat's roots in one cut). By AI agents, Wed Nov 11 2026. No macro, syntax, notation, axiom, sorry.
-/
import Derived.Test.YtjopdenabmojpaaChecked
import GoSem.Claim
import GoSem.ClaimJoined
import GoSem.ClaimMapViews
import Derived.JoinedTies
import Derived.KernelRfl
namespace Go.Proofs.Ytjopdenabmojpaa
/- THE CELL 'sum', in the pinned program and in every row, IS THE sha256 OF THE DUMP (.gsa) THAT YtjopdenabmojpaaProg.lean LOADS. Nothing in Lean hashes anything: it is a label: what it is worth is what the hold of that sum in a sandbox is worth. -/
noncomputable def Try.pinned : Pinned := { name := "ytjopdenabmojpaa", sum := "e5ccff4df1f87e91c1ecce37530606d1f9cc2f35c50684659935276b8f378dc6", checked := Try.checked }
namespace Rows
def none {H : Type} : Left H := { results := [], args := [] }

/-- 'linenlaw.OpsLeans': WHATEVER THE INPUT: true; the input reads as it did. -/
def opsLeansSpec : ChangeSpec := { name := "opsLeans", fn := fun _ => fun
  | [d] => { results := [.lit (.bool true)], args := [d] }
  | _ => none }
def opsLeansRow : OpenClaim := { program := "ytjopdenabmojpaa", sum := "e5ccff4df1f87e91c1ecce37530606d1f9cc2f35c50684659935276b8f378dc6", func := "linenpress/linenlaw.OpsLeans", spec := "opsLeans", apart := false }
def OpsLeansSaid : Prop := opsLeansRow.holds Try.pinned (OpenSpec.ofChange opsLeansSpec)

/-- ITS FALSE NEIGHBOUR: 'it returns false'. Refute it at one input. -/
def opsLeansWrong : ChangeSpec := { name := "opsLeans", fn := fun _ => fun
  | [d] => { results := [.lit (.bool false)], args := [d] }
  | _ => none }
def OpsLeansWrongFalsely : Prop := opsLeansRow.holds Try.pinned (OpenSpec.ofChange opsLeansWrong)

/-- 'linenlaw.DiskMakes': WHATEVER THE INPUT: true; the input reads as it did. -/
def diskMakesSpec : ChangeSpec := { name := "diskMakes", fn := fun _ => fun
  | [d1, d2] => { results := [.lit (.bool true)], args := [d1, d2] }
  | _ => none }
def diskMakesRow : OpenClaim := { program := "ytjopdenabmojpaa", sum := "e5ccff4df1f87e91c1ecce37530606d1f9cc2f35c50684659935276b8f378dc6", func := "linenpress/linenlaw.DiskMakes", spec := "diskMakes", unfollowed := true, recurses := true, apart := false }
def DiskMakesSaid : Prop := diskMakesRow.holds Try.pinned (OpenSpec.ofChange diskMakesSpec)

/-- ITS FALSE NEIGHBOUR: 'it returns false'. Refute it at one input. -/
def diskMakesWrong : ChangeSpec := { name := "diskMakes", fn := fun _ => fun
  | [d1, d2] => { results := [.lit (.bool false)], args := [d1, d2] }
  | _ => none }
def DiskMakesWrongFalsely : Prop := diskMakesRow.holds Try.pinned (OpenSpec.ofChange diskMakesWrong)

/-- 'linenlaw.DiskLands': WHATEVER THE INPUT: true; the input reads as it did. -/
def diskLandsSpec : ChangeSpec := { name := "diskLands", fn := fun _ => fun
  | [d1, d2] => { results := [.lit (.bool true)], args := [d1, d2] }
  | _ => none }
def diskLandsRow : OpenClaim := { program := "ytjopdenabmojpaa", sum := "e5ccff4df1f87e91c1ecce37530606d1f9cc2f35c50684659935276b8f378dc6", func := "linenpress/linenlaw.DiskLands", spec := "diskLands", unfollowed := true, recurses := true, apart := false }
def DiskLandsSaid : Prop := diskLandsRow.holds Try.pinned (OpenSpec.ofChange diskLandsSpec)

/-- ITS FALSE NEIGHBOUR: 'it returns false'. Refute it at one input. -/
def diskLandsWrong : ChangeSpec := { name := "diskLands", fn := fun _ => fun
  | [d1, d2] => { results := [.lit (.bool false)], args := [d1, d2] }
  | _ => none }
def DiskLandsWrongFalsely : Prop := diskLandsRow.holds Try.pinned (OpenSpec.ofChange diskLandsWrong)

/-- 'linenlaw.DiskWrites': WHATEVER THE INPUT: true; the input reads as it did. -/
def diskWritesSpec : ChangeSpec := { name := "diskWrites", fn := fun _ => fun
  | [d1, d2, d3] => { results := [.lit (.bool true)], args := [d1, d2, d3] }
  | _ => none }
def diskWritesRow : OpenClaim := { program := "ytjopdenabmojpaa", sum := "e5ccff4df1f87e91c1ecce37530606d1f9cc2f35c50684659935276b8f378dc6", func := "linenpress/linenlaw.DiskWrites", spec := "diskWrites", unfollowed := true, recurses := true, apart := false }
def DiskWritesSaid : Prop := diskWritesRow.holds Try.pinned (OpenSpec.ofChange diskWritesSpec)

/-- ITS FALSE NEIGHBOUR: 'it returns false'. Refute it at one input. -/
def diskWritesWrong : ChangeSpec := { name := "diskWrites", fn := fun _ => fun
  | [d1, d2, d3] => { results := [.lit (.bool false)], args := [d1, d2, d3] }
  | _ => none }
def DiskWritesWrongFalsely : Prop := diskWritesRow.holds Try.pinned (OpenSpec.ofChange diskWritesWrong)

/-- 'linenlaw.OpsPlays': WHATEVER THE INPUT: true; the input reads as it did. -/
def opsPlaysSpec : ChangeSpec := { name := "opsPlays", fn := fun _ => fun
  | [d1, d2, d3, d4] => { results := [.lit (.bool true)], args := [d1, d2, d3, d4] }
  | _ => none }
def opsPlaysRow : OpenClaim := { program := "ytjopdenabmojpaa", sum := "e5ccff4df1f87e91c1ecce37530606d1f9cc2f35c50684659935276b8f378dc6", func := "linenpress/linenlaw.OpsPlays", spec := "opsPlays", unfollowed := true, recurses := true, apart := false }
def OpsPlaysSaid : Prop := opsPlaysRow.holds Try.pinned (OpenSpec.ofChange opsPlaysSpec)

/-- ITS FALSE NEIGHBOUR: 'it returns false'. Refute it at one input. -/
def opsPlaysWrong : ChangeSpec := { name := "opsPlays", fn := fun _ => fun
  | [d1, d2, d3, d4] => { results := [.lit (.bool false)], args := [d1, d2, d3, d4] }
  | _ => none }
def OpsPlaysWrongFalsely : Prop := opsPlaysRow.holds Try.pinned (OpenSpec.ofChange opsPlaysWrong)

/-- 'linenlaw.ImapTakes': WHATEVER THE INPUT: true; the input reads as it did. -/
def imapTakesSpec : ChangeSpec := { name := "imapTakes", fn := fun _ => fun
  | [d] => { results := [.lit (.bool true)], args := [d] }
  | _ => none }
def imapTakesRow : OpenClaim := { program := "ytjopdenabmojpaa", sum := "e5ccff4df1f87e91c1ecce37530606d1f9cc2f35c50684659935276b8f378dc6", func := "linenpress/linenlaw.ImapTakes", spec := "imapTakes", apart := false }
def ImapTakesSaid : Prop := imapTakesRow.holds Try.pinned (OpenSpec.ofChange imapTakesSpec)

/-- ITS FALSE NEIGHBOUR: 'it returns false'. Refute it at one input. -/
def imapTakesWrong : ChangeSpec := { name := "imapTakes", fn := fun _ => fun
  | [d] => { results := [.lit (.bool false)], args := [d] }
  | _ => none }
def ImapTakesWrongFalsely : Prop := imapTakesRow.holds Try.pinned (OpenSpec.ofChange imapTakesWrong)

/-- 'linenlaw.ImapSays': WHATEVER THE INPUT: true; the input reads as it did. -/
def imapSaysSpec : ChangeSpec := { name := "imapSays", fn := fun _ => fun
  | [d] => { results := [.lit (.bool true)], args := [d] }
  | _ => none }
def imapSaysRow : OpenClaim := { program := "ytjopdenabmojpaa", sum := "e5ccff4df1f87e91c1ecce37530606d1f9cc2f35c50684659935276b8f378dc6", func := "linenpress/linenlaw.ImapSays", spec := "imapSays", recurses := true, apart := false }
def ImapSaysSaid : Prop := imapSaysRow.holds Try.pinned (OpenSpec.ofChange imapSaysSpec)

/-- ITS FALSE NEIGHBOUR: 'it returns false'. Refute it at one input. -/
def imapSaysWrong : ChangeSpec := { name := "imapSays", fn := fun _ => fun
  | [d] => { results := [.lit (.bool false)], args := [d] }
  | _ => none }
def ImapSaysWrongFalsely : Prop := imapSaysRow.holds Try.pinned (OpenSpec.ofChange imapSaysWrong)

/-- 'linenlaw.ImapSets': WHATEVER THE INPUT: true; the input reads as it did. -/
def imapSetsSpec : ChangeSpec := { name := "imapSets", fn := fun _ => fun
  | [d1, d2, d3] => { results := [.lit (.bool true)], args := [d1, d2, d3] }
  | _ => none }
def imapSetsRow : OpenClaim := { program := "ytjopdenabmojpaa", sum := "e5ccff4df1f87e91c1ecce37530606d1f9cc2f35c50684659935276b8f378dc6", func := "linenpress/linenlaw.ImapSets", spec := "imapSets", apart := false }
def ImapSetsSaid : Prop := imapSetsRow.holds Try.pinned (OpenSpec.ofChange imapSetsSpec)

/-- ITS FALSE NEIGHBOUR: 'it returns false'. Refute it at one input. -/
def imapSetsWrong : ChangeSpec := { name := "imapSets", fn := fun _ => fun
  | [d1, d2, d3] => { results := [.lit (.bool false)], args := [d1, d2, d3] }
  | _ => none }
def ImapSetsWrongFalsely : Prop := imapSetsRow.holds Try.pinned (OpenSpec.ofChange imapSetsWrong)

/-- 'linenlaw.ImapReads': WHATEVER THE INPUT: true; the input reads as it did. -/
def imapReadsSpec : ChangeSpec := { name := "imapReads", fn := fun _ => fun
  | [d] => { results := [.lit (.bool true)], args := [d] }
  | _ => none }
def imapReadsRow : OpenClaim := { program := "ytjopdenabmojpaa", sum := "e5ccff4df1f87e91c1ecce37530606d1f9cc2f35c50684659935276b8f378dc6", func := "linenpress/linenlaw.ImapReads", spec := "imapReads", apart := false }
def ImapReadsSaid : Prop := imapReadsRow.holds Try.pinned (OpenSpec.ofChange imapReadsSpec)

/-- ITS FALSE NEIGHBOUR: 'it returns false'. Refute it at one input. -/
def imapReadsWrong : ChangeSpec := { name := "imapReads", fn := fun _ => fun
  | [d] => { results := [.lit (.bool false)], args := [d] }
  | _ => none }
def ImapReadsWrongFalsely : Prop := imapReadsRow.holds Try.pinned (OpenSpec.ofChange imapReadsWrong)

/-- 'linenlaw.InodeSays': WHATEVER THE INPUT: true; the input reads as it did. -/
def inodeSaysSpec : ChangeSpec := { name := "inodeSays", fn := fun _ => fun
  | [d1, d2] => { results := [.lit (.bool true)], args := [d1, d2] }
  | _ => none }
def inodeSaysRow : OpenClaim := { program := "ytjopdenabmojpaa", sum := "e5ccff4df1f87e91c1ecce37530606d1f9cc2f35c50684659935276b8f378dc6", func := "linenpress/linenlaw.InodeSays", spec := "inodeSays", apart := false }
def InodeSaysSaid : Prop := inodeSaysRow.holds Try.pinned (OpenSpec.ofChange inodeSaysSpec)

/-- ITS FALSE NEIGHBOUR: 'it returns false'. Refute it at one input. -/
def inodeSaysWrong : ChangeSpec := { name := "inodeSays", fn := fun _ => fun
  | [d1, d2] => { results := [.lit (.bool false)], args := [d1, d2] }
  | _ => none }
def InodeSaysWrongFalsely : Prop := inodeSaysRow.holds Try.pinned (OpenSpec.ofChange inodeSaysWrong)

/-- 'linenlaw.InodeReads': WHATEVER THE INPUT: true; the input reads as it did. -/
def inodeReadsSpec : ChangeSpec := { name := "inodeReads", fn := fun _ => fun
  | [d] => { results := [.lit (.bool true)], args := [d] }
  | _ => none }
def inodeReadsRow : OpenClaim := { program := "ytjopdenabmojpaa", sum := "e5ccff4df1f87e91c1ecce37530606d1f9cc2f35c50684659935276b8f378dc6", func := "linenpress/linenlaw.InodeReads", spec := "inodeReads", apart := false }
def InodeReadsSaid : Prop := inodeReadsRow.holds Try.pinned (OpenSpec.ofChange inodeReadsSpec)

/-- ITS FALSE NEIGHBOUR: 'it returns false'. Refute it at one input. -/
def inodeReadsWrong : ChangeSpec := { name := "inodeReads", fn := fun _ => fun
  | [d] => { results := [.lit (.bool false)], args := [d] }
  | _ => none }
def InodeReadsWrongFalsely : Prop := inodeReadsRow.holds Try.pinned (OpenSpec.ofChange inodeReadsWrong)

/- THE SECOND FORM. 'bulk': how many values and letters a reading holds, each counted each time it is reached (what is shared counts as often as it is met; a slice's spare places count too). A statement '..UptoSaid' is the law's where the arguments, and the package variables that the reading takes, are together of bulk at most 1048576: NARROWER than '..Said'. Prove '..Said' where nothing that the law and all that it calls make is longer than what came in: it says more and counts as full. Else prove '..UptoSaid'. A law counts once. -/
mutual
def uptoBulk {H : Type} : DataW H → Nat
  | .lit (.string bytes) => bytes.length + 1
  | .lit _ => 1
  | .nil => 1
  | .ptr d => uptoBulk d + 1
  | .slice elems spare => uptoBulkAll elems + uptoBulkAll spare + 1
  | .agg parts => uptoBulkAll parts + 1
  | .iface _ d => uptoBulk d + 1
  | .map entries => uptoBulkEntries entries + 1
  | .held _ => 1
def uptoBulkAll {H : Type} : List (DataW H) → Nat
  | [] => 0
  | d :: r => uptoBulk d + uptoBulkAll r
def uptoBulkEntries {H : Type} : List (Lit × DataW H) → Nat
  | [] => 0
  | x :: r => uptoBulkEntry x + uptoBulkEntries r
def uptoBulkEntry {H : Type} : Lit × DataW H → Nat
  | (.string bytes, d) => bytes.length + uptoBulk d + 1
  | (_, d) => uptoBulk d + 1
 end
def uptoSmall : (H : Type) → List (DataW H) → Bool := fun _ ds => decide (uptoBulkAll ds ≤ 1048576)
def OpenSpec.upto (s : _root_.Go.ChangeSpec) : _root_.Go.OpenSpec := { _root_.Go.OpenSpec.ofChange s with cond := some uptoSmall }

/-- 'linenlaw.OpsLeans', WHERE WHAT IT READS IS OF BULK AT MOST 1048576: true; the input reads as it did. -/
def opsLeansUptoRow : OpenClaim := { program := "ytjopdenabmojpaa", sum := "e5ccff4df1f87e91c1ecce37530606d1f9cc2f35c50684659935276b8f378dc6", func := "linenpress/linenlaw.OpsLeans", spec := "opsLeans", apart := false, narrowed := true }
def OpsLeansUptoSaid : Prop := opsLeansUptoRow.holds Try.pinned (OpenSpec.upto opsLeansSpec)

/-- 'linenlaw.DiskMakes', WHERE WHAT IT READS IS OF BULK AT MOST 1048576: true; the input reads as it did. -/
def diskMakesUptoRow : OpenClaim := { program := "ytjopdenabmojpaa", sum := "e5ccff4df1f87e91c1ecce37530606d1f9cc2f35c50684659935276b8f378dc6", func := "linenpress/linenlaw.DiskMakes", spec := "diskMakes", unfollowed := true, recurses := true, apart := false, narrowed := true }
def DiskMakesUptoSaid : Prop := diskMakesUptoRow.holds Try.pinned (OpenSpec.upto diskMakesSpec)

/-- 'linenlaw.DiskLands', WHERE WHAT IT READS IS OF BULK AT MOST 1048576: true; the input reads as it did. -/
def diskLandsUptoRow : OpenClaim := { program := "ytjopdenabmojpaa", sum := "e5ccff4df1f87e91c1ecce37530606d1f9cc2f35c50684659935276b8f378dc6", func := "linenpress/linenlaw.DiskLands", spec := "diskLands", unfollowed := true, recurses := true, apart := false, narrowed := true }
def DiskLandsUptoSaid : Prop := diskLandsUptoRow.holds Try.pinned (OpenSpec.upto diskLandsSpec)

/-- 'linenlaw.DiskWrites', WHERE WHAT IT READS IS OF BULK AT MOST 1048576: true; the input reads as it did. -/
def diskWritesUptoRow : OpenClaim := { program := "ytjopdenabmojpaa", sum := "e5ccff4df1f87e91c1ecce37530606d1f9cc2f35c50684659935276b8f378dc6", func := "linenpress/linenlaw.DiskWrites", spec := "diskWrites", unfollowed := true, recurses := true, apart := false, narrowed := true }
def DiskWritesUptoSaid : Prop := diskWritesUptoRow.holds Try.pinned (OpenSpec.upto diskWritesSpec)

/-- 'linenlaw.OpsPlays', WHERE WHAT IT READS IS OF BULK AT MOST 1048576: true; the input reads as it did. -/
def opsPlaysUptoRow : OpenClaim := { program := "ytjopdenabmojpaa", sum := "e5ccff4df1f87e91c1ecce37530606d1f9cc2f35c50684659935276b8f378dc6", func := "linenpress/linenlaw.OpsPlays", spec := "opsPlays", unfollowed := true, recurses := true, apart := false, narrowed := true }
def OpsPlaysUptoSaid : Prop := opsPlaysUptoRow.holds Try.pinned (OpenSpec.upto opsPlaysSpec)

/-- 'linenlaw.ImapTakes', WHERE WHAT IT READS IS OF BULK AT MOST 1048576: true; the input reads as it did. -/
def imapTakesUptoRow : OpenClaim := { program := "ytjopdenabmojpaa", sum := "e5ccff4df1f87e91c1ecce37530606d1f9cc2f35c50684659935276b8f378dc6", func := "linenpress/linenlaw.ImapTakes", spec := "imapTakes", apart := false, narrowed := true }
def ImapTakesUptoSaid : Prop := imapTakesUptoRow.holds Try.pinned (OpenSpec.upto imapTakesSpec)

/-- 'linenlaw.ImapSays', WHERE WHAT IT READS IS OF BULK AT MOST 1048576: true; the input reads as it did. -/
def imapSaysUptoRow : OpenClaim := { program := "ytjopdenabmojpaa", sum := "e5ccff4df1f87e91c1ecce37530606d1f9cc2f35c50684659935276b8f378dc6", func := "linenpress/linenlaw.ImapSays", spec := "imapSays", recurses := true, apart := false, narrowed := true }
def ImapSaysUptoSaid : Prop := imapSaysUptoRow.holds Try.pinned (OpenSpec.upto imapSaysSpec)

/-- 'linenlaw.ImapSets', WHERE WHAT IT READS IS OF BULK AT MOST 1048576: true; the input reads as it did. -/
def imapSetsUptoRow : OpenClaim := { program := "ytjopdenabmojpaa", sum := "e5ccff4df1f87e91c1ecce37530606d1f9cc2f35c50684659935276b8f378dc6", func := "linenpress/linenlaw.ImapSets", spec := "imapSets", apart := false, narrowed := true }
def ImapSetsUptoSaid : Prop := imapSetsUptoRow.holds Try.pinned (OpenSpec.upto imapSetsSpec)

/-- 'linenlaw.ImapReads', WHERE WHAT IT READS IS OF BULK AT MOST 1048576: true; the input reads as it did. -/
def imapReadsUptoRow : OpenClaim := { program := "ytjopdenabmojpaa", sum := "e5ccff4df1f87e91c1ecce37530606d1f9cc2f35c50684659935276b8f378dc6", func := "linenpress/linenlaw.ImapReads", spec := "imapReads", apart := false, narrowed := true }
def ImapReadsUptoSaid : Prop := imapReadsUptoRow.holds Try.pinned (OpenSpec.upto imapReadsSpec)

/-- 'linenlaw.InodeSays', WHERE WHAT IT READS IS OF BULK AT MOST 1048576: true; the input reads as it did. -/
def inodeSaysUptoRow : OpenClaim := { program := "ytjopdenabmojpaa", sum := "e5ccff4df1f87e91c1ecce37530606d1f9cc2f35c50684659935276b8f378dc6", func := "linenpress/linenlaw.InodeSays", spec := "inodeSays", apart := false, narrowed := true }
def InodeSaysUptoSaid : Prop := inodeSaysUptoRow.holds Try.pinned (OpenSpec.upto inodeSaysSpec)

/-- 'linenlaw.InodeReads', WHERE WHAT IT READS IS OF BULK AT MOST 1048576: true; the input reads as it did. -/
def inodeReadsUptoRow : OpenClaim := { program := "ytjopdenabmojpaa", sum := "e5ccff4df1f87e91c1ecce37530606d1f9cc2f35c50684659935276b8f378dc6", func := "linenpress/linenlaw.InodeReads", spec := "inodeReads", apart := false, narrowed := true }
def InodeReadsUptoSaid : Prop := inodeReadsUptoRow.holds Try.pinned (OpenSpec.upto inodeReadsSpec)

end Rows
end Go.Proofs.Ytjopdenabmojpaa
