/- A cell of the log, and a blob in it: plain. -/
import Derived.Test.YtjmgocfoimhmjaaOpenP
import Derived.Test.YtjmgocfoimhmjaaBreadP
import Derived.Test.YtjmgocfoimhmjaaDnowP
namespace Go.Proofs.Ytjmgocfoimhmjaa
open Go.RowKit

def scOk (t : ByteArray) : Prop := openE t = 0 ∧ openK t = 1
open Classical in
noncomputable def scN (t : ByteArray) : Int := if scOk t then openN t else 0
open Classical in
noncomputable def scL (t : ByteArray) : List BlobD := if scOk t then brL (openT t) else []
open Classical in
noncomputable def scB (t : ByteArray) : Bool := if scOk t then brB (openT t) else false
open Classical in
noncomputable def scO (t : ByteArray) : Bool := if scOk t then decide (brE (openT t) = 0) else false
theorem sc_bad {t : ByteArray} (h : ¬ scOk t) : scN t = 0 ∧ scL t = [] ∧ scB t = false ∧ scO t = false := by
  unfold scN scL scB scO; rw [if_neg h, if_neg h, if_neg h, if_neg h]; exact ⟨rfl, rfl, rfl, rfl⟩
theorem sc_ok {t : ByteArray} (h : scOk t) : scN t = openN t ∧ scL t = brL (openT t) ∧ scB t = brB (openT t) ∧ scO t = decide (brE (openT t) = 0) := by
  unfold scN scL scB scO; rw [if_pos h, if_pos h, if_pos h, if_pos h]; exact ⟨rfl, rfl, rfl, rfl⟩
noncomputable def ubE (cs : List ByteArray) (ws : List PutD) (pc pn : Int) : Int :=
  if pc < 2 ∨ (cs.length : Int) ≤ pc ∨ pn < 0 then 12 else if scO (nowS cs ws pc) = false then 18 else if ((scL (nowS cs ws pc)).length : Int) ≤ pn then 12 else 0
def zeroBlob : BlobD := ⟨0, 0, 0, ⟨#[]⟩⟩
noncomputable def ubB (cs : List ByteArray) (ws : List PutD) (pc pn : Int) : BlobD := if ubE cs ws pc pn = 0 then (scL (nowS cs ws pc)).getD pn.toNat zeroBlob else zeroBlob
section
variable {cs : List ByteArray} {ws : List PutD} {pc pn : Int}
theorem ub_zero {e : Int} (h : ubE cs ws pc pn = e) (h0 : e ≠ 0) : ubB cs ws pc pn = zeroBlob := by unfold ubB; rw [if_neg (by rw [h]; exact h0)]
theorem ub_out (h : pc < 2 ∨ (cs.length : Int) ≤ pc ∨ pn < 0) : ubE cs ws pc pn = 12 := if_pos h
theorem ub_corrupt (h : ¬ (pc < 2 ∨ (cs.length : Int) ≤ pc ∨ pn < 0)) (h2 : scO (nowS cs ws pc) = false) : ubE cs ws pc pn = 18 := by unfold ubE; rw [if_neg h, if_pos h2]
theorem ub_none (h : ¬ (pc < 2 ∨ (cs.length : Int) ≤ pc ∨ pn < 0)) (h2 : scO (nowS cs ws pc) = true) (h3 : ((scL (nowS cs ws pc)).length : Int) ≤ pn) : ubE cs ws pc pn = 12 := by unfold ubE; rw [if_neg h, if_neg (by rw [h2]; decide), if_pos h3]
theorem ub_ok (h : ¬ (pc < 2 ∨ (cs.length : Int) ≤ pc ∨ pn < 0)) (h2 : scO (nowS cs ws pc) = true) (h3 : ¬ ((scL (nowS cs ws pc)).length : Int) ≤ pn) : ubE cs ws pc pn = 0 ∧ ubB cs ws pc pn = (scL (nowS cs ws pc)).getD pn.toNat zeroBlob := by
  have e : ubE cs ws pc pn = 0 := by unfold ubE; rw [if_neg h, if_neg (by rw [h2]; decide), if_neg h3]
  exact ⟨e, by unfold ubB; rw [if_pos e]⟩
end
end Go.Proofs.Ytjmgocfoimhmjaa
