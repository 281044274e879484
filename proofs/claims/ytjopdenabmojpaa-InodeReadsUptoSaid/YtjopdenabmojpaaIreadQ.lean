/- Inodes read from bytes: the answer: plain. -/
import Derived.Test.YtjopdenabmojpaaIreadP
namespace Go.Proofs.Ytjopdenabmojpaa
open Go.RowKit Go.PlainAid

def IrOk (s : ByteArray) : Prop := 7 ≤ s.size ∧ s.size % 2 = 1 ∧ inoE (iK s) (iG s) (iS s) (iP s (iN s)) = 0
open Classical in
noncomputable def irK (s : ByteArray) : Int := if IrOk s then iK s else 0
open Classical in
noncomputable def irG (s : ByteArray) : Int := if IrOk s then iG s else 0
open Classical in
noncomputable def irS (s : ByteArray) : Int := if IrOk s then iS s else 0
open Classical in
noncomputable def irE (s : ByteArray) : Int := if IrOk s then 0 else 4
open Classical in
noncomputable def irP (s : ByteArray) : List PlaceD := if IrOk s then iP s (iN s) else []
theorem ir_bad {s : ByteArray} (h : ¬ IrOk s) : irK s = 0 ∧ irG s = 0 ∧ irS s = 0 ∧ irE s = 4 ∧ irP s = [] := by
  unfold irK irG irS irE irP; simp only [if_neg h, and_self]
theorem ir_ok {s : ByteArray} (h : IrOk s) : irK s = iK s ∧ irG s = iG s ∧ irS s = iS s ∧ irE s = 0 ∧ irP s = iP s (iN s) := by
  unfold irK irG irS irE irP; simp only [if_pos h, and_self]
theorem iN_eq (s : ByteArray) : 7 ≤ s.size → 7 + 2 * iN s ≤ s.size ∧ s.size < 9 + 2 * iN s := by
  intro h; unfold iN; omega
end Go.Proofs.Ytjopdenabmojpaa
