/- Inodes read from bytes: the answer: plain. -/
import Derived.Test.YtjmgocfoimhmjaaInodeR
import Derived.Test.YtjmgocfoimhmjaaBtP
/- Inodes read from bytes: plain. -/
namespace Go.Proofs.Ytjmgocfoimhmjaa
open Go.RowKit Go.PlainAid

/-- The three numbers of an inode's head. -/
def iK (s : ByteArray) : Int := bt s 0
def iG (s : ByteArray) : Int := beF (fun i => bt s (1 + i)) 4
def iS (s : ByteArray) : Int := beF (fun i => bt s (5 + i)) 2
theorem unfix_G (s : ByteArray) (h : 7 ≤ s.size) : unfixV (s.extract 1 5) = iG s := by
  have hz := extract_size s 1 5 (by omega)
  rw [(unfix_ok (by omega)).1, hz]
  exact beF_congr _ _ 4 fun i hi => bt_extract s 1 5 i (by omega) (by omega)
theorem unfix_S (s : ByteArray) (h : 7 ≤ s.size) : unfixV (s.extract 5 7) = iS s := by
  have hz := extract_size s 5 7 (by omega)
  rw [(unfix_ok (by omega)).1, hz]
  exact beF_congr _ _ 2 fun i hi => bt_extract s 5 7 i (by omega) (by omega)
theorem iG_bd (s : ByteArray) : 0 ≤ iG s ∧ iG s < 4294967296 := beF_bd _ (fun j => bt_nonneg s _) (fun j => bt_le s _) 4
theorem iS_bd (s : ByteArray) : 0 ≤ iS s ∧ iS s < 65536 := beF_bd _ (fun j => bt_nonneg s _) (fun j => bt_le s _) 2
def iP (s : ByteArray) (k : Nat) : List PlaceD := (List.range k).map fun i => ⟨bt s (7 + 2 * i), bt s (8 + 2 * i)⟩
theorem iP_length (s : ByteArray) (k : Nat) : (iP s k).length = k := by simp [iP]
theorem iP_succ (s : ByteArray) (k : Nat) : iP s (k + 1) = iP s k ++ [⟨bt s (7 + 2 * k), bt s (8 + 2 * k)⟩] := by simp [iP, List.range_succ]
def iN (s : ByteArray) : Nat := (s.size - 7) / 2
theorem parts_btL (s : ByteArray) : ∀ k, btL s 7 ++ partsL (iP s k) = btL s (7 + 2 * k)
  | 0 => by simp [iP, partsL]
  | k + 1 => by
    rw [iP_succ, partsL_append, ← List.append_assoc, parts_btL s k, show 7 + 2 * (k + 1) = 7 + 2 * k + 1 + 1 by omega, btL_succ, btL_succ]
    simp [partsL, show 7 + 2 * k + 1 = 8 + 2 * k by omega]
theorem inoL_back (s : ByteArray) (k : Nat) : inoL (iK s) (iG s) (iS s) (iP s k) = btL s (7 + 2 * k) := by
  rw [← parts_btL]
  unfold inoL
  have a := fix4_back (fun i => bt s (1 + i)) (fun j => bt_nonneg s _) (fun j => bt_le s _)
  have b := fix2_back (fun i => bt s (5 + i)) (fun j => bt_nonneg s _) (fun j => bt_le s _)
  have c : fixL 1 (iK s) = [bt s 0] := by
    have h0 := bt_nonneg s 0; have h1 := bt_le s 0
    simp [fixL, iK]; omega
  rw [show iG s = beF (fun i => bt s (1 + i)) 4 from rfl, show iS s = beF (fun i => bt s (5 + i)) 2 from rfl, a, b, c]
  congr 1
end Go.Proofs.Ytjmgocfoimhmjaa

namespace Go.Proofs.Ytjmgocfoimhmjaa
open Go.RowKit Go.PlainAid

def IrOk (s : ByteArray) : Prop := 7 ≤ s.size ∧ s.size % 2 = 1 ∧ inoE (iK s) (iG s) (iS s) (iP s (iN s)) = 0
open Classical in
noncomputable def irK (s : ByteArray) : Int := if IrOk s then iK s else 0
open Classical in
noncomputable def irG (s : ByteArray) : Int := if IrOk s then iG s else 0
open Classical in
noncomputable def irS (s : ByteArray) : Int := if IrOk s then iS s else 0
open Classical in
noncomputable def irE (s : ByteArray) : Int := if IrOk s then 0 else 4
open Classical in
noncomputable def irP (s : ByteArray) : List PlaceD := if IrOk s then iP s (iN s) else []
theorem ir_bad {s : ByteArray} (h : ¬ IrOk s) : irK s = 0 ∧ irG s = 0 ∧ irS s = 0 ∧ irE s = 4 ∧ irP s = [] := by
  unfold irK irG irS irE irP; simp only [if_neg h, and_self]
theorem ir_ok {s : ByteArray} (h : IrOk s) : irK s = iK s ∧ irG s = iG s ∧ irS s = iS s ∧ irE s = 0 ∧ irP s = iP s (iN s) := by
  unfold irK irG irS irE irP; simp only [if_pos h, and_self]
theorem iN_eq (s : ByteArray) : 7 ≤ s.size → 7 + 2 * iN s ≤ s.size ∧ s.size < 9 + 2 * iN s := by
  intro h; unfold iN; omega
end Go.Proofs.Ytjmgocfoimhmjaa
