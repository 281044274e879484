/- Inodes read from bytes: plain. -/
import Derived.Test.YtjopdenabmojpaaInodeT
import Derived.Test.YtjopdenabmojpaaBtP
namespace Go.Proofs.Ytjopdenabmojpaa
open Go.RowKit Go.PlainAid

/-- The three numbers of an inode's head. -/
def iK (s : ByteArray) : Int := bt s 0
def iG (s : ByteArray) : Int := beF (fun i => bt s (1 + i)) 4
def iS (s : ByteArray) : Int := beF (fun i => bt s (5 + i)) 2
theorem unfix_G (s : ByteArray) (h : 7 ≤ s.size) : unfixV (s.extract 1 5) = iG s := by
  have hz := extract_size s 1 5 (by omega)
  rw [(unfix_ok (by omega)).1, hz]
  exact beF_congr _ _ 4 fun i hi => bt_extract s 1 5 i (by omega) (by omega)
theorem unfix_S (s : ByteArray) (h : 7 ≤ s.size) : unfixV (s.extract 5 7) = iS s := by
  have hz := extract_size s 5 7 (by omega)
  rw [(unfix_ok (by omega)).1, hz]
  exact beF_congr _ _ 2 fun i hi => bt_extract s 5 7 i (by omega) (by omega)
theorem iG_bd (s : ByteArray) : 0 ≤ iG s ∧ iG s < 4294967296 := beF_bd _ (fun j => bt_nonneg s _) (fun j => bt_le s _) 4
theorem iS_bd (s : ByteArray) : 0 ≤ iS s ∧ iS s < 65536 := beF_bd _ (fun j => bt_nonneg s _) (fun j => bt_le s _) 2
def iP (s : ByteArray) (k : Nat) : List PlaceD := (List.range k).map fun i => ⟨bt s (7 + 2 * i), bt s (8 + 2 * i)⟩
theorem iP_length (s : ByteArray) (k : Nat) : (iP s k).length = k := by simp [iP]
theorem iP_succ (s : ByteArray) (k : Nat) : iP s (k + 1) = iP s k ++ [⟨bt s (7 + 2 * k), bt s (8 + 2 * k)⟩] := by simp [iP, List.range_succ]
def iN (s : ByteArray) : Nat := (s.size - 7) / 2
theorem parts_btL (s : ByteArray) : ∀ k, btL s 7 ++ partsL (iP s k) = btL s (7 + 2 * k)
  | 0 => by simp [iP, partsL]
  | k + 1 => by
    rw [iP_succ, partsL_append, ← List.append_assoc, parts_btL s k, show 7 + 2 * (k + 1) = 7 + 2 * k + 1 + 1 by omega, btL_succ, btL_succ]
    simp [partsL, show 7 + 2 * k + 1 = 8 + 2 * k by omega]
theorem inoL_back (s : ByteArray) (k : Nat) : inoL (iK s) (iG s) (iS s) (iP s k) = btL s (7 + 2 * k) := by
  rw [← parts_btL]
  unfold inoL
  have a := fix4_back (fun i => bt s (1 + i)) (fun j => bt_nonneg s _) (fun j => bt_le s _)
  have b := fix2_back (fun i => bt s (5 + i)) (fun j => bt_nonneg s _) (fun j => bt_le s _)
  have c : fixL 1 (iK s) = [bt s 0] := by
    have h0 := bt_nonneg s 0; have h1 := bt_le s 0
    simp [fixL, iK]; omega
  rw [show iG s = beF (fun i => bt s (1 + i)) 4 from rfl, show iS s = beF (fun i => bt s (5 + i)) 2 from rfl, a, b, c]
  congr 1
end Go.Proofs.Ytjopdenabmojpaa
