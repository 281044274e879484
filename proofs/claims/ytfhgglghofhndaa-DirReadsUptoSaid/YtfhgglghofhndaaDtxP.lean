/- A directory's text: plain. -/
import Derived.Test.YtfhgglghofhndaaDirP
import Derived.Test.YtfhgglghofhndaaFixP
import Derived.Lib.UnsafeStr
namespace Go.Proofs.Ytfhgglghofhndaa
open Go.RowKit Go.PlainAid

def entB (x : EntD) : List UInt8 := UInt8.ofNat x.Name.size :: (bl x.Name ++ [UInt8.ofNat x.Ino.toNat])
def dirB (l : List EntD) : List UInt8 := l.flatMap entB
theorem entB_len (x : EntD) : (entB x).length = x.Name.size + 2 := by unfold entB; rw [List.length_cons, List.length_append, bl_len]; rfl
theorem dirB_step {l : List EntD} {i : Nat} {x : EntD} (h : l[i]? = some x) : dirB (l.take (i + 1)) = dirB (l.take i) ++ entB x := by
  obtain ⟨hi, rfl⟩ := List.getElem?_eq_some_iff.1 h
  unfold dirB
  rw [List.take_succ_eq_append_getElem hi, List.flatMap_append]
  simp only [List.flatMap_cons, List.flatMap_nil, List.append_nil]
theorem dirB_len : ∀ (l : List EntD), (∀ x ∈ l, x.Name.size ≤ 12) → (dirB l).length ≤ 14 * l.length
  | [], _ => by simp [dirB]
  | x :: r, h => by
    have ih := dirB_len r (fun y hy => h y (List.mem_cons_of_mem _ hy))
    have := h x (List.mem_cons_self ..)
    unfold dirB at *
    rw [List.flatMap_cons, List.length_append, entB_len, List.length_cons]
    omega
theorem dirB_take {l : List EntD} {i : Nat} (h : ∀ x ∈ l, x.Name.size ≤ 12) (hl : l.length ≤ 24) : (dirB (l.take i)).length ≤ 336 := by
  have := dirB_len (l.take i) (fun x hx => h x (List.mem_of_mem_take hx))
  rw [List.length_take] at this
  omega
theorem byte1 {n : Nat} (h : n < 256) : Lib.byteCells [UInt8.ofNat n] = [.int .u8 (n : Int)] := by
  simp [Lib.byteCells, Nat.mod_eq_of_lt h]
theorem fix1 {n : Nat} (h : n < 256) : strOfNums (fixW 1 (n : Int)) = mkS [UInt8.ofNat n] := by
  have e : fixW 1 (n : Int) = [(n : Int)] := by
    unfold fixW
    rw [if_pos ⟨by decide, by decide⟩]
    show [(n : Int) / 256 ^ 0 % 256] = _
    congr 1
    simp; omega
  rw [e]
  apply ByteArray.ext
  simp [strOfNums, mkS]
/-- What DirText answers. -/
noncomputable def dirT (l : List EntD) : ByteArray := if dirE l = 0 then mkS (dirB l) else mkS []
theorem dirT_ok {l : List EntD} (h : dirE l = 0) : dirT l = mkS (dirB l) := if_pos h
theorem dirT_bad {l : List EntD} (h : dirE l ≠ 0) : dirT l = mkS [] := if_neg h
end Go.Proofs.Ytfhgglghofhndaa
