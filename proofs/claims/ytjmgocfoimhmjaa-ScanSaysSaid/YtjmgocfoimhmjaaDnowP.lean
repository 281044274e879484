/- What a cell reads as; what has landed: plain lists. -/
import Derived.Test.YtjmgocfoimhmjaaDiskP
namespace Go.Proofs.Ytjmgocfoimhmjaa
open Go.RowKit

/-- The last write to a that is kept, or what was there. -/
def lastP (a : Int) (K : Nat → Bool) : Nat → List PutD → ByteArray → ByteArray
  | _, [], d => d
  | i, p :: r, d => lastP a K (i + 1) r (if p.At = a ∧ K i = true then p.Text else d)
theorem lastP_snoc (a : Int) (K : Nat → Bool) (p : PutD) : ∀ (l : List PutD) (i : Nat) (d : ByteArray), lastP a K i (l ++ [p]) d = if p.At = a ∧ K (i + l.length) = true then p.Text else lastP a K i l d
  | [], i, d => by simp [lastP]
  | x :: r, i, d => by
    simp only [List.cons_append, lastP]
    rw [lastP_snoc a K p r (i + 1)]
    rw [show i + 1 + r.length = i + (x :: r).length by simp; omega]
theorem lastP_take {a : Int} {K : Nat → Bool} {l : List PutD} {k : Nat} {p : PutD} {d : ByteArray} (h : l[k]? = some p) : lastP a K 0 (l.take (k + 1)) d = if p.At = a ∧ K k = true then p.Text else lastP a K 0 (l.take k) d := by
  have hk := (List.getElem?_eq_some_iff.1 h).1
  rw [List.take_add_one, h]
  show lastP a K 0 (l.take k ++ [p]) d = _
  rw [lastP_snoc, List.length_take, show 0 + min k l.length = k by omega]
def allB : Nat → Bool := fun _ => true
/-- What a cell of a disk reads as. -/
def nowS (cs : List ByteArray) (ws : List PutD) (a : Int) : ByteArray := lastP a allB 0 ws (cs.getD a.toNat ⟨#[]⟩)
/-- What has landed. -/
def landL (K : Nat → Bool) (cs : List ByteArray) (ws : List PutD) : List ByteArray := (List.range cs.length).map fun (i : Nat) => lastP (i : Int) K 0 ws (cs.getD i ⟨#[]⟩)
theorem landL_length (K : Nat → Bool) (cs : List ByteArray) (ws : List PutD) : (landL K cs ws).length = cs.length := by simp [landL]
/-- A right disk's writes go to its cells. -/
theorem wait_all {n : Int} : ∀ {l : List PutD}, waitE n l = 0 → ∀ p ∈ l, 0 ≤ p.At ∧ p.At < n ∧ p.Text.size ≤ 1024
  | [], _, p, hp => by simp at hp
  | x :: r, h, p, hp => by
    simp only [waitE] at h
    by_cases h1 : putE n x.At x.Text.size = 0
    · rw [if_neg (by simp [h1])] at h
      rcases List.mem_cons.1 hp with rfl | hp
      · unfold putE at h1
        split at h1
        · cases h1
        · split at h1
          · cases h1
          · omega
      · exact wait_all h p hp
    · rw [if_pos h1] at h; exact absurd h h1
theorem dsk_zero {cs : List ByteArray} {ws : List PutD} (h : dskE cs ws = 0) : 0 < cs.length ∧ cs.length ≤ 128 ∧ cellsE cs = 0 ∧ waitE cs.length ws = 0 ∧ ws.length ≤ 400 := by
  unfold dskE at h
  split at h
  · cases h
  · rename_i h1
    split at h
    · cases h
    · rename_i h2
      split at h
      · rename_i h3; exact absurd h h3
      · rename_i h3
        split at h
        · cases h
        · exact ⟨by omega, by omega, Classical.byContradiction fun k => h2 k, Classical.byContradiction fun k => h3 k, by omega⟩
/-- The writes landed one by one. -/
def landTo (K : Nat → Bool) (cs : List ByteArray) (ws : List PutD) (k : Nat) : List ByteArray := landL K cs (ws.take k)
theorem landTo_zero (K : Nat → Bool) (cs : List ByteArray) (ws : List PutD) : landTo K cs ws 0 = cs := by
  unfold landTo landL
  apply List.ext_getElem?
  intro i
  by_cases hi : i < cs.length
  · rw [List.getElem?_map, List.getElem?_range hi]
    simp [lastP, List.getD_eq_getElem?_getD, List.getElem?_eq_getElem hi]
  · rw [List.getElem?_eq_none (by simp; omega), List.getElem?_eq_none (by omega)]
theorem landTo_no {K : Nat → Bool} {cs : List ByteArray} {ws : List PutD} {k : Nat} {p : PutD} (h : ws[k]? = some p) (hK : K k = false) : landTo K cs ws (k + 1) = landTo K cs ws k := by
  unfold landTo landL
  apply List.map_congr_left
  intro i _
  rw [lastP_take h, if_neg (by rw [hK]; simp)]
theorem landTo_yes {K : Nat → Bool} {cs : List ByteArray} {ws : List PutD} {k j : Nat} {p : PutD} (h : ws[k]? = some p) (hK : K k = true) (hj : p.At = (j : Int)) (hjl : j < cs.length) : landTo K cs ws (k + 1) = (landTo K cs ws k).set j p.Text := by
  unfold landTo landL
  apply List.ext_getElem?
  intro i
  rw [List.getElem?_set, List.length_map, List.length_range]
  by_cases hi : i < cs.length
  · rw [List.getElem?_map, List.getElem?_range hi, List.getElem?_map, List.getElem?_range hi, Option.map_some, Option.map_some]
    rw [lastP_take h]
    by_cases e : j = i
    · subst e; rw [if_pos ⟨hj, hK⟩, if_pos rfl, if_pos hjl]
    · rw [if_neg (by omega), if_neg e]
  · rw [List.getElem?_eq_none (by simp; omega), if_neg (by omega), List.getElem?_eq_none (by simp; omega)]
theorem landTo_end (K : Nat → Bool) (cs : List ByteArray) (ws : List PutD) : landTo K cs ws ws.length = landL K cs ws := by unfold landTo; rw [List.take_length]
end Go.Proofs.Ytjmgocfoimhmjaa
