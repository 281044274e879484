/- ops.Until: plain. -/
import Derived.Test.YtjmgocfoimhmjaaPlayQ
import Derived.Test.YtjmgocfoimhmjaaSlc
namespace Go.Proofs.Ytjmgocfoimhmjaa
open Go.RowKit

theorem pl_right : ∀ (l : List OpD) (C : List ByteArray) (W : List PutD), dskE C W = 0 → (pl C W l).1 = 0 → dskE (pl C W l).2.1 (pl C W l).2.2 = 0
  | [], C, W, h, _ => h
  | o :: r, C, W, h, h2 => by
    unfold pl at h2 ⊢
    split at h2
    · rename_i hc; rw [if_pos hc]; exact pl_right r _ _ (dsk_land h) h2
    · rename_i hc
      rw [if_neg hc]
      split at h2
      · cases h2
      · rename_i hc2
        rw [if_neg hc2]
        split at h2
        · rename_i hc3; exact absurd h2 hc3
        · rename_i hc3
          rw [if_neg hc3]
          split at h2
          · cases h2
          · rename_i hc4
            rw [if_neg hc4]
            exact pl_right r _ _ (dsk_add h (by simpa using hc3) hc4) h2
theorem plE_right {cs : List ByteArray} {ws : List PutD} {l : List OpD} (h : plE cs ws l = 0) : dskE (plX cs ws l) (plY cs ws l) = 0 := by
  by_cases hd : dskE cs ws = 0
  · obtain ⟨e1, e2, e3⟩ := pl_ok (l := l) hd
    rw [e1] at h
    rw [e2, e3]
    exact pl_right l cs ws hd h
  · rw [(pl_bad (l := l) hd).1] at h
    exact absurd h hd
theorem plE_bad {cs : List ByteArray} {ws : List PutD} {l : List OpD} (h : plE cs ws l ≠ 0) : plX cs ws l = [] ∧ plY cs ws l = [] := by
  by_cases hd : dskE cs ws = 0
  · obtain ⟨e1, e2, e3⟩ := pl_ok (l := l) hd
    rw [e1] at h
    rw [e2, e3]
    revert h
    clear e1 e2 e3 hd
    induction l generalizing cs ws with
    | nil => intro h; exact absurd rfl h
    | cons o r ih =>
      intro h
      unfold pl at h ⊢
      split
      · rename_i hc; rw [if_pos hc] at h; exact ih h
      · rename_i hc; rw [if_neg hc] at h
        split
        · exact ⟨rfl, rfl⟩
        · rename_i hc2; rw [if_neg hc2] at h
          split
          · exact ⟨rfl, rfl⟩
          · rename_i hc3; rw [if_neg hc3] at h
            split
            · exact ⟨rfl, rfl⟩
            · rename_i hc4; rw [if_neg hc4] at h; exact ih h
  · exact (pl_bad (l := l) hd).2
theorem RowsIn.take {α : Type} {enc : α → List Value} {k n c B j : Nat} {A : Option Addr} {xs : List α} {w : World} (r : RowsIn w B A n c enc k xs) (hj : j ≤ n) : RowsIn w B A j c enc k (xs.take j) :=
  ⟨by rw [List.length_take]; have := r.len; omega, by have := r.le; omega, r.top, fun i x hx => by
    have hi : i < (xs.take j).length := (List.getElem?_eq_some_iff.1 hx).1
    rw [List.length_take] at hi
    rw [List.getElem?_take_of_lt (by omega)] at hx
    exact r.at_ i x hx⟩
noncomputable def utE (cs : List ByteArray) (ws : List PutD) (l : List OpD) (m : Int) : Int := if m < 0 then 1 else plE cs ws (l.take m.toNat)
noncomputable def utX (cs : List ByteArray) (ws : List PutD) (l : List OpD) (m : Int) (K : Nat → Bool) : List ByteArray := if utE cs ws l m = 0 then landL K (plX cs ws (l.take m.toNat)) (plY cs ws (l.take m.toNat)) else []
end Go.Proofs.Ytjmgocfoimhmjaa
