/- Inode maps with one entry set or cut: plain. -/
import Derived.Test.YtjmgocfoimhmjaaImapP
namespace Go.Proofs.Ytjmgocfoimhmjaa
open Go.RowKit

open Classical in
noncomputable def cutE (xs : List PlaceD) (gs : List Int) (n : Int) : Int :=
  if impE xs gs ≠ 0 then 4 else if n < 0 ∨ 48 ≤ n then 1 else if (xs.getD n.toNat ⟨0, 0⟩).Cell = 0 then 12 else if gs.getD n.toNat 0 = 2147483647 then 10 else 0
noncomputable def cutX (xs : List PlaceD) (gs : List Int) (n : Int) : List PlaceD := if cutE xs gs n = 0 then xs.set n.toNat ⟨0, 0⟩ else []
noncomputable def cutG (xs : List PlaceD) (gs : List Int) (n : Int) : List Int := if cutE xs gs n = 0 then gs.set n.toNat (gs.getD n.toNat 0 + 1) else []
noncomputable def setE (xs : List PlaceD) (gs : List Int) (n : Int) (p : PlaceD) : Int :=
  if impE xs gs ≠ 0 then 4 else if n < 0 ∨ 48 ≤ n ∨ rightB p.Cell p.Nth = false ∨ p.Cell = 0 then 1 else 0
noncomputable def setX (xs : List PlaceD) (gs : List Int) (n : Int) (p : PlaceD) : List PlaceD := if setE xs gs n p = 0 then xs.set n.toNat p else []
noncomputable def setG (xs : List PlaceD) (gs : List Int) (n : Int) (p : PlaceD) : List Int := if setE xs gs n p = 0 then gs else []
theorem cut_bad {xs : List PlaceD} {gs : List Int} {n : Int} {e : Int} (h : cutE xs gs n = e) (he : e ≠ 0) : cutX xs gs n = [] ∧ cutG xs gs n = [] := by
  unfold cutX cutG; rw [h, if_neg he, if_neg he]; exact ⟨rfl, rfl⟩
theorem cut_form {xs : List PlaceD} {gs : List Int} {n : Int} (h : impE xs gs ≠ 0) : cutE xs gs n = 4 := by unfold cutE; rw [if_pos h]
theorem cut_arg {xs : List PlaceD} {gs : List Int} {n : Int} (h : impE xs gs = 0) (hn : n < 0 ∨ 48 ≤ n) : cutE xs gs n = 1 := by unfold cutE; rw [if_neg (by simp [h]), if_pos hn]
theorem cut_none {xs : List PlaceD} {gs : List Int} {k : Nat} {p : PlaceD} (h : impE xs gs = 0) (hk : k < 48) (hp : xs[k]? = some p) (h0 : p.Cell = 0) : cutE xs gs k = 12 := by
  unfold cutE; rw [if_neg (by simp [h]), if_neg (by omega), if_pos (by rw [Int.toNat_natCast, List.getD_eq_getElem?_getD, hp]; exact h0)]
theorem cut_many {xs : List PlaceD} {gs : List Int} {k : Nat} {p : PlaceD} {g : Int} (h : impE xs gs = 0) (hk : k < 48) (hp : xs[k]? = some p) (h0 : p.Cell ≠ 0) (hg : gs[k]? = some g) (hg2 : g = 2147483647) : cutE xs gs k = 10 := by
  unfold cutE; rw [if_neg (by simp [h]), if_neg (by omega), if_neg (by rw [Int.toNat_natCast, List.getD_eq_getElem?_getD, hp]; exact h0), if_pos (by rw [Int.toNat_natCast, List.getD_eq_getElem?_getD, hg]; exact hg2)]
theorem cut_ok {xs : List PlaceD} {gs : List Int} {k : Nat} {p : PlaceD} {g : Int} (h : impE xs gs = 0) (hk : k < 48) (hp : xs[k]? = some p) (h0 : p.Cell ≠ 0) (hg : gs[k]? = some g) (hg2 : g ≠ 2147483647) : cutE xs gs k = 0 ∧ cutX xs gs k = xs.set k ⟨0, 0⟩ ∧ cutG xs gs k = gs.set k (g + 1) := by
  have e : cutE xs gs k = 0 := by
    unfold cutE; rw [if_neg (by simp [h]), if_neg (by omega), if_neg (by rw [Int.toNat_natCast, List.getD_eq_getElem?_getD, hp]; exact h0), if_neg (by rw [Int.toNat_natCast, List.getD_eq_getElem?_getD, hg]; exact hg2)]
  refine ⟨e, by unfold cutX; rw [if_pos e, Int.toNat_natCast], by unfold cutG; rw [if_pos e, Int.toNat_natCast, List.getD_eq_getElem?_getD, hg]; rfl⟩
theorem get48 {xs : List PlaceD} {k : Nat} (h : xs.length = 48) (hk : k < 48) : ∃ pc pn, xs[k]? = some (⟨pc, pn⟩ : PlaceD) := by
  have e := List.getElem?_eq_getElem (l := xs) (i := k) (by omega)
  generalize xs[k] = p at e
  exact ⟨p.Cell, p.Nth, e⟩
theorem getg {xs : List PlaceD} {gs : List Int} {k : Nat} (h : ImapOk xs gs) (hk : k < 48) : ∃ g, gs[k]? = some g ∧ 0 ≤ g ∧ g ≤ 2147483647 := by
  obtain ⟨_, g, _, e, _, h1, h2⟩ := h.2.2 k hk
  exact ⟨g, e, h1, h2⟩
theorem flat_set (xs : List PlaceD) : ∀ (k : Nat) (p : PlaceD), ((xs.flatMap PlaceD.cells).set (k * 2) (.int .i64 p.Cell)).set (k * 2 + 1) (.int .i64 p.Nth) = (xs.set k p).flatMap PlaceD.cells := by
  induction xs with
  | nil => intro k p; simp
  | cons x r ih =>
    intro k p
    match k with
    | 0 => simp [PlaceD.cells]
    | k + 1 =>
      have := ih k p
      simp only [List.flatMap_cons, List.set_cons_succ, PlaceD.cells, List.cons_append, List.nil_append] at *
      rw [show (k + 1) * 2 = (k * 2) + 1 + 1 by omega, List.set_cons_succ, List.set_cons_succ, List.set_cons_succ, List.set_cons_succ, ← this]
end Go.Proofs.Ytjmgocfoimhmjaa
