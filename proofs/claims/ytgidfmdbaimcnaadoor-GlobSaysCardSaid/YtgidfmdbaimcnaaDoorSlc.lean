/- A list's beginning and its rest, as slices. -/
import Derived.Test.YtgidfmdbaimcnaaDoorOwn
namespace Go.Proofs.YtgidfmdbaimcnaaDoor
open Go.RowKit

section
variable {α : Type} {w : World} {B m c n k : Nat} {A : Option Addr} {enc : α → List Value} {xs : List α}
theorem RowsIn.pre (h : RowsIn w B A m c enc k xs) (hn : n ≤ m) : RowsIn w B A n c enc k (xs.take n) :=
  ⟨by rw [List.length_take, h.len]; omega, by have := h.le; omega, h.top, fun i x hx => by
    have hi : i < n := by
      have := (List.getElem?_eq_some_iff.1 hx).1
      rw [List.length_take] at this; omega
    rw [List.getElem?_take, if_pos hi] at hx
    exact h.at_ i x hx⟩
theorem RowsIn.suf {b o : Nat} (h : RowsIn w B (some ⟨b, o, none⟩) m c enc k xs) (hn : n ≤ m) : RowsIn w B (some ⟨b, o + n * k, none⟩) (m - n) (c - n) enc k (xs.drop n) :=
  ⟨by rw [List.length_drop, h.len], by have := h.le; omega, by have := h.top; omega, fun i x hx => by
    rw [List.getElem?_drop] at hx
    obtain ⟨b', o', e, hb, hc⟩ := h.at_ (n + i) x hx
    injection e with e
    injection e with e1 e2 _
    subst e1; subst e2
    refine ⟨b, o + n * k, rfl, hb, fun j u hu => ?_⟩
    rw [show o + n * k + i * k + j = o + (n + i) * k + j by rw [Nat.add_mul]; omega]
    exact hc j u hu⟩
/-- All of it cut away: wherever the value points. -/
theorem RowsIn.none_left (h : RowsIn w B A m c enc k xs) (hn : m ≤ n) (A' : Option Addr) : RowsIn w B A' 0 0 enc k (xs.drop n) :=
  ⟨by rw [List.length_drop, h.len]; omega, Nat.le_refl _, Nat.zero_le _, fun i x hx => by rw [List.drop_eq_nil_of_le (by rw [h.len]; exact hn)] at hx; simp at hx⟩
/-- The rest behind n elements, whichever address the cut leaves. -/
theorem RowsIn.suf_any {b o : Nat} (h : RowsIn w B (some ⟨b, o, none⟩) m c enc k xs) (hn : n ≤ m) : RowsIn w B (if c = n then some ⟨b, o, none⟩ else some ⟨b, o + n * k, none⟩) (m - n) (c - n) enc k (xs.drop n) := by
  by_cases hc : c = n
  · rw [if_pos hc]
    have hl := h.le
    have := h.none_left (n := n) (by omega) (some ⟨b, o, none⟩)
    rw [show m - n = 0 by omega, show c - n = 0 by omega]; exact this
  · rw [if_neg hc]; exact h.suf hn
/-- The same, in the walk's own form, of elements of one cell. -/
theorem RowsIn.suf_opt (h : RowsIn w B A m c enc 1 xs) (hn : n ≤ m) : RowsIn w B (if c = n then A else A.map (fun x => x.add n)) (m - n) (c - n) enc 1 (xs.drop n) := by
  by_cases hm : m = n
  · refine ⟨by rw [List.length_drop, h.len], by have := h.le; omega, by have := h.top; omega, fun i x hx => ?_⟩
    rw [List.drop_eq_nil_of_le (by rw [h.len]; omega)] at hx; simp at hx
  · obtain ⟨b, o, e, _⟩ := h.at_ 0 _ (List.getElem?_eq_getElem (by rw [h.len]; omega))
    subst e
    have := h.suf_any hn
    simpa [add_form] using this
end
def IntRow (w : World) (B : Nat) (v : Value) (m : Nat) (xs : List Int) : Prop := ∃ A c, v = .slice A m c ∧ RowsIn w B A m c (fun z => [.int .i64 z]) 1 xs
theorem IntRow.below {w w' : World} {B m : Nat} {v : Value} {xs : List Int} (h : IntRow w B v m xs) (hb : Below B w w') : IntRow w' B v m xs := by
  obtain ⟨A, c, e, r⟩ := h; exact ⟨A, c, e, r.below hb⟩
end Go.Proofs.YtgidfmdbaimcnaaDoor
