/- linenref.member, walked. -/
import Derived.Test.YtgidfmdbaimcnaaDoorGbQ
import Derived.Test.YtgidfmdbaimcnaaDoorOwn
import Derived.WalkSpells
namespace Go.Proofs.YtgidfmdbaimcnaaDoor
open Go.RowKit Go.PlainAid

theorem nx_no {l : List Int} (h : nx l = none) : l = [] ∨ l = [92] := by
  unfold nx at h
  split at h
  · exact .inl rfl
  · split at h
    · split at h
      · rename_i hc _; rw [hc]; exact .inr rfl
      · cases h
    · cases h
theorem nx_yes {l r : List Int} {x : Int} {pl : Bool} (h : nx l = some (x, pl, r)) : (pl = true ∧ l = 92 :: x :: r) ∨ (pl = false ∧ x ≠ 92 ∧ l = x :: r) := by
  unfold nx at h
  split at h
  · cases h
  · split at h
    · split at h
      · cases h
      · rename_i hc _ _ _; cases h; rw [hc]; exact .inl ⟨rfl, rfl⟩
    · rename_i hc; cases h; exact .inr ⟨rfl, hc, rfl⟩
abbrev e64 : Int → List Value := fun z => [.int .i64 z]
section
variable {w : World} {B n c : Nat} {A : Option Addr} {l : List Int}
theorem row_head {x : Int} {r : List Int} (h : RowsIn w B A n c e64 1 (x :: r)) : ∃ g o, A = some ⟨g, o, none⟩ ∧ g < B ∧ w.cell? ⟨g, o, none⟩ = some (.int .i64 x) := by
  obtain ⟨g, o, e, hg, hc⟩ := h.one (f := Value.int .i64) (i := 0) (x := x) rfl
  exact ⟨g, o, e, hg, hc⟩
end
set_option maxRecDepth 20000 in
theorem member_none (A : Option Addr) (n c : Nat) (l : List Int) (w : World) (hr : RowsIn w w.heap.size A n c e64 1 l) (h : nx l = none) :
    Calls Tryd.prog 19 #[.slice A n c] w fun e w' => e = .returned (.tuple #[.int .i64 0, .int .i64 0]) ∧ w' = w := by
  have hl := hr.len
  rcases nx_no h with rfl | rfl
  · obtain rfl : 0 = n := hl
    clear h hr
    go_enter Tryd.func19, Tryd.ntmps19
    go_wp2
    go_ret2
    exact ⟨rfl, rfl⟩
  · obtain rfl : 1 = n := hl
    obtain ⟨g, o, rfl, hg, hc⟩ := row_head hr
    clear h hr
    go_enter Tryd.func19, Tryd.ntmps19
    go_wp2
    go_ret2
    exact ⟨rfl, rfl⟩
def MbPost (x : Int) (l r : List Int) (w : World) (e : Ending) (w' : World) : Prop := ∃ k : Nat, e = .returned (.tuple #[.int .i64 x, .int .i64 k]) ∧ w' = w ∧ r = l.drop k ∧ 1 ≤ k ∧ k ≤ l.length
set_option maxRecDepth 20000 in
theorem member_some (A : Option Addr) (n c : Nat) (l : List Int) (w : World) (hr : RowsIn w w.heap.size A n c e64 1 l) {x : Int} {pl : Bool} {r : List Int} (h : nx l = some (x, pl, r)) :
    Calls Tryd.prog 19 #[.slice A n c] w (MbPost x l r w) := by
  have hl := hr.len
  rcases nx_yes h with ⟨rfl, rfl⟩ | ⟨rfl, hx, rfl⟩
  · obtain ⟨g, o, rfl, hg, hc⟩ := row_head hr
    have hc1 : w.cell? ⟨g, o + 1, none⟩ = some (.int .i64 x) := by
      obtain ⟨g', o', e, _, hc'⟩ := hr.one (f := Value.int .i64) (i := 1) (x := x) rfl
      injection e with e; injection e with e1 e2; subst e1; subst e2; exact hc'
    have P : Hid (MbPost x (92 :: x :: r) r w (.returned (.tuple #[.int .i64 x, .int .i64 2])) w) := ⟨2, rfl, rfl, rfl, by decide, by simp⟩
    have k1 : ((n : Int) == 0) = false := beq_eq_false_iff_ne.2 (by simp at hl; omega)
    have k2 : ((n : Int) == 1) = false := beq_eq_false_iff_ne.2 (by simp at hl; omega)
    have k3 : (0 : Int) < (n : Int) := by simp at hl; omega
    have k4 : (1 : Int) < (n : Int) := by simp at hl; omega
    have k5 : 0 < n := by omega
    have k6 : 1 < n := by omega
    clear h hr hl
    generalize MbPost x (92 :: x :: r) r w = PP at *
    go_enter Tryd.func19, Tryd.ntmps19
    go_wp2
    exact P.out
  · obtain ⟨g, o, rfl, hg, hc⟩ := row_head hr
    have P : Hid (MbPost x (x :: r) r w (.returned (.tuple #[.int .i64 x, .int .i64 1])) w) := ⟨1, rfl, rfl, rfl, by decide, by simp⟩
    have k1 : ((n : Int) == 0) = false := beq_eq_false_iff_ne.2 (by simp at hl; omega)
    have k2 : (x == 92) = false := beq_eq_false_iff_ne.2 hx
    have k3 : (0 : Int) < (n : Int) := by simp at hl; omega
    have k5 : 0 < n := by omega
    clear h hr hl hx
    generalize MbPost x (x :: r) r w = PP at *
    go_enter Tryd.func19, Tryd.ntmps19
    go_wp2
    exact P.out
end Go.Proofs.YtgidfmdbaimcnaaDoor
