/- What the bound of the second form gives: lengths of strings and slices. -/
import Derived.Test.YtebgcemglicjiaaPlJb
import Derived.JoinedCond
import Derived.Deep.CondSized
namespace Go.Proofs.Ytebgcemglicjiaa

theorem bulk_part {H : Type} {d : DataW H} : ∀ {l : List (DataW H)}, d ∈ l → Rows.uptoBulk d ≤ Rows.uptoBulkAll l
  | x :: r, h => by
    simp only [Rows.uptoBulkAll]
    rcases List.mem_cons.1 h with e | e
    · subst e; omega
    · have := bulk_part e; omega
theorem bulk_pos {H : Type} (d : DataW H) : 1 ≤ Rows.uptoBulk d := by
  cases d with
  | lit l => cases l <;> simp [Rows.uptoBulk]
  | nil => simp [Rows.uptoBulk]
  | ptr d => simp [Rows.uptoBulk]
  | slice elems spare => simp [Rows.uptoBulk]
  | agg parts => simp [Rows.uptoBulk]
  | iface t d => simp [Rows.uptoBulk]
  | map entries => simp [Rows.uptoBulk]
  | held h => simp [Rows.uptoBulk]
theorem bulk_length {H : Type} : ∀ l : List (DataW H), l.length ≤ Rows.uptoBulkAll l
  | [] => by simp
  | x :: r => by have := bulk_pos x; have := bulk_length r; simp only [Rows.uptoBulkAll, List.length_cons]; omega
theorem bulk_of {H : Type} {l : List (DataW H)} (hk : Rows.uptoSmall H l = true) {d : DataW H} (h : d ∈ l) : Rows.uptoBulk d ≤ 1048576 :=
  Nat.le_trans (bulk_part h) (of_decide_eq_true hk)
theorem bulk_string {H : Type} {l : List (DataW H)} (hk : Rows.uptoSmall H l = true) {b : List UInt8} (h : DataW.lit (.string b) ∈ l) : b.length ≤ 1048575 := by
  have := bulk_of hk h
  simp only [Rows.uptoBulk] at this
  omega
theorem bulk_slice {H : Type} {l : List (DataW H)} (hk : Rows.uptoSmall H l = true) {e s : List (DataW H)} (h : DataW.slice e s ∈ l) : e.length + s.length ≤ 1048575 := by
  have := bulk_of hk h
  have := bulk_length e
  have := bulk_length s
  simp only [Rows.uptoBulk] at *
  omega
end Go.Proofs.Ytebgcemglicjiaa
