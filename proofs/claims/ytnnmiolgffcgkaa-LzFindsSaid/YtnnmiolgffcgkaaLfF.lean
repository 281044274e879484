/- linenref.Fewest, walked. -/
import Derived.Test.YtnnmiolgffcgkaaLfA
import Derived.Test.YtnnmiolgffcgkaaCanonS
import Derived.Test.YtnnmiolgffcgkaaBlk
import Derived.Deep.RegionLaw
namespace Go.Proofs.Ytnnmiolgffcgkaa
open Go.RowKit Go.PlainAid

theorem info_i64L : (Try.prog.info? 3).map (fun i => (i.zero, i.size, i.bytes)) = some (some (.int .i64 0), 1, 8) := by kernel_rfl
theorem mk_i64L (N : Nat) (hN : N ≤ 520) : ∀ W : World, (Instr.makeSlice 32 (.int .i64 (N : Int)) (.int .i64 (N : Int))).run Try.prog W = .ok (.slice (some ⟨W.heap.size, 0, none⟩) N N) (W.alloc (.cells (numR N (fun _ => 0)) 3)) := fun W => by
  obtain ⟨i, hi, hzz⟩ := Option.map_eq_some_iff.1 info_i64L
  simp only [Prod.mk.injEq] at hzz
  obtain ⟨hz, hs, hbb⟩ := hzz
  have := run_make (P := Try.prog) W 32 3 i (.int .i64 0) Try.underlying32 hi hz .i64 .i64 N N (by omega) (by omega) (by rw [hbb]; omega) (by omega)
  rw [hs] at this
  rw [this, Int.toNat_natCast]
  have e : madeCells (Value.int .i64 0).cells (N * 1) = numR N (fun _ => 0) := by
    rw [← numR_zero]
    apply Array.ext'
    rw [Nat.mul_one, Array.toList_replicate]
    exact toList_madeCells_one _ _
  rw [e]
/-- The row of numbers v. -/
def rowV (M : Nat) (v : Nat → Nat) : Array Value := numR M (fun j => (v j : Int))
def updN (v : Nat → Nat) (k x : Nat) : Nat → Nat := fun j => if j = k then x else v j
theorem rowV_get {M : Nat} (v : Nat → Nat) {i : Nat} (h : i < M) : (rowV M v)[i]? = some (.int .i64 (v i : Int)) := numR_get _ h
theorem rowV_set {M : Nat} {v : Nat → Nat} {k x : Nat} : (rowV M v).setIfInBounds k (.int .i64 (x : Int)) = rowV M (updN v k x) := numR_set (fun i _ => by unfold updN; split <;> rfl)
theorem updN_at (v : Nat → Nat) (k x : Nat) : updN v k x k = x := by simp [updN]
theorem updN_ne (v : Nat → Nat) {k x j : Nat} (h : j ≠ k) : updN v k x j = v j := by simp [updN, h]
/-- The forward table, improved at j = i + n by way of i. -/
theorem Fwd.step {s : ByteArray} {v : Nat → Nat} {E : Nat → Nat → Prop} {i j : Nat} (h : Fwd s v E) (he : Edge s i j) (hE : ∀ a b, E a b → a < b ∧ a ≤ i) (hi : v i + 1 < 1073741824) : Fwd s (updN v j (min (v j) (v i + 1))) (fun a b => E a b ∨ (a = i ∧ b = j)) :=
  have hij := he.le
  { zero := by rw [updN_ne _ (by omega)]; exact h.zero
    snd := fun k hk hlt => by
      by_cases e : k = j
      · subst e
        rw [updN_at] at hlt ⊢
        by_cases hle : v k ≤ v i + 1
        · rw [Nat.min_eq_left hle] at hlt ⊢; exact h.snd _ hk hlt
        · rw [Nat.min_eq_right (by omega)]; exact (h.snd i (by omega) (by omega)).snoc he
      · rw [updN_ne _ e] at hlt ⊢; exact h.snd _ hk hlt
    cmp := fun a b hab => by
      have hai : a ≠ j := by
        rcases hab with hab | ⟨rfl, rfl⟩
        · have := hE a b hab; omega
        · omega
      rw [updN_ne v hai]
      by_cases e : b = j
      · subst e
        rw [updN_at]
        rcases hab with hab | ⟨rfl, _⟩
        · have := h.cmp a b hab; omega
        · omega
      · rw [updN_ne _ e]
        rcases hab with hab | ⟨_, rfl⟩
        · exact h.cmp a b hab
        · exact absurd rfl e
    top := fun k => by
      by_cases e : k = j
      · subst e; rw [updN_at]; have := h.top k; omega
      · rw [updN_ne _ e]; exact h.top k }
theorem Fwd.mono {s : ByteArray} {v : Nat → Nat} {E E' : Nat → Nat → Prop} (h : Fwd s v E) (hE : ∀ a b, E' a b → E a b) : Fwd s v E' := ⟨h.zero, h.snd, fun a b k => h.cmp a b (hE a b k), h.top⟩
end Go.Proofs.Ytnnmiolgffcgkaa
