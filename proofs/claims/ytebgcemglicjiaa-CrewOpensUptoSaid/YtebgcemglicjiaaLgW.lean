/- (*code.Book).longer, walked. -/
import Derived.Test.YtebgcemglicjiaaMakeB
import Derived.Test.YtebgcemglicjiaaOwJa
import Derived.BigRegion
import Derived.BigQuiet
import Derived.Deep.QuietTactic
namespace Go.Proofs.Ytebgcemglicjiaa
open Go.RowKit Go.PlainAid

/-- Length v has a code that begins with the w bits c, or is them. -/
def LgT (l : List Int) (c : Int) (w v : Nat) : Prop := 0 < bkC l v ∧ c * 2 ^ (v - w) < bkF l 16 v + bkC l v ∧ bkF l 16 v < c * 2 ^ (v - w) + 2 ^ (v - w)
def Lg (l : List Int) (c : Int) (w : Nat) : Prop := ∃ v : Nat, w ≤ v ∧ v ≤ 15 ∧ LgT l c w v
theorem lg_mor {l : List Int} {c : Int} {w : Nat} (h : ¬ Hit l c w) : Lg l c w ↔ Mor l c w := by
  constructor
  · rintro ⟨v, h1, h2, h3, h4, h5⟩
    have hv : 0 < v := by
      rcases Nat.eq_zero_or_pos v with e | e
      · subst e; unfold bkC at h3; simp at h3
      · exact e
    unfold bkC at h3 h4
    unfold bkF at h4 h5
    rw [if_pos hv] at h3 h4
    rw [if_pos ⟨hv, by omega⟩] at h4 h5
    by_cases e : v = w
    · subst e
      rw [Nat.sub_self] at h4 h5
      simp only [Int.pow_zero, Int.mul_one] at h4 h5
      exact absurd ⟨by omega, by omega, by omega⟩ h
    · exact ⟨v, by omega, h2, h3, h4, by rw [Int.add_mul, Int.one_mul]; exact h5⟩
  · rintro ⟨v, h1, h2, h3, h4, h5⟩
    rw [Int.add_mul, Int.one_mul] at h5
    refine ⟨v, by omega, h2, ?_, ?_, ?_⟩
    · unfold bkC; rw [if_pos (by omega)]; exact h3
    · unfold bkC bkF; rw [if_pos (by omega), if_pos (by omega)]; exact h4
    · unfold bkF; rw [if_pos (by omega)]; exact h5
theorem bk_bd {l : List Int} (h : canE l = 0) {v : Nat} (hv : v ≤ 15) : 0 ≤ bkF l 16 v ∧ 0 ≤ bkC l v ∧ bkF l 16 v + bkC l v ≤ 32768 := by
  unfold bkF bkC
  by_cases hv0 : 0 < v
  · rw [if_pos ⟨hv0, by omega⟩, if_pos hv0]
    have h1 := low_pow h hv0 hv
    have h2 : (2 : Int) ^ v ≤ 32768 := by
      have : (2 : Nat) ^ v ≤ 2 ^ 15 := Nat.pow_le_pow_right (by omega) hv
      have h2 : ((2 ^ v : Nat) : Int) ≤ ((2 ^ 15 : Nat) : Int) := by exact_mod_cast this
      simpa using h2
    exact ⟨lowW_nonneg _ _, (cntW_bd _ _).1, by omega⟩
  · rw [if_neg (by omega), if_neg hv0]; omega
theorem ret_bk {a b : Bool} (h : a = b) : Ending.returned (.bool a) = Ending.returned (.bool b) := by rw [h]

set_option maxRecDepth 20000 in
set_option maxHeartbeats 2000000 in
theorem lg_any (l : List Int) (v : Value) (c : Int) (x B : Nat) (W : World) (row : W.heap[B]? = some (.cells (bookA v (bkF l 16) (bkG l 16) (bkC l)) 109 (0, 0))) (hcan : canE l = 0) (hx : x ≤ 15) (hc0 : 0 ≤ c) (hc1 : c < 2 ^ x) :
    Calls Try.prog 74 #[.pointer (some ⟨B, 0, none⟩), .int .i64 c, .int .i64 x] W fun e w' => ∃ (b : Bool) (q : Nat), e = .returned (.bool b) ∧ (b = true ↔ Lg l c x) ∧ w' = W.drewN q := by
  have HROW := Lib.hid row
  have HBD : Hid (∀ k : Nat, k ≤ 15 → 0 ≤ bkF l 16 k ∧ 0 ≤ bkC l k ∧ bkF l 16 k + bkC l k ≤ 32768) := fun k hk => bk_bd hcan hk
  have HC1 := Lib.hid hc1
  clear row hcan hc1
  go_enter Try.func74, Try.ntmps74
  go_wp2
  go_loopw [7, 8] (fun v7 _ wr => ∃ k q : Nat, x ≤ k ∧ k ≤ 16 ∧ v7 = .int .i64 k ∧ Hid (wr = W.drewN q) ∧ Hid (∀ u : Nat, x ≤ u → u < k → ¬ LgT l c x u)) (fun v7 _ _ => 16 - (intOf v7).toNat)
  case atStart => exact ⟨x, 0, Nat.le_refl _, by omega, rfl, rfl, fun u h1 h2 => by omega⟩
  case round =>
    obtain ⟨k, q, hk0, hk1, rfl, HW, HN⟩ := hrel
    by_cases hlt : k ≤ 15
    · have hrow : wr.heap[B]? = some (.cells (bookA v (bkF l 16) (bkG l 16) (bkC l)) 109 (0, 0)) := by rw [HW.out]; exact HROW.out
      have cF := (row_cell hrow (1 + k)).trans (book_F v _ (bkG l 16) (bkC l) k (by omega))
      have cC := (row_cell hrow (33 + k)).trans (book_C v (bkF l 16) (bkG l 16) _ k (by omega))
      obtain ⟨b1, b2, b3⟩ := HBD.out k hlt
      obtain ⟨d, hd⟩ : ∃ d : Nat, d = k - x := ⟨_, rfl⟩
      have hdi : (k : Int) - (x : Int) = (d : Int) := by omega
      have HT : Hid (LgT l c x k ↔ 0 < bkC l k ∧ c * 2 ^ d < bkF l 16 k + bkC l k ∧ bkF l 16 k < c * 2 ^ d + 2 ^ d) := by rw [hd]; exact Iff.rfl
      have hp0 : (1 : Int) ≤ 2 ^ d := Int.pow_pos (by decide)
      have hp1 : (2 : Int) ^ d ≤ 32768 := by
        have : (2 : Nat) ^ d ≤ 2 ^ 15 := Nat.pow_le_pow_right (by omega) (by omega)
        have h2 : ((2 ^ d : Nat) : Int) ≤ ((2 ^ 15 : Nat) : Int) := by exact_mod_cast this
        simpa using h2
      have hX0 : 0 ≤ c * 2 ^ d := Int.mul_nonneg hc0 (by omega)
      have hX1 : c * 2 ^ d < 32768 := by
        have h1 : c * 2 ^ d < 2 ^ x * 2 ^ d := Int.mul_lt_mul_of_pos_right HC1.out (by omega)
        rw [← Int.pow_add] at h1
        have : (2 : Nat) ^ (x + d) ≤ 2 ^ 15 := Nat.pow_le_pow_right (by omega) (by omega)
        have h2 : ((2 ^ (x + d) : Nat) : Int) ≤ ((2 ^ 15 : Nat) : Int) := by exact_mod_cast this
        have h3 : (2 : Int) ^ (x + d) ≤ 32768 := by simpa using h2
        omega
      have hd15 : d ≤ 15 := by omega
      generalize bkC l k = Ck at *
      generalize bkF l 16 k = Fk at *
      have HD := Lib.hid hd
      clear hd hrow
      have i1 : (k : Int) ≤ 15 := by omega
      have i2 : (0 : Int) ≤ (k : Int) := by omega
      have i3 : (k : Int) < 16 := by omega
      have HN2 : Hid (¬ (0 < Ck ∧ c * 2 ^ d < Fk + Ck ∧ Fk < c * 2 ^ d + 2 ^ d) → ∀ u : Nat, x ≤ u → u < k + 1 → ¬ LgT l c x u) := fun hn u h1 h2 h3 => by
        by_cases e : u = k
        · subst e; exact hn (HT.out.1 h3)
        · exact HN.out u h1 (by omega) h3
      have HY : Hid (0 < Ck ∧ c * 2 ^ d < Fk + Ck ∧ Fk < c * 2 ^ d + 2 ^ d → Lg l c x) := fun h => ⟨k, hk0, hlt, HT.out.2 h⟩
      clear HT HN
      go_wp2
      generalize c * 2 ^ d = X at *
      by_cases g1 : 0 < Ck
      · by_cases g2 : X < Fk + Ck
        · by_cases g3 : Fk < X + 2 ^ d
          · have F := HY.out ⟨g1, g2, g3⟩
            have f1 := decide_eq_true g1
            have f2 := decide_eq_true g2
            have f3 := decide_eq_true g3
            clear HY HN2
            go_quiet (fail)
            go_wp2
            go_ret
            exact ⟨true, q + nq, rfl, by simp [F], by rw [HW.out, World.drewN_drewN]⟩
          · have F : Hid (∀ u : Nat, x ≤ u → u < k + 1 → ¬ LgT l c x u) := HN2.out (fun h => g3 h.2.2)
            have f1 := decide_eq_true g1
            have f2 := decide_eq_true g2
            have f3 := decide_eq_false g3
            clear HY HN2
            go_quiet (fail)
            go_wp2
            go_roundw
            case rel => exact ⟨k + 1, q + nq, by omega, by omega, by go_num, by simp only [Hid]; rw [HW.out, World.drewN_drewN], F⟩
            case measure => (simp [intOf]; try omega)
        · have F : Hid (∀ u : Nat, x ≤ u → u < k + 1 → ¬ LgT l c x u) := HN2.out (fun h => g2 h.2.1)
          have f1 := decide_eq_true g1
          have f2 := decide_eq_false g2
          clear HY HN2
          go_quiet (fail)
          go_wp2
          go_roundw
          case rel => exact ⟨k + 1, q + nq, by omega, by omega, by go_num, by simp only [Hid]; rw [HW.out, World.drewN_drewN], F⟩
          case measure => (simp [intOf]; try omega)
      · have F : Hid (∀ u : Nat, x ≤ u → u < k + 1 → ¬ LgT l c x u) := HN2.out (fun h => g1 h.1)
        have f1 := decide_eq_false g1
        clear HY HN2
        go_quiet (fail)
        go_wp2
        go_roundw
        case rel => exact ⟨k + 1, q + nq, by omega, by omega, by go_num, by simp only [Hid]; rw [HW.out, World.drewN_drewN], F⟩
        case measure => (simp [intOf]; try omega)
    · have i1 : ¬ (k : Int) ≤ 15 := by omega
      have F : ¬ Lg l c x := by rintro ⟨u, h1, h2, h3⟩; exact HN.out u h1 (by omega) h3
      clear HN
      go_wp2
      go_ret
      exact ⟨rfl, q, HW.out⟩
end Go.Proofs.Ytebgcemglicjiaa
