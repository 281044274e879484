/- linenref.Fewest, walked. -/
import Derived.Test.YtnnmiolgffcgkaaLfF
namespace Go.Proofs.Ytnnmiolgffcgkaa
open Go.RowKit Go.PlainAid

def initV (i : Nat) : Nat → Nat := fun j => if 1 ≤ j ∧ j < i then 1073741824 else 0
theorem init_set {M i : Nat} (h : 1 ≤ i) : (rowV M (initV i)).setIfInBounds i (.int .i64 1073741824) = rowV M (initV (i + 1)) := by
  have := rowV_set (M := M) (v := initV i) (k := i) (x := 1073741824)
  have e : updN (initV i) i 1073741824 = initV (i + 1) := by
    funext j
    unfold updN initV
    by_cases hj : j = i
    · rw [if_pos hj, if_pos (by omega)]
    · rw [if_neg hj]
      by_cases h2 : 1 ≤ j ∧ j < i
      · rw [if_pos h2, if_pos (by omega)]
      · rw [if_neg h2, if_neg (by omega)]
  rw [← e]; exact this
theorem init_fwd (s : ByteArray) : Fwd s (initV (s.size + 1)) (fun _ _ => False) :=
  { zero := by simp [initV]
    snd := fun j hj hlt => by
      have : j = 0 := by
        unfold initV at hlt
        by_cases h : 1 ≤ j ∧ j < s.size + 1
        · rw [if_pos h] at hlt; omega
        · omega
      subst this
      rw [show initV (s.size + 1) 0 = 0 by simp [initV]]
      exact .nil _
    cmp := fun a b h => h.elim
    top := fun j => by unfold initV; split <;> omega }
/-- What is known before place i, and at place i of the copies shorter than n. -/
def E0 (s : ByteArray) (i : Nat) : Nat → Nat → Prop := fun a b => Edge s a b ∧ a < i
def E1 (s : ByteArray) (i n : Nat) : Nat → Nat → Prop := fun a b => E0 s i a b ∨ (a = i ∧ (b = i + 1 ∨ ∃ m, 3 ≤ m ∧ m < n ∧ b = i + m ∧ Rp s i m))
theorem E1_le {s : ByteArray} {i n : Nat} : ∀ a b, E1 s i n a b → a < b ∧ a ≤ i := fun a b h => by
  rcases h with h | ⟨rfl, rfl | ⟨m, h1, h2, rfl, h3⟩⟩
  · exact ⟨h.1.le.1, by have := h.2; omega⟩
  · omega
  · omega
theorem E0_le {s : ByteArray} {i : Nat} : ∀ a b, E0 s i a b → a < b ∧ a ≤ i := fun a b h => ⟨h.1.le.1, by have := h.2; omega⟩
theorem fwd_small {s : ByteArray} {v : Nat → Nat} {i : Nat} (h : Fwd s v (E0 s i)) : ∀ j, j ≤ i → j ≤ s.size → v j ≤ j
  | 0, _, _ => by rw [h.zero]; exact Nat.le_refl _
  | j + 1, hj, hN => by
    have := fwd_small h j (by omega) (by omega)
    have := h.cmp j (j + 1) ⟨⟨by omega, .inl rfl⟩, by omega⟩
    omega
theorem fwd_first {s : ByteArray} {v : Nat → Nat} {i : Nat} (h : Fwd s v (E0 s i)) (hi : i < s.size) (hN : s.size ≤ 512) : Fwd s (updN v (i + 1) (min (v (i + 1)) (v i + 1))) (E1 s i 3) := by
  have hv := fwd_small h i (Nat.le_refl _) (by omega)
  refine (h.step (i := i) (j := i + 1) ⟨hi, .inl rfl⟩ E0_le (by omega)).mono fun a b hab => ?_
  rcases hab with h1 | ⟨rfl, rfl | ⟨m, h1, h2, _⟩⟩
  · exact .inl h1
  · exact .inr ⟨rfl, rfl⟩
  · omega
theorem fwd_copy {s : ByteArray} {v : Nat → Nat} {i n : Nat} (h : Fwd s v (E1 s i n)) (hi : i < s.size) (hN : s.size ≤ 512) (h3 : 3 ≤ n) (h66 : n ≤ 66) (hr : Rp s i n) : Fwd s (updN v (i + n) (min (v (i + n)) (v i + 1))) (E1 s i (n + 1)) := by
  have hv := fwd_small (h.mono (E' := E0 s i) fun a b k => .inl k) i (Nat.le_refl _) (by omega)
  refine (h.step (i := i) (j := i + n) ⟨hi, .inr ⟨n, h3, h66, rfl, hr⟩⟩ E1_le (by omega)).mono fun a b hab => ?_
  rcases hab with h1 | ⟨rfl, rfl | ⟨m, h1, h2, rfl, h4⟩⟩
  · exact .inl (.inl h1)
  · exact .inl (.inr ⟨rfl, .inl rfl⟩)
  · by_cases e : m = n
    · subst e; exact .inr ⟨rfl, rfl⟩
    · exact .inl (.inr ⟨rfl, .inr ⟨m, h1, by omega, rfl, h4⟩⟩)
theorem fwd_next {s : ByteArray} {v : Nat → Nat} {i n : Nat} (h : Fwd s v (E1 s i n)) (hno : n ≤ 66 → i + n ≤ s.size → ¬ Rp s i n) : Fwd s v (E0 s (i + 1)) :=
  h.mono fun a b ⟨h1, h2⟩ => by
    by_cases e : a = i
    · subst e
      refine .inr ⟨rfl, ?_⟩
      rcases h1.2 with h3 | ⟨m, h3, h4, h5, h6⟩
      · exact .inl h3
      · refine .inr ⟨m, h3, ?_, h5, h6⟩
        rcases Nat.lt_or_ge m n with h7 | h7
        · exact h7
        · exact absurd (h6.le h7) (hno (by omega) (by have := h6.1; omega))
    · exact .inl ⟨h1, by omega⟩
theorem fwd_done {s : ByteArray} {v : Nat → Nat} (h : Fwd s v (E0 s s.size)) : Fwd s v (Edge s) := h.mono fun _ _ e => ⟨e, e.1⟩

theorem _root_.Go.RowKit.Below.drewN {B : Nat} {a w : World} {q : Nat} (h : Below B a w) : Below B a (w.drewN q) := ⟨h.os, h.tape, h.output, h.size, h.block⟩
def FwPost (s : ByteArray) (w : World) (e : Ending) (w' : World) : Prop := ∃ m : Nat, e = .returned (.int .i64 m) ∧ Lst s 0 s.size m ∧ Below w.heap.size w w'

set_option maxRecDepth 20000 in
set_option maxHeartbeats 2000000 in
theorem fewest_any (s : ByteArray) (w : World) (hs : s.size ≤ 512) : Calls Try.prog 18 #[.string s] w (FwPost s w) := by
  have hmk := mk_i64L (s.size + 1) (by omega)
  rw [show ((s.size + 1 : Nat) : Int) = (s.size : Int) + 1 by omega] at hmk
  have HR0 : Hid ((w.alloc (.cells (numR (s.size + 1) (fun _ => 0)) 3)).heap[w.heap.size]? = some (.cells (rowV (s.size + 1) (initV 1)) 3 (0, 0))) := by
    show _ = _
    rw [heap_alloc_new w _]
    congr 2
    unfold rowV
    exact numR_congr (fun i _ => by unfold initV; rw [if_neg (by omega)]; rfl)
  have HB0 : Hid (Below w.heap.size w (w.alloc (.cells (numR (s.size + 1) (fun _ => 0)) 3))) := (Below.refl _ _).alloc (Nat.le_refl _) _
  have HIN := Lib.hid (init_fwd s)
  go_enter Try.func18, Try.ntmps18
  go_wp2
  clear hmk
  go_loopw [4] (fun v4 wr => ∃ i : Nat, 1 ≤ i ∧ i ≤ s.size + 1 ∧ v4 = .int .i64 i ∧ Hid (wr.heap[w.heap.size]? = some (.cells (rowV (s.size + 1) (initV i)) 3 (0, 0))) ∧ Hid (Below w.heap.size w wr)) (fun v4 _ => s.size + 1 - (intOf v4).toNat)
  case atStart => exact ⟨1, Nat.le_refl _, by omega, rfl, HR0.out, HB0.out⟩
  case round =>
    obtain ⟨i, hi1, hi2, rfl, HR, HB⟩ := hrel
    clear HR0 HB0
    by_cases hlt : i ≤ s.size
    · have i1 : (i : Int) ≤ (s.size : Int) := by omega
      have i2 : (i : Int) < (s.size : Int) + 1 := by omega
      have i3 : i < s.size + 1 := by omega
      have g0 := row_cell HR.out i
      rw [rowV_get _ i3] at g0
      have g1 := row_cold HR.out i
      have HS := Lib.hid ((row_store (j := i) (v := .int .i64 1073741824) HR.out).trans (by rw [init_set hi1]))
      have HB2 := Lib.hid (HB.out.setCell (p := ⟨w.heap.size, i, none⟩) (Nat.le_refl _) (.int .i64 1073741824))
      go_wp2
      go_roundw
      case rel => exact ⟨i + 1, by omega, by omega, by go_num, HS.out, HB2.out⟩
      case measure => (simp [intOf]; try omega)
    · obtain rfl : i = s.size + 1 := by omega
      have i1 : ¬ (((s.size + 1 : Nat) : Int)) ≤ (s.size : Int) := by omega
      have HIN2 : Hid (Fwd s (initV (s.size + 1)) (E0 s 0)) := HIN.out.mono (fun a b h => by have := h.2; omega)
      clear HIN
      generalize initV (s.size + 1) = v0 at *
      go_wp2
      go_loopw [5, 6, 22] (fun _ _ v22 wr => ∃ (i : Nat) (v : Nat → Nat), i ≤ s.size ∧ v22 = .int .i64 i ∧ Hid (Fwd s v (E0 s i)) ∧ Hid (wr.heap[w.heap.size]? = some (.cells (rowV (s.size + 1) v) 3 (0, 0))) ∧ Hid (Below w.heap.size w wr)) (fun _ _ v22 _ => s.size - (intOf v22).toNat)
      case atStart => exact ⟨0, v0, Nat.zero_le _, rfl, HIN2.out, HR.out, HB.out⟩
      case round =>
        clear HIN2 HR HB
        obtain ⟨i, v, hi, rfl, HF, HR, HB⟩ := hrel
        by_cases hlt : i < s.size
        · have j1 : (i : Int) < (s.size : Int) := by omega
          have j2 : IntKind.i64.wrap ((i : Int) + 1) = (i : Int) + 1 := by rw [IntKind.wrap_i64]; omega
          have g0 := row_cell HR.out i
          rw [rowV_get _ (by omega)] at g0
          have g1 := row_cell HR.out (i + 1)
          rw [rowV_get _ (by omega)] at g1
          have g2 := row_cold HR.out (i + 1)
          have v1 := fwd_small HF.out i (Nat.le_refl _) (by omega)
          have HX := Lib.hid (fwd_first HF.out hlt hs)
          obtain ⟨x, hx⟩ : ∃ x : Nat, x = min (v (i + 1)) (v i + 1) := ⟨_, rfl⟩
          have j3 : IntKind.i64.wrap ((v i : Int) + 1) = (v i : Int) + 1 := by rw [IntKind.wrap_i64]; omega
          have j4 : (if (v i : Int) + 1 < (v (i + 1) : Int) then (v i : Int) + 1 else (v (i + 1) : Int)) = (x : Int) := by split <;> omega
          have HJ4 := Lib.hid j4
          clear j4
          have j5 : (0 : Int) ≤ (i : Int) + 1 := by omega
          have j6 : (i : Int) + 1 < (s.size : Int) + 1 := by omega
          have j7 : (i : Int) < (s.size : Int) + 1 := by omega
          have j8 : i + 1 < s.size + 1 := by omega
          have j9 : i < s.size + 1 := by omega
          have HX2 : Hid (Fwd s (updN v (i + 1) x) (E1 s i 3)) := by rw [hx]; exact HX.out
          clear HX hx
          have HS : Hid ((wr.setCell ⟨w.heap.size, i + 1, none⟩ (.int .i64 (x : Int))).heap[w.heap.size]? = some (.cells (rowV (s.size + 1) (updN v (i + 1) x)) 3 (0, 0))) := (row_store (j := i + 1) (v := .int .i64 (x : Int)) HR.out).trans (by rw [rowV_set])
          have HB2 := Lib.hid (HB.out.setCell (p := ⟨w.heap.size, i + 1, none⟩) (Nat.le_refl _) (.int .i64 (x : Int)))
          go_wp2_with fail
          go_region_law (fail)
          all_goals
            rw [HJ4.out]
            clear g0 g1 g2 HJ4 j5 j6
            go_wp2
            go_loopw [6] (fun v6 wq => ∃ (n : Nat) (u : Nat → Nat), 3 ≤ n ∧ n ≤ 67 ∧ v6 = .int .i64 n ∧ Hid (Fwd s u (E1 s i n)) ∧ Hid (wq.heap[w.heap.size]? = some (.cells (rowV (s.size + 1) u) 3 (0, 0))) ∧ Hid (Below w.heap.size w wq)) (fun v6 _ => 67 - (intOf v6).toNat)
            case atStart => exact ⟨3, updN v (i + 1) x, Nat.le_refl _, by omega, rfl, HX2.out, HS.out, HB2.out.drew⟩
            case round =>
              clear HX2 HS HB2 HF HR HB
              obtain ⟨n, u, hn3, hn67, rfl, HF, HR, HB⟩ := hrel
              by_cases h66 : n ≤ 66
              · have k1 : (n : Int) ≤ 66 := by omega
                have k2 : IntKind.i64.wrap ((i : Int) + (n : Int)) = (i : Int) + (n : Int) := by rw [IntKind.wrap_i64]; omega
                by_cases hin : i + n ≤ s.size
                · have k3 : (i : Int) + (n : Int) ≤ (s.size : Int) := by omega
                  have g0 := row_cell HR.out i
                  rw [rowV_get _ (by omega)] at g0
                  have g1 := row_cell HR.out (i + n)
                  rw [rowV_get _ (by omega)] at g1
                  have g2 := row_cold HR.out (i + n)
                  have v1 := fwd_small (HF.out.mono (E' := E0 s i) fun _ _ k => .inl k) i (Nat.le_refl _) (by omega)
                  by_cases hrp : Rp s i n
                  · have HX := Lib.hid (fwd_copy HF.out hlt hs hn3 h66 hrp)
                    obtain ⟨x, hx⟩ : ∃ x : Nat, x = min (u (i + n)) (u i + 1) := ⟨_, rfl⟩
                    have j3 : IntKind.i64.wrap ((u i : Int) + 1) = (u i : Int) + 1 := by rw [IntKind.wrap_i64]; omega
                    have j4 : (if (u i : Int) + 1 < (u (i + n) : Int) then (u i : Int) + 1 else (u (i + n) : Int)) = (x : Int) := by split <;> omega
                    have HJ4 := Lib.hid j4
                    clear j4
                    have j5 : (0 : Int) ≤ (i : Int) + (n : Int) := by omega
                    have j6 : (i : Int) + (n : Int) < (s.size : Int) + 1 := by omega
                    have j7 : (i : Int) < (s.size : Int) + 1 := by omega
                    have j8 : i + n < s.size + 1 := by omega
                    have j9 : i < s.size + 1 := by omega
                    have j10 : ((i : Int) + (n : Int)).toNat = i + n := by omega
                    have j11 : IntKind.i64.wrap ((n : Int) + 1) = (n : Int) + 1 := by rw [IntKind.wrap_i64]; omega
                    have HX2 : Hid (Fwd s (updN u (i + n) x) (E1 s i (n + 1))) := by rw [hx]; exact HX.out
                    clear HX hx
                    have HS : Hid ((wr.setCell ⟨w.heap.size, i + n, none⟩ (.int .i64 (x : Int))).heap[w.heap.size]? = some (.cells (rowV (s.size + 1) (updN u (i + n) x)) 3 (0, 0))) := (row_store (j := i + n) (v := .int .i64 (x : Int)) HR.out).trans (by rw [rowV_set])
                    have HRP := Lib.hid hrp.2
                    clear hrp
                    go_wp2_with (go_at_call 62; refine (ahead_any s i n _ hin hs).mono ?_; rintro e w1 ⟨b, q, rfl, HQ, rfl⟩; obtain rfl : b = true := HQ.2 HRP.out; clear HQ HRP)
                    go_region_law (fail)
                    all_goals
                      rw [HJ4.out]
                      go_wp2
                      go_roundw
                      case rel => exact ⟨n + 1, updN u (i + n) x, by omega, by omega, by go_num, HX2.out, HS.out, HB.out.drewN.setCell (p := ⟨w.heap.size, i + n, none⟩) (Nat.le_refl _) (.int .i64 (x : Int))⟩
                      case measure => (simp [intOf]; try omega)
                  · have HN := Lib.hid (fwd_next HF.out (fun _ _ => hrp))
                    have HRP : Hid (¬ ∃ k, k < i ∧ same s k i n) := fun h => hrp ⟨hin, h⟩
                    clear hrp
                    go_wp2_with (go_at_call 62; refine (ahead_any s i n _ hin hs).mono ?_; rintro e w1 ⟨b, q, rfl, HQ, rfl⟩; obtain rfl : b = false := (by cases b with | false => rfl | true => exact absurd (HQ.1 rfl) HRP.out); clear HQ HRP)
                    go_roundw
                    case rel => exact ⟨i + 1, u, by omega, by go_num, HN.out, HR.out, HB.out.drewN⟩
                    case measure => (simp [intOf]; try omega)
                · have k3 : ¬ (i : Int) + (n : Int) ≤ (s.size : Int) := by omega
                  have HN := Lib.hid (fwd_next HF.out (fun _ h => absurd h hin))
                  go_wp2
                  go_roundw
                  case rel => exact ⟨i + 1, u, by omega, by go_num, HN.out, HR.out, HB.out⟩
                  case measure => (simp [intOf]; try omega)
              · have k1 : ¬ (n : Int) ≤ 66 := by omega
                have HN := Lib.hid (fwd_next HF.out (fun h => absurd h h66))
                go_wp2
                go_roundw
                case rel => exact ⟨i + 1, u, by omega, by go_num, HN.out, HR.out, HB.out⟩
                case measure => (simp [intOf]; try omega)
        · obtain rfl : i = s.size := by omega
          have i1 : ¬ ((s.size : Int)) < (s.size : Int) := by omega
          have HE := Lib.hid (fwd_done HF.out)
          have g0 := row_cell HR.out s.size
          rw [rowV_get _ (by omega)] at g0
          have i2 : (s.size : Int) < (s.size : Int) + 1 := by omega
          have i3 : s.size < s.size + 1 := by omega
          go_wp2
          go_ret
          exact ⟨v s.size, rfl, HE.out.lst hs, HB.out⟩
end Go.Proofs.Ytnnmiolgffcgkaa
