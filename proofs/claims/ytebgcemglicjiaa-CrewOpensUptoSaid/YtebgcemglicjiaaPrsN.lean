/- press's reader: num, walked. -/
import Derived.Test.YtebgcemglicjiaaPrJa
import Derived.Test.YtebgcemglicjiaaGetW
import Derived.Test.YtebgcemglicjiaaOwJa
namespace Go.Proofs.Ytebgcemglicjiaa
open Go.RowKit Go.PlainAid

set_option maxRecDepth 20000 in
set_option maxHeartbeats 400000 in
theorem rnum_any (s : ByteArray) (B : Nat) (W : World) (row : W.heap[B]? = some (.cells #[.string s, .bool false] 57 (0, 0))) (_hs : s.size ≤ 1048575) :
    Calls Try.prog 17 #[.pointer (some ⟨B, 0, none⟩), .int .u64 512] W fun e w' =>
      (gOk s ∧ e = .returned (.int .i64 (getV (bt s) s.size)) ∧ w' = W.setCell ⟨B, 0, none⟩ (.string (cutB s (getN (bt s) s.size).toNat))) ∨ (¬ gOk s ∧ e = .returned (.int .i64 0) ∧ w' = W.setCell ⟨B, 1, none⟩ (.bool true)) := by
  have c0 := row_cell row 0
  have c1 := row_cell row 1
  have f0 := row_cold row 0
  have f1 := row_cold row 1
  have HG := Lib.hid (get_any s W)
  have hv0 : 0 ≤ getV (bt s) s.size := by unfold getV; split; exact (vsum_bd _ _).1; omega
  have hv1 : getV (bt s) s.size < 18446744073709551616 := by
    unfold getV; split
    · rename_i h; exact vsum_top _ _ (bt_nonneg s) h
    · omega
  by_cases hE : getE (bt s) s.size = 0
  · have hk := get_end hE
    have e1 : (getE (bt s) s.size != 0) = false := by rw [hE]; rfl
    by_cases hV : getV (bt s) s.size ≤ 512
    · have HP : Hid (gOk s) := ⟨hE, hV⟩
      have d1 := decide_eq_false (show ¬ 512 < getV (bt s) s.size by omega)
      clear hE row
      generalize getV (bt s) s.size = v at *
      generalize getE (bt s) s.size = e at *
      obtain ⟨k, hkk⟩ := Int.eq_ofNat_of_zero_le (show 0 ≤ getN (bt s) s.size by omega)
      rw [hkk] at hk HG ⊢
      clear hkk
      have hk2 : k ≤ s.size := by omega
      go_enter Try.func17, Try.ntmps17
      go_wp2_with (go_at_call 47; refine HG.out.mono ?_; rintro e w' ⟨rfl, rfl⟩)
      go_ret
      exact .inl ⟨HP.out, rfl, rfl⟩
    · have HP : Hid (¬ gOk s) := fun h => hV h.2
      have d1 := decide_eq_true (show 512 < getV (bt s) s.size by omega)
      clear hE row hk
      generalize getV (bt s) s.size = v at *
      generalize getE (bt s) s.size = e at *
      generalize getN (bt s) s.size = k at *
      go_enter Try.func17, Try.ntmps17
      go_wp2_with (go_at_call 47; refine HG.out.mono ?_; rintro e w' ⟨rfl, rfl⟩)
      go_ret
      exact .inr ⟨HP.out, rfl, rfl⟩
  · have HP : Hid (¬ gOk s) := fun h => hE h.1
    have e1 : (getE (bt s) s.size != 0) = true := by simpa using hE
    clear hE row
    generalize getV (bt s) s.size = v at *
    generalize getE (bt s) s.size = e at *
    generalize getN (bt s) s.size = k at *
    go_enter Try.func17, Try.ntmps17
    go_wp2_with (go_at_call 47; refine HG.out.mono ?_; rintro e w' ⟨rfl, rfl⟩)
    go_ret
    exact .inr ⟨HP.out, rfl, rfl⟩
end Go.Proofs.Ytebgcemglicjiaa
