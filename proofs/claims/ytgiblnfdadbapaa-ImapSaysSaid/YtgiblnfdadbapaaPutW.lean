/- num.Put and its reference, walked: they return the varint of n. -/
import Derived.Test.YtgiblnfdadbapaaPutP
import Derived.Test.YtgiblnfdadbapaaOwn
import Derived.Deep.RegionWith
namespace Go.Proofs.Ytgiblnfdadbapaa
open Go.RowKit

theorem info_u8 : (Try.prog.info? 5).map (fun i => (i.zero, i.size, i.bytes)) = some (some (.int .u8 0), 1, 1) := by kernel_rfl

set_option maxRecDepth 20000 in
set_option maxHeartbeats 400000 in
theorem put_any (n : Int) (w : World) (h0 : 0 ≤ n) (h1 : n ≤ 18446744073709551615) :
    Calls Try.prog 10 #[.int .u64 n] w fun e w' => e = .returned (.string (strOfNums (putL n))) ∧ Below w.heap.size w w' := by
  go_enter Try.func10, Try.ntmps10
  go_wp2
  go_loopw [0, 3] (fun v0 v3 wr => ∃ (f : Nat) (m : Int) (bs : List Int), f ≤ 9 ∧ 0 ≤ m ∧ m ≤ 18446744073709551615 ∧ fits7 f m ∧ Hid (bs ++ putF f m = putL n) ∧ bs.length + f ≤ 9 ∧ v0 = .int .u64 m ∧ wr.ownsRow w.heap.size 5 1 v3 bs.length (bs.map (Value.int .u8)) ∧ Below w.heap.size w wr) (fun v0 _ _ => (intOf v0).toNat)
  case atStart => exact ⟨9, n, [], by omega, h0, h1, fits7_top h0 h1, by simp [Hid, putL], by simp, rfl, World.ownsRow_nil _ _ _ _, Below.refl _ _⟩
  case round =>
    obtain ⟨f, m, bs, hf, hm0, hm1, hm, hbs, hl, rfl, hown, hbel⟩ := hrel
    have hsz := hbel.size
    by_cases hlt : m < 128
    · go_wp2_with (first
        | (at_builtin; refine wpList_app1 rfl rfl Try.underlying41 info_u8 rfl (Nat.le_refl 1) hown rfl hsz rfl rfl ?_ ?_ ?_ ?_; simp [Value.oneCell']; unfold maxLen; omega; omega; intro v' w' hown' hleft hbk; have hown2 : w'.ownsRow w.heap.size 5 1 v' (bs.length + 1) ((bs ++ [m]).map (Value.int .u8)) := by simpa using hown')
        | (refine wpList_str rfl rfl Try.underlying41 Try.underlying5 Try.underlying9 hown2 rfl ?_))
      go_ret
      exact ⟨ret_s1 (by rw [← hbs.out, putF_small f m hlt]), hleft.below (Nat.le_refl _) hbel⟩
    · have hf0 : ∃ f', f = f' + 1 := by
        cases f with
        | zero => exact absurd (fits7_zero hm) hlt
        | succ f => exact ⟨f, rfl⟩
      obtain ⟨f, rfl⟩ := hf0
      go_wp2_with (first
        | (at_builtin; refine wpList_app1 rfl rfl Try.underlying41 info_u8 rfl (Nat.le_refl 1) hown rfl hsz rfl rfl ?_ ?_ ?_ ?_; simp [Value.oneCell']; unfold maxLen; omega; omega; intro v' w' hown' hleft hbk))
      rw [put_byte m] at hown'
      go_roundw
      case rel => exact ⟨f, m / 128, bs ++ [128 + m % 128], by omega, by omega, by omega, fits7_half hm, by simp only [Hid]; rw [← hbs.out, putF_large f m hlt]; simp, by simp; omega, by go_num, by simpa using hown', hleft.below (Nat.le_refl _) hbel⟩
      case measure => simp [intOf]; omega

set_option maxRecDepth 20000 in
set_option maxHeartbeats 400000 in
theorem putr_any (f : Nat) : ∀ (n : Int) (w : World), 0 ≤ n → fits7 f n → n ≤ 18446744073709551615 → f ≤ 9 →
    Calls Try.prog 12 #[.int .u64 n] w fun e w' => e = .returned (.string (strOfNums (putF f n))) ∧ Below w.heap.size w w' := by
  induction f with
  | zero =>
    intro m w h0 h1 h2 _
    have hlt := fits7_zero h1
    have hconv := run_str1 (P := Try.prog) Try.underlying41 Try.underlying5 Try.underlying9 m
    go_enter Try.func12, Try.ntmps12
    go_wp2_with fail
    go_ret
    exact ⟨rfl, (Below.refl _ _).alloc (Nat.le_refl _) _⟩
  | succ f ih =>
    intro m w h0 h1 h2 hf
    have HI := Lib.hid ih
    clear ih
    by_cases hlt : m < 128
    · have hconv := run_str1 (P := Try.prog) Try.underlying41 Try.underlying5 Try.underlying9 m
      go_enter Try.func12, Try.ntmps12
      go_wp2_with fail
      go_ret
      exact ⟨ret_s1 (by rw [putF_small _ _ hlt]), (Below.refl _ _).alloc (Nat.le_refl _) _⟩
    · have h1' := fits7_half h1
      have hconv := run_str1 (P := Try.prog) Try.underlying41 Try.underlying5 Try.underlying9 (128 + m % 128)
      have hl := putF_length f (m / 128)
      have hcat := run_cat (P := Try.prog) [128 + m % 128] (putF f (m / 128)) (by simp; omega)
      clear hl
      go_enter Try.func12, Try.ntmps12
      go_wp2_with fail
      have hq0 : 0 ≤ m / 128 := by omega
      have hq1 : m / 128 ≤ 18446744073709551615 := by omega
      have hf' : f ≤ 9 := by omega
      obtain ⟨e1, e2, e3, e4, e5⟩ := put_facts m h0 h2
      go_region_with (go_at_call 12; refine (HI.out _ _ hq0 h1' hq1 hf').mono ?_; rintro e w' ⟨rfl, hb⟩; obtain ⟨hcb, hfb⟩ := old_cells hb; clear hfb)
      all_goals
        go_wp2
        go_ret
        refine ⟨ret_s1 (by rw [putF_large f m (by omega)]), ?_⟩
        first
          | exact (((Below.refl _ _).alloc (Nat.le_refl _) _).drew).trans (hb.mono (by simp))
          | exact (((Below.refl _ _).drew).trans (hb.mono (by simp))).alloc (by have := hb.size; simpa using this) _
theorem putr_all (n : Int) (w : World) (h0 : 0 ≤ n) (h1 : n ≤ 18446744073709551615) :
    Calls Try.prog 12 #[.int .u64 n] w fun e w' => e = .returned (.string (strOfNums (putL n))) ∧ Below w.heap.size w w' :=
  putr_any 9 n w h0 (fits7_top h0 h1) h1 (Nat.le_refl _)
end Go.Proofs.Ytgiblnfdadbapaa
