/- glob.Quote, its reference and the law GlobQuotes, walked: both quote alike, at strings of at most 1048575 bytes. -/
import Derived.Test.YtepibmfpmnkhiaaQuoteP
import Derived.Test.YtepibmfpmnkhiaaShelf
namespace Go.Proofs.Ytepibmfpmnkhiaa
open Go.RowKit Go.PlainAid

theorem info_b : (Try.prog.info? 5).map (fun i => (i.zero, i.size, i.bytes)) = some (some (.int .u8 0), 1, 1) := by kernel_rfl

set_option maxHeartbeats 1000000 in
theorem quote_any (s : ByteArray) (w : World) (hs : s.size ≤ 1048575) :
    Calls Try.prog 23 #[.string s] w fun e w' => e = .returned (.string (strOfNums (quoteTo (bt s) s.size))) ∧ Below w.heap.size w w' := by
  have hgb := get_bt s
  go_enter Try.func23, Try.ntmps23
  go_wp2
  go_loopw [3, 7] (fun v3 v7 wr => ∃ (k : Nat) (xs : List Int), k ≤ s.size ∧ Hid (xs = quoteTo (bt s) k) ∧ xs.length ≤ 2 * k ∧ v7 = .int .i64 k ∧ wr.ownsRow w.heap.size 5 1 v3 xs.length (xs.map (Value.int .u8)) ∧ Below w.heap.size w wr) (fun _ v7 _ => s.size - (intOf v7).toNat)
  case atStart => exact ⟨0, [], Nat.zero_le _, rfl, by simp, rfl, World.ownsRow_nil _ _ _ _, Below.refl _ _⟩
  case round =>
    obtain ⟨k, xs, hk, hxs, hxl, rfl, hown, hb⟩ := hrel
    have hsz := hb.size
    by_cases hlt : k < s.size
    · have hb0 := bt_nonneg s k
      have hb1 := bt_le s k
      rcases special_cases (bt s k) with ⟨hsp, hc⟩ | ⟨hsp, hc1, hc2, hc3, hc4⟩
      · have Q := Lib.hid (quote_yes hsp)
        have HC := Lib.hid hc
        clear hsp hc
        rcases HC.out with hc | hc | hc | hc
        all_goals
          have HE := Lib.hid hc
          rw [hc] at Q hb0 hb1
          have hgk : ((s[k]'hlt).toNat : Int) = bt s k := hgb k hlt
          rw [hc] at hgk
          clear hc HC hgb
          go_wp2_with (first
            | (at_builtin; refine wpList_app1 rfl rfl Try.underlying65 info_b rfl (Nat.le_refl 1) hown rfl hsz rfl rfl ?_ ?_ ?_ ?_; simp [Value.oneCell']; unfold maxLen; omega; omega; intro v1 w1 hown1 hleft1 hbk1; have hsz1 := hleft1.size; have hsz2 : w.heap.size ≤ w1.heap.size := Nat.le_trans hsz hsz1)
            | (at_builtin; refine wpList_app1 rfl rfl Try.underlying65 info_b rfl (Nat.le_refl 1) hown1 rfl hsz2 rfl rfl ?_ ?_ ?_ ?_; simp [Value.oneCell']; unfold maxLen; omega; omega; intro v2 w2 hown2 hleft2 hbk2))
          go_roundw
          case rel =>
            refine ⟨k + 1, xs ++ [92, bt s k], by omega, by simp only [Hid]; rw [HE.out, Q.out, ← hxs.out], by simp; omega, by go_num, ?_, hleft2.below (Nat.le_refl _) (hleft1.below (Nat.le_refl _) hb)⟩
            rw [HE.out]
            simpa using hown2
          case measure => simp [intOf]; omega
      · have Q := Lib.hid (quote_no hsp)
        clear hsp
        go_wp2_with (at_builtin; refine wpList_app1 rfl rfl Try.underlying65 info_b rfl (Nat.le_refl 1) hown rfl hsz rfl rfl ?_ ?_ ?_ ?_; simp [Value.oneCell']; unfold maxLen; omega; omega; intro v' w' hown' hleft hbk)
        go_roundw
        case rel => exact ⟨k + 1, xs ++ [bt s k], by omega, by simp only [Hid]; rw [Q.out, ← hxs.out], by simp; omega, by go_num, by simpa using hown', hleft.below (Nat.le_refl _) hb⟩
        case measure => simp [intOf]; omega
    · go_wp2_with (refine wpList_str rfl rfl Try.underlying65 Try.underlying5 Try.underlying9 hown rfl ?_)
      go_ret
      exact ⟨ret_s1 (by rw [hxs.out, show k = s.size by omega]), hb⟩

theorem idx_any (c : Int) (w : World) :
    Calls Try.prog 47 #[.string ⟨#[42, 63, 91, 92]⟩, .int .u8 c] w fun e w' => e = .returned (.int .i64 (idx c)) ∧ w = w' :=
  (Try.strings_IndexByte _ c w).mono fun _ _ ⟨he, hw⟩ => ⟨he, hw.symm⟩

set_option maxHeartbeats 1000000 in
theorem quoter_any (s : ByteArray) (w : World) (hs : s.size ≤ 1048575) :
    Calls Try.prog 24 #[.string s] w fun e w' => e = .returned (.string (strOfNums (quoteTo (bt s) s.size))) ∧ Below w.heap.size w w' := by
  have hgb := get_bt s
  go_enter Try.func24, Try.ntmps24
  go_wp2
  go_loopw [3, 7] (fun v3 v7 wr => ∃ (k : Nat) (xs : List Int), k ≤ s.size ∧ Hid (xs = quoteTo (bt s) k) ∧ xs.length ≤ 2 * k ∧ v7 = .int .i64 k ∧ v3 = .string (strOfNums xs) ∧ Below w.heap.size w wr) (fun _ v7 _ => s.size - (intOf v7).toNat)
  case atStart => exact ⟨0, [], Nat.zero_le _, rfl, by simp, rfl, rfl, Below.refl _ _⟩
  case round =>
    obtain ⟨k, xs, hk, hxs, hxl, rfl, rfl, hb⟩ := hrel
    by_cases hlt : k < s.size
    · have hb0 := bt_nonneg s k
      have hb1 := bt_le s k
      have hsp := idx_spec (bt s k) hb0 hb1
      have hcat0 := strOfNums_cat (P := Try.prog) xs ⟨#[92]⟩ [92] rfl (by simp; omega)
      have hcat1 := strOfNums_cat (P := Try.prog) xs (s.extract k (k + 1)) [bt s k] (extract_one s k hlt) (by simp; omega)
      have hcat2 := strOfNums_cat (P := Try.prog) (xs ++ [92]) (s.extract k (k + 1)) [bt s k] (extract_one s k hlt) (by simp; omega)
      by_cases hi : 0 ≤ idx (bt s k)
      · have Q := Lib.hid (quote_yes (hsp.1 hi))
        clear hsp hcat1
        go_wp2_with (go_at_call 47; refine (idx_any _ _).mono ?_; rintro e w' ⟨rfl, rfl⟩)
        go_roundw
        case rel => exact ⟨k + 1, xs ++ [92, bt s k], by omega, by simp only [Hid]; rw [Q.out, ← hxs.out], by simp; omega, by go_num, rfl, hb⟩
        case measure => simp [intOf]; omega
      · have hf : special (bt s k) = false := by
          cases h : special (bt s k) with
          | false => rfl
          | true => exact absurd (hsp.2 h) hi
        have Q := Lib.hid (quote_no hf)
        clear hsp hcat0 hcat2 hf
        go_wp2_with (go_at_call 47; refine (idx_any _ _).mono ?_; rintro e w' ⟨rfl, rfl⟩)
        go_roundw
        case rel => exact ⟨k + 1, xs ++ [bt s k], by omega, by simp only [Hid]; rw [Q.out, ← hxs.out], by simp; omega, by go_num, rfl, hb⟩
        case measure => simp [intOf]; omega
    · go_wp2
      go_ret
      exact ⟨ret_s1 (by rw [hxs.out, show k = s.size by omega]), hb⟩

set_option maxHeartbeats 400000 in
theorem lGlobQuotes.walk (a0 : ByteArray) (w : World) (w0 : a0.size ≤ 1048575) :
    Calls Try.prog 7 #[.string a0] w fun e w' => e = .returned (.bool true) ∧ Below w.heap.size w w' := by
  go_enter Try.func7, Try.ntmps7
  go_wp2_with (first
    | (go_at_call 23; refine (quote_any _ _ w0).mono ?_; rintro e w1 ⟨rfl, hb1⟩)
    | (go_at_call 24; refine (quoter_any _ _ w0).mono ?_; rintro e w2 ⟨rfl, hb2⟩))
  go_ret
  exact ⟨rfl, hb1.trans (hb2.mono hb1.size)⟩
end Go.Proofs.Ytepibmfpmnkhiaa
