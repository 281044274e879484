/- strings.ContainsAny of a short text of whatever bytes and the two bytes '/' and 0, walked. -/
import Derived.Test.YtnnmiolgffcgkaaShelf
import Derived.Test.YtnnmiolgffcgkaaKit
import Derived.Test.YtnnmiolgffcgkaaStep
import Derived.Lib.Hide
import Derived.Laws.Runes
import Derived.Laws.RangeAny
import Derived.Laws.BitsLemmas
import Derived.WalkLawsBesides
import Derived.WalkMore
import Derived.Deep.QuietTactic
namespace Go.Proofs.Ytnnmiolgffcgkaa
open Go.RowKit

abbrev sl0 : ByteArray := ⟨#[47, 0]⟩
theorem valid_eq (r : Int) : Utf8.valid r = Lib.validRune r := by
  simp only [Utf8.valid, Lib.validRune]
  by_cases h : (0 ≤ r ∧ r < 55296) ∨ (57343 < r ∧ r ≤ 1114111)
  · rw [decide_eq_true h]; rcases h with h | h <;> simp <;> omega
  · rw [decide_eq_false h]; simp; omega
theorem below_iter (w : World) (s : ByteArray) (p : Nat) : Below w.heap.size w (w.iter s p) := (Below.refl _ _).alloc (Nat.le_refl _) _

set_option maxRecDepth 100000 in
set_option maxHeartbeats 2000000 in
/-- IndexRune in "/\0" of a rune that is no ASCII. -/
theorem irune_none (r : Int) (h0 : 128 ≤ r) (h1 : r ≤ 2147483647) (w : World) :
    Calls Try.prog 123 #[.string sl0, .int .i32 r] w fun e w' => e = .returned (.int .i64 (-1)) ∧ Below w.heap.size w w' := by
  by_cases hE : r = 65533
  · subst hE
    have n0 : ∀ ty, (Instr.next (.pointer (some ⟨w.heap.size, 0, none⟩)) true ty).run Try.prog (w.iter sl0 0) = .ok (.tuple #[.bool true, .int .i64 0, .int .i32 47]) (w.iter sl0 1) := fun ty => run_next_ascii (P := Try.prog) w sl0 0 ty (by decide) (by decide)
    have n1 : ∀ ty, (Instr.next (.pointer (some ⟨w.heap.size, 0, none⟩)) true ty).run Try.prog (w.iter sl0 1) = .ok (.tuple #[.bool true, .int .i64 1, .int .i32 0]) (w.iter sl0 2) := fun ty => run_next_ascii (P := Try.prog) w sl0 1 ty (by decide) (by decide)
    have n2 := fun ty => run_next_end (P := Try.prog) w sl0 2 ty (by decide)
    go_enter Try.func123, Try.ntmps123
    go_wp2
    go_loopw [5, 6] (fun v5 v6 wr => ∃ i : Nat, i ≤ 2 ∧ wr = w.iter sl0 i) (fun _ _ wr => 2 - wr.iterPos w.heap.size)
    case atStart => exact ⟨0, by omega, rfl⟩
    case round =>
      obtain ⟨i, hi, rfl⟩ := hrel
      rcases (show i = 0 ∨ i = 1 ∨ i = 2 by omega) with rfl | rfl | rfl
      · go_wp2
        go_roundw
        case rel => exact ⟨1, by omega, rfl⟩
        case measure => simp
      · go_wp2
        go_roundw
        case rel => exact ⟨2, by omega, rfl⟩
        case measure => simp
      · go_wp2
        go_ret
        exact ⟨rfl, below_iter _ _ _⟩
  · have hE2 : (r == 65533) = false := beq_eq_false_iff_ne.2 hE
    have HV : Hid (∀ W, Calls Try.prog 132 #[.int .i32 r] W fun e w' => e = .returned (.bool (Lib.validRune r)) ∧ w' = W) := fun W => Try.utf8_ValidRune r W
    by_cases hv : Lib.validRune r = true
    · rw [hv] at HV
      obtain ⟨f1, f2, f3⟩ := encode_facts r (by rw [valid_eq]; exact hv) h0
      generalize hen : Utf8.encode r = en at *
      have HEN := Lib.hid hen
      obtain ⟨m, hm⟩ : ∃ m, en.size = m + 1 := ⟨en.size - 1, by omega⟩
      have hml : m ≤ 3 := by omega
      have hm1 : 1 ≤ m := by omega
      have hmi : ((en.size : Nat) : Int) = (m : Int) + 1 := by omega
      have HIB : Hid (∀ (x : Int) W, Calls Try.prog 131 #[.string ByteArray.empty, .int .u8 x] W fun e w' => e = .returned (.int .i64 (-1)) ∧ w' = W) := fun x W => Try.strings_IndexByte ByteArray.empty x W
      clear hv hen f1 f2
      go_enter Try.func123, Try.ntmps123
      go_wp2_with (go_at_call 132; refine (HV.out _).mono ?_; rintro e w' ⟨rfl, hw'⟩; rw [hw']; clear hw')
      have hcv : ∀ W : World, (convert 21 9 (.int .i32 r)).run Try.prog W = .ok (.string en) W := fun W => by
        rw [run_convert_int_string (P := Try.prog) W 21 9 .i32 r (by rw [Try.underlying21]; rfl) Try.underlying9, HEN.out]
      go_step3
      go_wp2
      go_loopw [9] (fun v9 wr => v9 = .int .i64 m ∧ wr = w) (fun _ _ => 0)
      case atStart => exact ⟨by go_num, rfl⟩
      case round =>
        obtain ⟨rfl, rfl⟩ := hrel
        by_cases hm2 : m = 1
        · subst hm2
          have h2 : (en.size : Int) = 2 := by omega
          have h3 : 1 < en.size := by omega
          obtain ⟨y, hy⟩ : ∃ y : Nat, (en[1]'h3).toNat = y := ⟨_, rfl⟩
          have hy128 : 128 ≤ y := by
            have := f3 (by omega)
            rw [← hy]
            have e : en[en.size - 1]'(by omega) = en[1]'h3 := by congr 1; omega
            rw [e] at this
            exact this
          have hy256 : y < 256 := by rw [← hy]; exact UInt8.toNat_lt _
          have hy' : ∀ h : 1 < en.size, ((en[1]'h).toNat) = y := fun _ => hy
          have hex : sl0.extract 2 2 = ⟨#[]⟩ := by decide
          have hsz : sl0.size = 2 := rfl
          have hw2 : IntKind.i64.wrap 2 = 2 := by decide
          have hw3 : IntKind.i64.wrap (1 + 1) = 2 := by decide
          have hg1 : ∀ h : 1 < sl0.size, ((sl0[1]'h).toNat) = 0 := fun _ => rfl
          have hn1 : ((0 : Int) != (y : Int)) = true := bne_iff_ne.2 (by omega)
          clear f3 hm hml hm1 hmi hy
          go_wp2
          go_step3
          go_upto_region 6 with fail
          go_quiet (fail)
          go_upto_region 7 with fail
          have hbd : Below wr.heap.size wr (wr.drewN nq) := below_drewN (Below.refl wr.heap.size wr) nq
          generalize wr.drewN nq = wd at *
          go_quiet ((go_at_call 131; exact Calls.quiet_of_same (HIB.out _ _)))
          go_wp2
          rw [Exit.noGoto_ret]
          go_wp2
          rw [Exit.noGoto_ret]
          go_wp2
          go_ret
          exact ⟨rfl, below_drewN hbd nq⟩
        · have hm3 : ¬ (m : Int) < 2 := by omega
          go_wp2
          go_ret
          exact ⟨rfl, Below.refl _ _⟩
    · have hv' : Lib.validRune r = false := by simpa using hv
      rw [hv'] at HV
      clear hv hv'
      go_enter Try.func123, Try.ntmps123
      go_wp2_with (go_at_call 132; refine (HV.out _).mono ?_; rintro e w' ⟨rfl, hw'⟩; rw [hw']; clear hw')
      go_ret
      exact ⟨rfl, Below.refl _ _⟩
end Go.Proofs.Ytnnmiolgffcgkaa
