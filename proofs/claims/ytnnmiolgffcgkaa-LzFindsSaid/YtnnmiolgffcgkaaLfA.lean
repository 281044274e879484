/- linenref.ahead, walked. -/
import Derived.Test.YtnnmiolgffcgkaaLfP
import Derived.Test.YtnnmiolgffcgkaaOwn
import Derived.Deep.QuietTactic
import Derived.BigQuiet
namespace Go.Proofs.Ytnnmiolgffcgkaa
open Go.RowKit Go.PlainAid

theorem ext_bt {s : ByteArray} {k n j : Nat} (hk : k + n ≤ s.size) (hj : j < n) : bt (s.extract k (k + n)) j = bt s (k + j) := by
  have hsz : (s.extract k (k + n)).size = n := by simp [ByteArray.size_extract]; omega
  rw [← get_bt _ j (by omega), ← get_bt s (k + j) (by omega)]
  congr 2
  simp [ByteArray.getElem_extract]
theorem ext_same {s : ByteArray} {k i n : Nat} (hk : k + n ≤ s.size) (hi : i + n ≤ s.size) : s.extract k (k + n) = s.extract i (i + n) ↔ same s k i n := by
  constructor
  · intro h j hj
    rw [← ext_bt hk hj, h, ext_bt hi hj]
  · intro h
    have h1 : (s.extract k (k + n)).size = n := by simp [ByteArray.size_extract]; omega
    have h2 : (s.extract i (i + n)).size = n := by simp [ByteArray.size_extract]; omega
    apply ByteArray.ext
    apply Array.ext
    · show (s.extract k (k + n)).size = (s.extract i (i + n)).size
      omega
    · intro j hj1 hj2
      have hj : j < n := by
        have : (s.extract k (k + n)).data.size = n := h1
        omega
      have e := h j hj
      rw [← ext_bt hk hj, ← ext_bt hi hj, ← get_bt _ j (by omega), ← get_bt _ j (by omega)] at e
      have e2 : ((s.extract k (k + n))[j]'(by omega)).toNat = ((s.extract i (i + n))[j]'(by omega)).toNat := by omega
      exact UInt8.toNat_inj.1 e2

def AhPost (s : ByteArray) (i n : Nat) (w : World) (e : Ending) (w' : World) : Prop := ∃ (b : Bool) (q : Nat), e = .returned (.bool b) ∧ (b = true ↔ ∃ k, k < i ∧ same s k i n) ∧ w' = w.drewN q
theorem drewN_two (w : World) (a b : Nat) : (w.drewN a).drewN b = w.drewN (a + b) := by
  simp [World.drewN, Nat.add_assoc]
set_option maxRecDepth 20000 in
set_option maxHeartbeats 1000000 in
theorem ahead_any (s : ByteArray) (i n : Nat) (w : World) (hin : i + n ≤ s.size) (hs : s.size ≤ 512) :
    Calls Try.prog 62 #[.string s, .int .i64 i, .int .i64 n] w (AhPost s i n w) := by
  have HS := Lib.hid (fun k (hk : k + n ≤ s.size) => ext_same (s := s) (k := k) (i := i) (n := n) hk hin)
  go_enter Try.func62, Try.ntmps62
  go_wp2
  go_loopw [7, 9] (fun _ v9 wr => ∃ k q : Nat, k ≤ i ∧ v9 = .int .i64 k ∧ Hid (∀ j, j < k → ¬ same s j i n) ∧ wr = w.drewN q) (fun _ v9 _ => i - (intOf v9).toNat)
  case atStart => exact ⟨0, 0, Nat.zero_le _, rfl, fun j h => by omega, rfl⟩
  case round =>
    obtain ⟨k, q, hk, rfl, HZ, rfl⟩ := hrel
    by_cases hlt : k < i
    · have i1 : (k : Int) < (i : Int) := by omega
      have hkn : k + n ≤ s.size := by omega
      have p1 : IntKind.i64.wrap ((k : Int) + (n : Int)) = (k : Int) + (n : Int) := by rw [IntKind.wrap_i64]; omega
      have p2 : ((k : Int) + (n : Int)).toNat = k + n := by omega
      have p3 : IntKind.i64.wrap ((i : Int) + (n : Int)) = (i : Int) + (n : Int) := by rw [IntKind.wrap_i64]; omega
      have p4 : ((i : Int) + (n : Int)).toNat = i + n := by omega
      have p5 : (0 : Int) ≤ (k : Int) + (n : Int) := by omega
      have p6 : (0 : Int) ≤ (i : Int) + (n : Int) := by omega
      have p7 : (k : Int) + (n : Int) ≤ (s.size : Int) := by omega
      have p8 : (i : Int) + (n : Int) ≤ (s.size : Int) := by omega
      have p9 : (k : Int) ≤ (k : Int) + (n : Int) := by omega
      have p10 : (i : Int) ≤ (i : Int) + (n : Int) := by omega
      have p11 : k ≤ k + n := by omega
      have p12 : i ≤ i + n := by omega
      by_cases hq : same s k i n
      · have e1 : ((s.extract k (k + n)).toList == (s.extract i (i + n)).toList) = true := by rw [(HS.out k hkn).2 hq]; exact beq_self_eq_true _
        have HP : Hid (∃ k, k < i ∧ same s k i n) := ⟨k, hlt, hq⟩
        clear hq
        go_wp2
        go_quiet (fail)
        go_wp2
        go_ret
        exact ⟨true, q + nq, rfl, ⟨fun _ => HP.out, fun _ => rfl⟩, by first | rfl | exact drewN_two w q nq⟩
      · have e1 : ((s.extract k (k + n)).toList == (s.extract i (i + n)).toList) = false := str_ne (fun e => hq ((HS.out k hkn).1 e))
        have HZ2 : Hid (∀ j, j < k + 1 → ¬ same s j i n) := fun j hj => by
          by_cases e : j = k
          · subst e; exact hq
          · exact HZ.out j (by omega)
        clear hq
        go_wp2
        go_quiet (fail)
        go_wp2
        go_roundw
        case rel => exact ⟨k + 1, q + nq, by omega, by go_num, HZ2.out, by first | rfl | exact drewN_two w q nq⟩
        case measure => (simp [intOf]; try omega)
    · obtain rfl : k = i := by omega
      have i1 : ¬ (k : Int) < (k : Int) := by omega
      go_wp2
      go_ret
      exact ⟨false, q, rfl, ⟨(fun h => by cases h), fun ⟨j, h1, h2⟩ => absurd h2 (HZ.out j h1)⟩, rfl⟩
end Go.Proofs.Ytnnmiolgffcgkaa
