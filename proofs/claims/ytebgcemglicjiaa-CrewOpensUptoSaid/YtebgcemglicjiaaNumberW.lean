/- linenref.Number, walked: a number out of at most 64 bits. -/
import Derived.Test.YtebgcemglicjiaaPlJb
import Derived.Test.YtebgcemglicjiaaOwJa
namespace Go.Proofs.Ytebgcemglicjiaa
open Go.RowKit

theorem horn_drop {xs : List Int} {k : Nat} {x : Int} (h : xs[k]? = some x) : horn (xs.drop k) = x + 2 * horn (xs.drop (k + 1)) := by
  have hk : k < xs.length := (List.getElem?_eq_some_iff.1 h).1
  rw [List.drop_eq_getElem_cons hk]
  have : xs[k] = x := (List.getElem?_eq_some_iff.1 h).2
  simp only [horn, this]
theorem pow_le63 {n : Nat} (h : n ≤ 63) : (2 : Int) ^ n ≤ 9223372036854775808 := by
  have : (2 : Nat) ^ n ≤ 2 ^ 63 := Nat.pow_le_pow_right (by omega) h
  have h2 : ((2 ^ n : Nat) : Int) ≤ ((2 ^ 63 : Nat) : Int) := by exact_mod_cast this
  simpa using h2

set_option maxRecDepth 20000 in
set_option maxHeartbeats 400000 in
theorem number_any (A : Option Addr) (n c : Nat) (xs : List Int) (B : Nat) (w : World) (r : RowsIn w B A n c (fun z => [.int .i64 z]) 1 xs) (hb : ∀ x ∈ xs, 0 ≤ x ∧ x ≤ 1) (hn : n ≤ 64) :
    Calls Try.prog 27 #[.slice A n c] w fun e w' => e = .returned (.int .u64 (horn xs)) ∧ w = w' := by
  have hlen := r.len
  subst hlen
  have HB := Lib.hid hb
  clear hb
  go_enter Try.func27, Try.ntmps27
  go_wp2
  go_loop [3, 4] (fun v3 v4 => ∃ i v : Int, -1 ≤ i ∧ i < xs.length ∧ Hid (v = horn (xs.drop (i + 1).toNat)) ∧ v4 = .int .i64 i ∧ v3 = .int .u64 v) (fun _ v4 => (intOf v4 + 1).toNat)
  case atStart => exact ⟨xs.length - 1, 0, by omega, by omega, by simp only [Hid]; rw [List.drop_eq_nil_of_le (by omega)]; rfl, by go_num, rfl⟩
  case round =>
    obtain ⟨i, v, hi0, hi1, hv, rfl, rfl⟩ := hrel
    by_cases hi : 0 ≤ i
    · obtain ⟨k, rfl⟩ : ∃ k : Nat, i = k := ⟨i.toNat, by omega⟩
      have hk : k < xs.length := by omega
      have e1 := List.getElem?_eq_getElem hk
      obtain ⟨b, o, rfl, hbB, hc⟩ := r.one e1
      have hx := HB.out xs[k] (List.getElem_mem hk)
      have hd := horn_drop e1
      generalize xs[k] = x at *
      have hbd := horn_bd (xs.drop (k + 1)) (fun y hy => HB.out y (List.mem_of_mem_drop hy))
      rw [List.length_drop] at hbd
      have hp := pow_le63 (n := xs.length - (k + 1)) (by omega)
      have hv2 : v = horn (xs.drop (k + 1)) := by rw [hv.out, show ((k : Int) + 1).toNat = k + 1 by omega]
      rw [← hv2] at hd hbd
      have hv0 : 0 ≤ v := hbd.1
      have hv1 : v < 9223372036854775808 := Int.lt_of_lt_of_le hbd.2 hp
      have HD := Lib.hid hd
      clear hd hbd hp hv2 hv e1
      go_wp2
      go_round
      case rel => exact ⟨(k : Int) - 1, x + 2 * v, by omega, by omega, by simp only [Hid]; rw [show ((k : Int) - 1 + 1).toNat = k by omega, HD.out], by go_num, val_int (by omega)⟩
      case measure => (simp [intOf]; try omega)
    · have F : Hid (v = horn xs) := by simp only [Hid]; rw [hv.out, show (i + 1).toNat = 0 by omega]; rfl
      go_wp2
      go_ret
      exact ⟨ret_i1 F.out, rfl⟩
end Go.Proofs.Ytebgcemglicjiaa
