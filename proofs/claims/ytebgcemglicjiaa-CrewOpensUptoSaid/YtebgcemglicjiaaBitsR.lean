/- linenref.Bits, walked. -/
import Derived.Test.YtebgcemglicjiaaDcJa
import Derived.Test.YtebgcemglicjiaaOwJa
import Derived.Test.YtebgcemglicjiaaCanonR
namespace Go.Proofs.Ytebgcemglicjiaa
open Go.RowKit Go.PlainAid

def tbN (s : ByteArray) (k : Nat) : List Int := (List.range k).map (tb s)
theorem tbN_succ (s : ByteArray) (k : Nat) : (tbN s (k + 1)).map (Value.int .i64) = (tbN s k).map (Value.int .i64) ++ [.int .i64 (tb s k)] := by simp [tbN, List.range_succ]
theorem and_one_i64 (n : Int) : bits .and .i64 n 1 = n % 2 := by
  have h127 : (BitVec.ofInt 64 1).toNat = 2 ^ 1 - 1 := by decide
  have key : (BitVec.ofInt 64 n &&& BitVec.ofInt 64 1).toNat = (n % ((2 ^ 64 : Nat) : Int)).toNat % 2 ^ 1 := by
    rw [BitVec.toNat_and, BitVec.toNat_ofInt, h127, Nat.and_two_pow_sub_one_eq_mod]
  show IntKind.i64.wrap ((BitVec.ofInt 64 n &&& BitVec.ofInt 64 1).toNat : Nat) = n % 2
  rw [key, IntKind.wrap_i64]
  omega

set_option maxRecDepth 20000 in
set_option maxHeartbeats 1000000 in
theorem bitsr_any (s : ByteArray) (w : World) (hs : s.size ≤ 1048575) :
    Calls Try.prog 24 #[.string s] w fun e w' => ∃ A c, e = .returned (.slice A (8 * s.size) c) ∧ RowsIn w' w'.heap.size A (8 * s.size) c (fun z => [.int .i64 z]) 1 (tbL s) ∧ Below w.heap.size w w' := by
  have hgb := Lib.hid (get_bt s)
  go_enter Try.func24, Try.ntmps24
  go_wp2
  go_loopw [3, 4, 5, 8] (fun v3 _ _ v8 wr => ∃ i : Nat, i ≤ s.size ∧ v8 = .int .i64 i ∧ Owns wr w.heap.size 1 v3 (8 * i) ((tbN s (8 * i)).map (Value.int .i64)) ∧ Below w.heap.size w wr) (fun _ _ _ v8 _ => s.size - (intOf v8).toNat)
  case atStart => exact ⟨0, Nat.zero_le _, rfl, Owns.nil _ _ _, Below.refl _ _⟩
  case round =>
    obtain ⟨i, hi, rfl, hown, hb⟩ := hrel
    by_cases hlt : i < s.size
    · have i1 : (i : Int) < (s.size : Int) := by omega
      obtain ⟨wo, rfl⟩ : ∃ wo : World, wo = wr := ⟨_, rfl⟩
      go_wp2
      go_loopw [3, 5, 11] (fun v3 _ v11 wi => ∃ k : Nat, k ≤ 8 ∧ v11 = .int .i64 k ∧ Owns wi w.heap.size 1 v3 (8 * i + k) ((tbN s (8 * i + k)).map (Value.int .i64)) ∧ Below w.heap.size w wi) (fun _ _ v11 _ => 8 - (intOf v11).toNat)
      case atStart => exact ⟨0, by omega, rfl, hown, hb⟩
      case round =>
        obtain ⟨k, hk, rfl, hown', hb'⟩ := hrel
        obtain ⟨AO, cO, rfl⟩ := hown'.form
        have hsz := hb'.size
        by_cases hkt : k < 8
        · have k1 : (k : Int) < 8 := by omega
          have hx := hgb.out i hlt
          have h0 := bt_nonneg s i
          have h1 := bt_le s i
          have HN := Lib.hid (tbN_succ s (8 * i + k))
          have htb : tb s (8 * i + k) = bt s i / 2 ^ k % 2 := by
            unfold tb; rw [show (8 * i + k) / 8 = i by omega, show (8 * i + k) % 8 = k by omega]
          have hp2 : (0 : Int) < 2 ^ k := Int.pow_pos (by decide)
          have hband : bits .and .i64 (bt s i / 2 ^ k) 1 = tb s (8 * i + k) := by
            rw [htb]; exact and_one_i64 _
          generalize tb s (8 * i + k) = V at *
          generalize hU : (tbN s (8 * i + k)).map (Value.int .i64) = U at *
          have HU := Lib.hid hU
          have HBB := Lib.hid hb'
          clear htb hp2 hown hb hU hb'
          go_wp2_with (at_builtin; refine wpList_add1 rfl rfl Try.underlying63 info_i64c rfl (Nat.le_refl 1) hown' rfl hsz rfl rfl rfl ?_ ?_ ?_ ?_; simp [Value.oneCell']; (unfold maxLen; omega); omega; intro A3 c3 w3 hown3 hl3 hbk3)
          have HO3 := Lib.hid hown3
          have HB3 := Lib.hid (hl3.below (Nat.le_refl _) HBB.out)
          clear hown3 hl3 hbk3 hown' hband hx
          refine ⟨⟨k + 1, by omega, by go_num, by rw [← Nat.add_assoc, HN.out]; exact HO3.out, HB3.out⟩, ?_⟩
          simp [intOf]; omega
        · have k1 : ¬ (k : Int) < 8 := by omega
          have hk8 : k = 8 := by omega
          have HOO : Hid (Owns wr w.heap.size 1 (.slice AO (8 * (i + 1)) cO) (8 * (i + 1)) ((tbN s (8 * (i + 1))).map (Value.int .i64))) := by
            rw [show 8 * (i + 1) = 8 * i + k by omega]; exact hown'
          have HBB := Lib.hid hb'
          have hq : 8 * i + k = 8 * (i + 1) := by omega
          rw [hq] at *
          clear hown' hb' hown hb hq hk8
          go_wp2
          refine ⟨⟨i + 1, by omega, by go_num, HOO.out, HBB.out⟩, ?_⟩
          simp [intOf]; omega
    · obtain rfl : i = s.size := by omega
      obtain ⟨AO, cO, rfl⟩ := hown.form
      have k1 : ¬ (s.size : Int) < (s.size : Int) := by omega
      have HOO : Hid (RowsIn wr wr.heap.size AO (8 * s.size) cO (fun z => [.int .i64 z]) 1 (tbL s)) := own_intsC hown
      have HBB := Lib.hid hb
      clear hown hb
      go_wp2
      go_ret
      exact ⟨AO, cO, rfl, HOO.out, HBB.out⟩
end Go.Proofs.Ytebgcemglicjiaa
