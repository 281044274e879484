/- runs.Write and its reference, walked: what they write, and which error they say. -/
import Derived.Test.YtepibmfpmnkhiaaRunsP
import Derived.Test.YtepibmfpmnkhiaaPutW
import Derived.Test.YtepibmfpmnkhiaaMem
namespace Go.Proofs.Ytepibmfpmnkhiaa
open Go.RowKit

theorem info_u8r : (Try.prog.info? 5).map (fun i => (i.zero, i.size, i.bytes)) = some (some (.int .u8 0), 1, 1) := by kernel_rfl

theorem or_small (x m : Int) (h0 : 0 ≤ x) (h1 : x ≤ 15) (h2 : 0 ≤ m) (h3 : m ≤ 15) : bits .or .i64 (x * 16) m = 16 * x + m := by
  have key : ∀ a : Fin 16, ∀ b : Fin 16, bits .or .i64 ((a.val : Int) * 16) (b.val : Int) = 16 * (a.val : Int) + (b.val : Int) := by decide +kernel
  obtain ⟨a, rfl⟩ := Int.eq_ofNat_of_zero_le h0
  obtain ⟨b, rfl⟩ := Int.eq_ofNat_of_zero_le h2
  exact key ⟨a, by omega⟩ ⟨b, by omega⟩

set_option maxRecDepth 20000 in
set_option maxHeartbeats 1000000 in
theorem runs_any (A : Option Addr) (n c : Nat) (xs : List Int) (w : World) (r : RowsIn w w.heap.size A n c (fun z => [.int .i64 z]) 1 xs) :
    Calls Try.prog 33 #[.slice A n c] w fun e w' => e = .returned (.tuple #[.string (strOfNums (runsS xs)), .int .i64 (runsE xs)]) ∧ Below w.heap.size w w' := by
  have hlen := r.len
  obtain rfl := hlen
  by_cases hL : 320 < xs.length
  · have F := Lib.hid (runs_large hL)
    go_enter Try.func33, Try.ntmps33
    go_wp2
    go_ret2
    exact ⟨ret_s2 (by rw [F.out.1]; rfl) F.out.2.symm, Below.refl _ _⟩
  · rcases first_bad xs with hall | ⟨j, y, hj, hy, hbef⟩
    · have F := Lib.hid (runs_ok (by omega) hall)
      have HA := Lib.hid hall
      clear hall
      go_enter Try.func33, Try.ntmps33
      go_wp2
      go_loop [14] (fun v14 => ∃ k : Nat, k ≤ xs.length ∧ v14 = .int .i64 k) (fun v14 => xs.length - (intOf v14).toNat)
      case atStart => exact ⟨0, Nat.zero_le _, rfl⟩
      case round =>
        obtain ⟨k, hk, rfl⟩ := hrel
        by_cases hlt : k < xs.length
        · obtain ⟨b, o, rfl, hb, hc⟩ := r.one (List.getElem?_eq_getElem hlt)
          have hx := HA.out xs[k] (List.getElem_mem hlt)
          generalize xs[k] = x at *
          go_wp2
          go_round
          case rel => exact ⟨k + 1, by omega, by go_num⟩
          case measure => simp [intOf]; omega
        · have HB := Lib.hid (putL_bytes (xs.length : Int) (by omega) (by omega))
          have hpl := putL_length (xs.length : Int)
          have e0 : IntKind.u64.wrap (xs.length : Int) = (xs.length : Int) := by rw [IntKind.wrap_u64]; omega
          have E0 := Lib.hid e0
          clear e0
          generalize hpu : putL (xs.length : Int) = pu at *
          have HPU := Lib.hid hpu
          clear hpu
          go_wp2_with (first
            | (go_at_call 31; refine (put_any _ _ (by omega) (by omega)).mono ?_; rintro e w1 ⟨rfl, hb1⟩; rw [HPU.out])
            | (refine wpList_bytes rfl rfl Try.underlying9 Try.underlying65 Try.underlying5 rfl HB.out ?_ ?_; unfold maxLen; omega; intro A2 c2 w2 hown2 hl2))
          go_loopw [6, 7] (fun v6 v7 wr => ∃ (k : Nat) (O : List Int) (m : Nat) (la : Int), k ≤ xs.length ∧ O.length ≤ k ∧ Hid (runsOf (xs.take k) = ⟨O, m, la⟩) ∧ Hid (∀ y, xs[k]? = some y → ¬ (0 < m ∧ m < 16 ∧ la = y)) ∧ v7 = .int .i64 k ∧ Owns wr w.heap.size 1 v6 (pu.length + O.length) ((pu ++ O).map (Value.int .u8)) ∧ Below w.heap.size w wr) (fun _ v7 _ => xs.length - (intOf v7).toNat)
          case atStart =>
            refine ⟨0, [], 0, 0, by omega, by simp, by simp [Hid, runsOf_nil], fun y _ h => by omega, rfl, by simpa using hown2.more hb1.size, ?_⟩
            exact hl2.below hb1.size hb1
          case round =>
            obtain ⟨k, O, m, la, hk, hO, hR, hN, rfl, hown, hb⟩ := hrel
            obtain ⟨AO, cO, rfl⟩ := hown.form
            by_cases hlt : k < xs.length
            · obtain ⟨b, o, rfl, hbB, hc⟩ := (r.below hb).one (List.getElem?_eq_getElem hlt)
              have hx := HA.out xs[k] (List.getElem_mem hlt)
              obtain ⟨x, hxe⟩ : ∃ x, x = xs[k] := ⟨_, rfl⟩
              rw [← hxe] at hx hc
              have HX := Lib.hid hxe
              clear hxe
              obtain ⟨wo, rfl⟩ : ∃ wo : World, wo = wr := ⟨_, rfl⟩
              go_wp2
              go_loopw [8] (fun v8 wi => ∃ n : Nat, 1 ≤ n ∧ n ≤ 16 ∧ k + n ≤ xs.length ∧ Hid (runsOf (xs.take (k + n)) = ⟨O ++ [16 * x + ((n : Int) - 1)], n, x⟩) ∧ v8 = .int .i64 n ∧ Owns wi w.heap.size 1 (.slice AO (pu.length + O.length) cO) (pu.length + O.length) ((pu ++ O).map (Value.int .u8)) ∧ Below w.heap.size w wi) (fun v8 _ => 16 - (intOf v8).toNat)
              case atStart =>
                refine ⟨1, by omega, by omega, by omega, ?_, rfl, hown, hb⟩
                simp only [Hid]
                rw [runsOf_take xs k x (by rw [List.getElem?_eq_getElem hlt, HX.out]), hR.out, step_new _ _ (hN.out x (by rw [List.getElem?_eq_getElem hlt, HX.out]))]
                simp
              case round =>
                obtain ⟨n, hn1, hn16, hkn, hRi, rfl, howni, hbi⟩ := hrel
                have hszi := hbi.size
                have hci : wr.cell? ⟨b, o + k, none⟩ = some (.int .i64 x) := by
                  obtain ⟨b', o', e', hb', hc'⟩ := (r.below hbi).one (List.getElem?_eq_getElem hlt)
                  injection e' with e'; injection e' with e1 e2 _; subst e1; subst e2
                  rw [hc', HX.out]
                have e1 : IntKind.i64.wrap ((k : Int) + (n : Int)) = (k : Int) + (n : Int) := by rw [IntKind.wrap_i64]; omega
                have e2 : (0 : Int) ≤ (k : Int) + (n : Int) := by omega
                have e3 : ((k : Int) + (n : Int)).toNat = k + n := by omega
                have hkx : (k : Int) < (xs.length : Int) := by omega
                by_cases h16 : (n : Int) < 16
                · by_cases hin : (k : Int) + (n : Int) < (xs.length : Int)
                  · have hkn' : k + n < xs.length := by omega
                    obtain ⟨y, hye⟩ : ∃ y, y = xs[k + n] := ⟨_, rfl⟩
                    have hcy : wr.cell? ⟨b, o + (k + n), none⟩ = some (.int .i64 y) := by
                      obtain ⟨b', o', e', hb', hc'⟩ := (r.below hbi).one (List.getElem?_eq_getElem hkn')
                      injection e' with e'; injection e' with e1 e2 _; subst e1; subst e2
                      rw [hc', hye]
                    have hyy := HA.out xs[k + n] (List.getElem_mem hkn')
                    rw [← hye] at hyy
                    by_cases hxy : y = x
                    · have HR2 : Hid (runsOf (xs.take (k + (n + 1))) = ⟨O ++ [16 * x + (((n + 1 : Nat) : Int) - 1)], n + 1, x⟩) := by
                        simp only [Hid]
                        rw [← Nat.add_assoc, runsOf_take xs (k + n) x (by rw [List.getElem?_eq_getElem hkn', ← hye, hxy]), hRi.out, step_same _ _ _ _ (by omega) (by omega)]
                        simp; omega
                      subst hxy
                      clear hye hR hN
                      go_wp2
                      go_quiet (fail)
                      go_wp2
                      go_roundw
                      case rel => exact ⟨n + 1, by omega, by omega, by omega, HR2, by go_num, howni.drewN _, below_drewN hbi _⟩
                      case measure => simp [intOf]; omega
                    · have HN2 : Hid (∀ y, xs[k + n]? = some y → ¬ (0 < n ∧ n < 16 ∧ x = y)) := fun z hz => by
                        rw [List.getElem?_eq_getElem hkn', ← hye] at hz; injection hz with hz; subst hz
                        exact fun h => hxy h.2.2.symm
                      have hxy' : (y == x) = false := beq_eq_false_iff_ne.2 hxy
                      clear hye hR hN
                      go_wp2
                      go_quiet (fail)
                      have howq := howni.drewN nq
                      have hbq := below_drewN hbi nq
                      have hszq := hbq.size
                      go_wp2_with (at_builtin; refine wpList_add1 rfl rfl Try.underlying65 info_u8r rfl (Nat.le_refl 1) howq rfl hszq rfl rfl rfl ?_ ?_ ?_ ?_; simp [Value.oneCell']; (unfold maxLen; omega); omega; intro A3 c3 w3 hown3 hleft3 hbk3)
                      refine ⟨⟨k + n, O ++ [16 * x + ((n : Int) - 1)], n, x, by omega, by simp; omega, hRi, HN2, by go_num, ?_, hleft3.below (Nat.le_refl _) hbq⟩, by simp [intOf]; omega⟩
                      have hor := or_small x ((n : Int) - 1) hx.1 hx.2 (by omega) (by omega)
                      rw [hor, show (16 * x + ((n : Int) - 1)) % 256 = 16 * x + ((n : Int) - 1) by omega] at hown3
                      rw [List.length_append, List.length_singleton, ← Nat.add_assoc]
                      simpa using hown3
                  · have HN2 : Hid (∀ y, xs[k + n]? = some y → ¬ (0 < n ∧ n < 16 ∧ x = y)) := fun z hz => by
                      rw [List.getElem?_eq_none (by omega)] at hz; cases hz
                    have hin' : decide ((k : Int) + (n : Int) < (xs.length : Int)) = false := by simpa using hin
                    clear hR hN
                    go_wp2
                    go_quiet (fail)
                    have howq := howni.drewN nq
                    have hbq := below_drewN hbi nq
                    have hszq := hbq.size
                    go_wp2_with (at_builtin; refine wpList_add1 rfl rfl Try.underlying65 info_u8r rfl (Nat.le_refl 1) howq rfl hszq rfl rfl rfl ?_ ?_ ?_ ?_; simp [Value.oneCell']; (unfold maxLen; omega); omega; intro A3 c3 w3 hown3 hleft3 hbk3)
                    refine ⟨⟨k + n, O ++ [16 * x + ((n : Int) - 1)], n, x, by omega, by simp; omega, hRi, HN2, by go_num, ?_, hleft3.below (Nat.le_refl _) hbq⟩, by simp [intOf]; omega⟩
                    have hor := or_small x ((n : Int) - 1) hx.1 hx.2 (by omega) (by omega)
                    rw [hor, show (16 * x + ((n : Int) - 1)) % 256 = 16 * x + ((n : Int) - 1) by omega] at hown3
                    rw [List.length_append, List.length_singleton, ← Nat.add_assoc]
                    simpa using hown3
                · have HN2 : Hid (∀ y, xs[k + n]? = some y → ¬ (0 < n ∧ n < 16 ∧ x = y)) := fun z hz => by
                    intro h; omega
                  have h16' : decide ((n : Int) < 16) = false := by simpa using h16
                  clear hR hN
                  go_wp2
                  go_quiet (fail)
                  have howq := howni.drewN nq
                  have hbq := below_drewN hbi nq
                  have hszq := hbq.size
                  go_wp2_with (at_builtin; refine wpList_add1 rfl rfl Try.underlying65 info_u8r rfl (Nat.le_refl 1) howq rfl hszq rfl rfl rfl ?_ ?_ ?_ ?_; simp [Value.oneCell']; (unfold maxLen; omega); omega; intro A3 c3 w3 hown3 hleft3 hbk3)
                  refine ⟨⟨k + n, O ++ [16 * x + ((n : Int) - 1)], n, x, by omega, by simp; omega, hRi, HN2, by go_num, ?_, hleft3.below (Nat.le_refl _) hbq⟩, by simp [intOf]; omega⟩
                  have hor := or_small x ((n : Int) - 1) hx.1 hx.2 (by omega) (by omega)
                  rw [hor, show (16 * x + ((n : Int) - 1)) % 256 = 16 * x + ((n : Int) - 1) by omega] at hown3
                  rw [List.length_append, List.length_singleton, ← Nat.add_assoc]
                  simpa using hown3
            · have hF2 : pu ++ O = runsS xs := by
                rw [F.out.1, show xs = xs.take k by rw [List.take_of_length_le (by omega)], hR.out]
              go_wp2_with (refine wpList_text rfl rfl Try.underlying65 Try.underlying5 Try.underlying9 hown rfl ?_)
              go_ret2
              exact ⟨ret_s2 rfl F.out.2.symm, hb⟩
    · have hjl : j < xs.length := (List.getElem?_eq_some_iff.1 hj).1
      have F := Lib.hid (runs_bad (by omega) hj hy)
      have HA := Lib.hid hbef
      have HJ := Lib.hid hj
      clear hbef hj
      go_enter Try.func33, Try.ntmps33
      go_wp2
      go_loop [14] (fun v14 => ∃ k : Nat, k ≤ j ∧ v14 = .int .i64 k) (fun v14 => xs.length - (intOf v14).toNat)
      case atStart => exact ⟨0, Nat.zero_le _, rfl⟩
      case round =>
        obtain ⟨k, hk, rfl⟩ := hrel
        by_cases hlt : k < j
        · have hkl : k < xs.length := by omega
          obtain ⟨b, o, rfl, hb, hc⟩ := r.one (List.getElem?_eq_getElem hkl)
          have hx := HA.out k xs[k] hlt (List.getElem?_eq_getElem hkl)
          generalize xs[k] = x at *
          go_wp2
          go_round
          case rel => exact ⟨k + 1, by omega, by go_num⟩
          case measure => simp [intOf]; omega
        · have hkj : k = j := by omega
          subst hkj
          obtain ⟨b, o, rfl, hb, hc⟩ := r.one HJ.out
          rcases hy with hy | hy
          · go_wp2
            go_ret2
            exact ⟨ret_s2 (by rw [F.out.1]; rfl) F.out.2.symm, Below.refl _ _⟩
          · go_wp2
            go_ret2
            exact ⟨ret_s2 (by rw [F.out.1]; rfl) F.out.2.symm, Below.refl _ _⟩
end Go.Proofs.Ytepibmfpmnkhiaa
