/- linenref.Runs, walked. -/
import Derived.Test.YtepibmfpmnkhiaaRunsW
namespace Go.Proofs.Ytepibmfpmnkhiaa
open Go.RowKit

theorem set_last {α : Type} (L : List α) (a b : α) : (L ++ [a]).set L.length b = L ++ [b] := by
  rw [List.set_append_right _ _ (Nat.le_refl _)]; simp
theorem runs_to (xs : List Int) : ∃ J, J ≤ xs.length ∧ (∀ i x, i < J → xs[i]? = some x → 0 ≤ x ∧ x ≤ 15) ∧ (J < xs.length → ∃ y, xs[J]? = some y ∧ (y < 0 ∨ 15 < y)) := by
  rcases first_bad xs with h | ⟨j, y, hj, hy, hb⟩
  · exact ⟨xs.length, Nat.le_refl _, fun i x _ hx => h x (List.mem_of_getElem? hx), fun h => absurd h (Nat.lt_irrefl _)⟩
  · exact ⟨j, Nat.le_of_lt (List.getElem?_eq_some_iff.1 hj).1, hb, fun _ => ⟨y, hj, hy⟩⟩

set_option maxRecDepth 20000 in
set_option maxHeartbeats 1000000 in
theorem runsr_any (A : Option Addr) (n c : Nat) (xs : List Int) (w : World) (r : RowsIn w w.heap.size A n c (fun z => [.int .i64 z]) 1 xs) :
    Calls Try.prog 34 #[.slice A n c] w fun e w' => e = .returned (.tuple #[.string (strOfNums (runsS xs)), .int .i64 (runsE xs)]) ∧ Below w.heap.size w w' := by
  have hlen := r.len
  obtain rfl := hlen
  by_cases hL : 320 < xs.length
  · have F := Lib.hid (runs_large hL)
    go_enter Try.func34, Try.ntmps34
    go_wp2
    go_ret2
    exact ⟨ret_s2 (by rw [F.out.1]; rfl) F.out.2.symm, Below.refl _ _⟩
  · obtain ⟨J, hJ, hgood, hbad⟩ := runs_to xs
    have HA := Lib.hid hgood
    have HJ := Lib.hid hbad
    clear hgood hbad
    go_enter Try.func34, Try.ntmps34
    have HB := Lib.hid (putL_bytes (xs.length : Int) (by omega) (by omega))
    have hpl := putL_length (xs.length : Int)
    generalize hpu : putL (xs.length : Int) = pu at *
    have HPU := Lib.hid hpu
    clear hpu
    go_wp2_with (first
      | (go_at_call 32; refine (putr_all _ _ (by omega) (by omega)).mono ?_; rintro e w1 ⟨rfl, hb1⟩; rw [HPU.out])
      | (refine wpList_bytes rfl rfl Try.underlying9 Try.underlying65 Try.underlying5 rfl HB.out ?_ ?_; unfold maxLen; omega; intro A2 c2 w2 hown2 hl2))
    go_loopw [4, 5, 18] (fun v4 v5 v18 wr => ∃ (k : Nat) (O : List Int) (m : Nat) (la : Int), k ≤ J ∧ O.length ≤ k ∧ m ≤ 16 ∧ (k = 0 → m = 0) ∧ Hid (runsOf (xs.take k) = ⟨O, m, la⟩) ∧ Hid (0 < m → 0 ≤ la ∧ la ≤ 15 ∧ (∃ O', O = O' ++ [16 * la + ((m : Int) - 1)]) ∧ xs[k - 1]? = some la) ∧ v18 = .int .i64 k ∧ v5 = .int .i64 m ∧ Owns wr w.heap.size 1 v4 (pu.length + O.length) ((pu ++ O).map (Value.int .u8)) ∧ Below w.heap.size w wr) (fun _ _ v18 _ => xs.length - (intOf v18).toNat)
    case atStart =>
      refine ⟨0, [], 0, 0, by omega, by simp, by omega, fun _ => rfl, by simp [Hid, runsOf_nil], fun h => by omega, rfl, rfl, by simpa using hown2.more hb1.size, ?_⟩
      exact hl2.below hb1.size hb1
    case round =>
      obtain ⟨k, O, m, la, hk, hO, hm, hk0, hR, hN, rfl, rfl, hown, hb⟩ := hrel
      obtain ⟨AO, cO, rfl⟩ := hown.form
      have hsz := hb.size
      by_cases hlt : k < J
      · have hkl : k < xs.length := by omega
        obtain ⟨b, o, rfl, hbB, hc⟩ := (r.below hb).one (List.getElem?_eq_getElem hkl)
        have hx := HA.out k xs[k] hlt (List.getElem?_eq_getElem hkl)
        have HX := Lib.hid (List.getElem?_eq_getElem hkl)
        generalize xs[k] = x at *
        by_cases hc1 : 0 < m ∧ m < 16 ∧ la = x
        · obtain ⟨g1, g2, rfl⟩ := hc1
          obtain ⟨n1, n2, ⟨O', hO'⟩, n4⟩ := hN.out g1
          have hcp : wr.cell? ⟨b, o + (k - 1), none⟩ = some (.int .i64 la) := by
            obtain ⟨b', o', e', hb', hc'⟩ := (r.below hb).one n4
            injection e' with e'; injection e' with e1 e2 _; subst e1; subst e2
            exact hc'
          have hk1 : 0 < k := by
            rcases Nat.eq_zero_or_pos k with h | h
            · have := hk0 h; omega
            · exact h
          have e3 : IntKind.i64.wrap ((k : Int) - 1) = (k : Int) - 1 := by rw [IntKind.wrap_i64]; omega
          have e4 : ((k : Int) - 1).toNat = k - 1 := by omega
          have HR2 : Hid (runsOf (xs.take (k + 1)) = ⟨O' ++ [16 * la + ((m : Int) - 1) + 1], m + 1, la⟩) := by
            simp only [Hid]; rw [runsOf_take xs k la HX.out, hR.out, hO', step_same _ _ _ _ (by omega) (by omega)]
          have HN2 : Hid (0 < m + 1 → 0 ≤ la ∧ la ≤ 15 ∧ (∃ O'', O' ++ [16 * la + ((m : Int) - 1) + 1] = O'' ++ [16 * la + (((m + 1 : Nat) : Int) - 1)]) ∧ xs[k + 1 - 1]? = some la) := fun _ => ⟨n1, n2, ⟨O', by simp; omega⟩, HX.out⟩
          have hOl : O.length = O'.length + 1 := by rw [hO']; simp
          obtain ⟨g, off, cap, hv, hgB, hgl, hgc, hgf⟩ := hown.at_ (j := pu.length + O.length - 1) (u := .int .u8 (16 * la + ((m : Int) - 1))) (by
            rw [hO', List.getElem?_map, List.getElem?_append_right (by simp)]
            simp)
          injection hv with hv1 hv2 hv3
          subst hv1
          subst hv3
          have hset := hown.set (pu.length + O.length - 1) (.int .u8 (16 * la + ((m : Int) - 1) + 1))
          have hst : ((pu ++ O).map (Value.int .u8)).set (pu.length + O.length - 1) (.int .u8 (16 * la + ((m : Int) - 1) + 1)) = (pu ++ (O' ++ [16 * la + ((m : Int) - 1) + 1])).map (Value.int .u8) := by
            have hm1 : (pu ++ O).map (Value.int .u8) = (pu ++ O').map (Value.int .u8) ++ [.int .u8 (16 * la + ((m : Int) - 1))] := by rw [hO']; simp
            have hm2 : pu.length + O.length - 1 = ((pu ++ O').map (Value.int .u8)).length := by simp; omega
            rw [hm1, hm2, set_last]
            simp
          rw [hst] at hset
          have HS := Lib.hid hset
          have hO1 : 1 ≤ O.length := by omega
          have HO := Lib.hid hO'
          have HL := Lib.hid hOl
          clear hset hst hown hR hN n4 hO' hOl hv2
          go_wp2
          refine ⟨⟨k + 1, O' ++ [16 * la + ((m : Int) - 1) + 1], m + 1, la, by omega, by have := HL.out; simp; omega, by omega, fun h => by omega, HR2, HN2, by go_num, by go_num, ?_, hb.setCell hgB _⟩, by simp [intOf]; omega⟩
          rw [show (O' ++ [16 * la + ((m : Int) - 1) + 1]).length = O.length by rw [HL.out]; simp]
          exact HS.out
        · have HR2 : Hid (runsOf (xs.take (k + 1)) = ⟨O ++ [16 * x], 1, x⟩) := by
            simp only [Hid]; rw [runsOf_take xs k x HX.out, hR.out, step_new _ _ hc1]
          have HN2 : Hid (0 < 1 → 0 ≤ x ∧ x ≤ 15 ∧ (∃ O', O ++ [16 * x] = O' ++ [16 * x + (((1 : Nat) : Int) - 1)]) ∧ xs[k + 1 - 1]? = some x) := fun _ => ⟨hx.1, hx.2, ⟨O, by simp⟩, HX.out⟩
          have e16 : IntKind.i64.wrap (16 * x) = 16 * x := by rw [IntKind.wrap_i64]; omega
          have e17 : 16 * x % 256 = 16 * x := by omega
          by_cases g1 : (0 : Int) < (m : Int)
          · by_cases g2 : (m : Int) < 16
            · obtain ⟨n1, n2, _, n4⟩ := hN.out (by omega)
              have hcp : wr.cell? ⟨b, o + (k - 1), none⟩ = some (.int .i64 la) := by
                obtain ⟨b', o', e', hb', hc'⟩ := (r.below hb).one n4
                injection e' with e'; injection e' with e1 e2 _; subst e1; subst e2
                exact hc'
              have hk1 : 0 < k := by
                rcases Nat.eq_zero_or_pos k with h | h
                · have := hk0 h; omega
                · exact h
              have e3 : IntKind.i64.wrap ((k : Int) - 1) = (k : Int) - 1 := by rw [IntKind.wrap_i64]; omega
              have e4 : ((k : Int) - 1).toNat = k - 1 := by omega
              have hne : (la == x) = false := beq_eq_false_iff_ne.2 (fun h => hc1 ⟨by omega, by omega, h⟩)
              clear n4
              go_wp2_with (at_builtin; refine wpList_add1 rfl rfl Try.underlying65 info_u8r rfl (Nat.le_refl 1) hown rfl hsz rfl rfl rfl ?_ ?_ ?_ ?_; simp [Value.oneCell']; (unfold maxLen; omega); omega; intro A3 c3 w3 hown3 hleft3 hbk3)
              go_roundw
              case rel =>
                refine ⟨k + 1, O ++ [16 * x], 1, x, by omega, by simp; omega, by omega, fun h => by omega, HR2, HN2, by go_num, rfl, ?_, hleft3.below (Nat.le_refl _) hb⟩
                rw [List.length_append, List.length_singleton, ← Nat.add_assoc]
                simpa using hown3
              case measure => simp [intOf]; omega
            · have g2' : decide ((m : Int) < 16) = false := by simpa using g2
              go_wp2_with (at_builtin; refine wpList_add1 rfl rfl Try.underlying65 info_u8r rfl (Nat.le_refl 1) hown rfl hsz rfl rfl rfl ?_ ?_ ?_ ?_; simp [Value.oneCell']; (unfold maxLen; omega); omega; intro A3 c3 w3 hown3 hleft3 hbk3)
              go_roundw
              case rel =>
                refine ⟨k + 1, O ++ [16 * x], 1, x, by omega, by simp; omega, by omega, fun h => by omega, HR2, HN2, by go_num, rfl, ?_, hleft3.below (Nat.le_refl _) hb⟩
                try simp only [e17] at hown3
                rw [List.length_append, List.length_singleton, ← Nat.add_assoc]
                simpa using hown3
              case measure => simp [intOf]; omega
          · have g1' : decide ((0 : Int) < (m : Int)) = false := by simpa using g1
            go_wp2_with (at_builtin; refine wpList_add1 rfl rfl Try.underlying65 info_u8r rfl (Nat.le_refl 1) hown rfl hsz rfl rfl rfl ?_ ?_ ?_ ?_; simp [Value.oneCell']; (unfold maxLen; omega); omega; intro A3 c3 w3 hown3 hleft3 hbk3)
            go_roundw
            case rel =>
              refine ⟨k + 1, O ++ [16 * x], 1, x, by omega, by simp; omega, by omega, fun h => by omega, HR2, HN2, by go_num, rfl, ?_, hleft3.below (Nat.le_refl _) hb⟩
              try simp only [e17] at hown3
              rw [List.length_append, List.length_singleton, ← Nat.add_assoc]
              simpa using hown3
            case measure => simp [intOf]; omega
      · obtain rfl : k = J := by omega
        by_cases hend : k = xs.length
        · have hF2 : runsS xs = pu ++ O ∧ runsE xs = 0 := by
            have := runs_ok (l := xs) (by omega) (fun x hx => by
              obtain ⟨i, hi, rfl⟩ := List.getElem_of_mem hx
              exact HA.out i _ (by omega) (List.getElem?_eq_getElem hi))
            rw [HPU.out] at this
            refine ⟨?_, this.2⟩
            rw [this.1]
            have h2 := hR.out
            rw [List.take_of_length_le (by omega)] at h2
            rw [h2]
          have F := Lib.hid hF2
          clear hF2
          go_wp2_with (refine wpList_text rfl rfl Try.underlying65 Try.underlying5 Try.underlying9 hown rfl ?_)
          go_ret2
          exact ⟨ret_s2 (by rw [F.out.1]) F.out.2.symm, hb⟩
        · obtain ⟨y, hy, hyb⟩ := HJ.out (by omega)
          obtain ⟨b, o, rfl, hbB, hc⟩ := (r.below hb).one hy
          have F := Lib.hid (runs_bad (l := xs) (by omega) hy hyb)
          have hkl : k < xs.length := by omega
          clear hy
          rcases hyb with hy | hy
          · go_wp2
            go_ret2
            exact ⟨ret_s2 (by rw [F.out.1]; rfl) F.out.2.symm, hb⟩
          · go_wp2
            go_ret2
            exact ⟨ret_s2 (by rw [F.out.1]; rfl) F.out.2.symm, hb⟩
end Go.Proofs.Ytepibmfpmnkhiaa
