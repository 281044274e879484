/- slices' merge by rotation where the second row is one coin, walked. -/
import Derived.Test.YtoncakcfibahaaaHsE
namespace Go.Proofs.Ytoncakcfibahaaa
open Go.RowKit

set_option maxRecDepth 20000 in
set_option maxHeartbeats 1000000 in
theorem symB_any (w0 : World) (b o n c kb a m z : Nat) (pre A post : List CoinV) (x : CoinV) (w : World) (h : Row w0 b o n (pre ++ (A ++ ([x] ++ post))) w) (hk : CmpOk w0 b kb (A ++ [x])) (hB : SrtC A) (ha : a = pre.length) (hm : m = a + A.length) (hz : z = m + 1) (hn : n ≤ 100000) (h1 : 2 ≤ A.length) :
    Calls Try.prog 19 #[.slice (some ⟨b, o, none⟩) n c, .int .i64 a, .int .i64 m, .int .i64 z, cmpV kb] w fun e w' => e = .returned (.tuple #[]) ∧ InsPost' w0 b o n pre (A ++ [x]) post w' := by
  have hl : pre.length + A.length + 1 + post.length = n := by have := h.len; simp at this; omega
  have b1 : (a : Int) ≤ 100000 := by omega
  have b2 : (m : Int) ≤ 100000 := by omega
  have b3 : (z : Int) ≤ 100000 := by omega
  obtain ⟨d, hd⟩ : ∃ d : Int, (m : Int) - (a : Int) = d := ⟨_, rfl⟩
  have e0 : (d == 1) = false := beq_eq_false_iff_ne.2 (by omega)
  have e1 : (z : Int) - (m : Int) = 1 := by omega
  have hxm : x ∈ A ++ [x] := by simp
  have H := Lib.hid h
  have HK := Lib.hid hk
  have HB := Lib.hid hB
  have HA := Lib.hid ha
  have HM := Lib.hid hm
  have HZ := Lib.hid hz
  have HL := Lib.hid hl
  have HXM := Lib.hid hxm
  clear h hk hB ha hm hz hl hxm h1
  unfold cmpV
  go_enter Try.func19, Try.ntmps19
  go_wp2
  go_loopw [14, 15] (fun u v wr => ∃ i j : Nat, u = .int .i64 i ∧ v = .int .i64 j ∧ a ≤ i ∧ i ≤ j ∧ j ≤ m ∧ Hid (BsA A x (i - a) (j - a)) ∧ Hid (Row w0 b o n (pre ++ (A ++ ([x] ++ post))) wr)) (fun u v _ => (intOf v).toNat - (intOf u).toNat)
  case atStart => exact ⟨a, m, rfl, rfl, Nat.le_refl _, by have := HM.out; omega, Nat.le_refl _, by rw [HM.out, Nat.sub_self, Nat.add_sub_cancel_left]; exact BsA.start _ _, H.out⟩
  case round =>
    obtain ⟨i, j, rfl, rfl, hmi, hij, hjz, HBs, HR⟩ := hrel
    by_cases hlt : i < j
    · obtain ⟨q, hq⟩ : ∃ q, q = (i + j) / 2 := ⟨_, rfl⟩
      have hq1 : ((i : Int) + (j : Int)) / 2 = (q : Int) := by omega
      have hqj : q < j := by omega
      have hqi : i ≤ q := by omega
      have hlt1 : (i : Int) < (j : Int) := by omega
      have hz2 := HZ.out
      have hl2 := HL.out
      have hm2 := HM.out
      have ha2 := HA.out
      have hqB : q - a < A.length := by omega
      have gy : A[q - a]? = some A[q - a] := List.getElem?_eq_getElem hqB
      have gq : (pre ++ (A ++ ([x] ++ post)))[q]? = some A[q - a] := by
        rw [List.getElem?_append_right (by omega), List.getElem?_append_left (by omega), ← gy, ha2]
      have ga : (pre ++ (A ++ ([x] ++ post)))[m]? = some x := by
        rw [List.getElem?_append_right (by omega), List.getElem?_append_right (by omega), show m - pre.length - A.length = 0 by omega]; rfl
      have hym : A[q - a] ∈ A ++ [x] := by simp
      have HUP := Lib.hid (fun k => HBs.out.up HB.out gy k)
      have HDN := Lib.hid (fun k => HBs.out.down HB.out gy k)
      generalize A[q - a] = y at *
      have cy0 := HR.out.cell0 q y gq
      have cy1 := HR.out.cell1 q y gq
      have cx0 := HR.out.cell0 m x ga
      have cx1 := HR.out.cell1 m x ga
      have hCmp : Hid (∀ W, Below wr.heap.size wr W → Calls Try.prog 16 #[.agg #[.int .i64 x.worth, .slice x.A x.n x.c], .agg #[.int .i64 y.worth, .slice y.A y.n y.c], .pointer (some ⟨kb, 0, none⟩)] W fun e w' => e = .returned (.int .i64 (x.worth - y.worth)) ∧ Below W.heap.size W w') := fun W hW => cmp_row HK.out HR.out HXM.out hym W hW
      have hbl : b < wr.heap.size := Nat.lt_of_lt_of_le HR.out.lt HR.out.grown.size
      have hS : wr.cell? ⟨b, o + q * 2, none⟩ = some (.int .i64 y.worth) ∧ wr.cell? ⟨b, o + q * 2 + 1, none⟩ = some (.slice y.A y.n y.c) ∧ wr.cell? ⟨b, o + m * 2, none⟩ = some (.int .i64 x.worth) ∧ wr.cell? ⟨b, o + m * 2 + 1, none⟩ = some (.slice x.A x.n x.c) ∧ wr.heap.size ≤ wr.heap.size ∧ Below wr.heap.size wr wr := ⟨cy0, cy1, cx0, cx1, Nat.le_refl _, Below.refl _ _⟩
      have k1 : (0 : Int) ≤ (q : Int) := by omega
      have k2 : (0 : Int) ≤ (m : Int) := by omega
      have k3 : (q : Int) < (n : Int) := by omega
      have k4 : (m : Int) < (n : Int) := by omega
      clear hq gy gq ga hym hqB cy0 cy1 cx0 cx1 hz2 hl2 hm2 ha2
      go_wp2
      rcases Bool.eq_false_or_eq_true (decide (x.worth - y.worth < 0)) with hxy | hxy
      all_goals
        go_region_held3 (fun W => W.cell? ⟨b, o + q * 2, none⟩ = some (.int .i64 y.worth) ∧ W.cell? ⟨b, o + q * 2 + 1, none⟩ = some (.slice y.A y.n y.c) ∧ W.cell? ⟨b, o + m * 2, none⟩ = some (.int .i64 x.worth) ∧ W.cell? ⟨b, o + m * 2 + 1, none⟩ = some (.slice x.A x.n x.c) ∧ wr.heap.size ≤ W.heap.size ∧ Below wr.heap.size wr W)
              (first | assumption | exact keepc4d (by assumption) | exact keepc4b hbl hbl hbl hbl (by assumption) (by assumption))
              ((go_at_call 16; refine (hCmp.out _ (keepc4w (by assumption))).mono ?_; rintro e w' ⟨rfl, hb⟩))
      · all_goals
          rename_i hHeld
          have HR2 := Lib.hid (HR.out.below (keepc4w hHeld))
          clear hHeld hS hCmp
          go_wp2
          go_roundw
          case rel => exact ⟨i, q, rfl, rfl, by omega, by omega, by omega, HDN.out (by have := of_decide_eq_true hxy; omega), HR2⟩
          case measure => (simp [intOf]; try omega)
      · all_goals
          rename_i hHeld
          have HR2 := Lib.hid (HR.out.below (keepc4w hHeld))
          clear hHeld hS hCmp
          go_wp2
          go_roundw
          case rel => exact ⟨q + 1, j, by go_num, rfl, by omega, by omega, by omega, by rw [show q + 1 - a = q - a + 1 by omega]; exact HUP.out (by have := of_decide_eq_false hxy; omega), HR2⟩
          case measure => (simp [intOf]; try omega)
    · obtain rfl : i = j := by omega
      have hlt1 : ¬ (i : Int) < (i : Int) := by omega
      obtain ⟨s, hs⟩ : ∃ s, i = a + s := ⟨i - a, by omega⟩
      have HS := Lib.hid hs
      have hsB : s ≤ A.length := by have := HM.out; omega
      rw [show i - a = s by omega] at HBs
      clear hs
      obtain ⟨wo, rfl⟩ : ∃ wo : World, wo = wr := ⟨_, rfl⟩
      go_wp2
      go_loopw [17] (fun v wr => ∃ k t : Nat, v = .int .i64 k ∧ Hid (k = a + t) ∧ s ≤ t ∧ t ≤ A.length ∧ k ≤ 100000 ∧ Hid (Row w0 b o n (pre ++ (A.take t ++ (x :: (A.drop t ++ post)))) wr)) (fun v _ => (intOf v).toNat)
      case atStart => exact ⟨m, A.length, rfl, HM, by omega, Nat.le_refl _, by omega, Lib.hid (by simpa using HR.out)⟩
      case round =>
        obtain ⟨k, t, rfl, hkt, hts, htA, hki, HR3⟩ := hrel
        have hl2 := HL.out
        have hm2 := HM.out
        have hs2 := HS.out
        have ha2 := HA.out
        have hkt2 := hkt.out
        by_cases ht : s < t
        · have ht1 : (i : Int) < (k : Int) := by omega
          obtain ⟨p, hp⟩ : ∃ p, p = k - 1 := ⟨_, rfl⟩
          obtain ⟨t', rfl⟩ : ∃ t', t = t' + 1 := ⟨t - 1, by omega⟩
          have htB : t' < A.length := by omega
          have gd : A.drop t' = A[t'] :: A.drop (t' + 1) := List.drop_eq_getElem_cons htB
          have gt : A.take (t' + 1) = A.take t' ++ [A[t']] := List.take_succ_eq_append_getElem htB
          have hlt2 : (pre ++ A.take t').length = p := by simp; omega
          generalize A[t'] = y at *
          have R4 := HR3.out
          rw [gt, show pre ++ (A.take t' ++ [y] ++ (x :: (A.drop (t' + 1) ++ post))) = (pre ++ A.take t') ++ (y :: x :: (A.drop (t' + 1) ++ post)) by simp] at R4
          have hkp : k = p + 1 := by omega
          have gp : ((pre ++ A.take t') ++ (y :: x :: (A.drop (t' + 1) ++ post)))[p]? = some y := by rw [List.getElem?_append_right (by omega), hlt2, Nat.sub_self]; rfl
          have gk : ((pre ++ A.take t') ++ (y :: x :: (A.drop (t' + 1) ++ post)))[k]? = some x := by rw [List.getElem?_append_right (by omega), hlt2, hkp, Nat.add_sub_cancel_left]; rfl
          have c1 := R4.cell0 k x gk
          have c2 := R4.cell1 k x gk
          have c3 := R4.cell0 p y gp
          have c4 := R4.cell1 p y gp
          have f1 := R4.free0 k (by omega)
          have f2 := R4.free1 k (by omega)
          have f3 := R4.free0 p (by omega)
          have f4 := R4.free1 p (by omega)
          have R5 := ((R4.set k y (by omega)).set p x (by omega)).drew
          have e5 : (((pre ++ A.take t') ++ (y :: x :: (A.drop (t' + 1) ++ post))).set k y).set p x = pre ++ (A.take t' ++ (x :: (A.drop t' ++ post))) := by
            rw [hkp, ← hlt2, set_swap, gd]; simp
          rw [e5] at R5
          have HR5 := Lib.hid R5
          have wp : IntKind.i64.wrap ((k : Int) - 1) = (p : Int) := by rw [IntWalk.i64_in _ (by omega)]; omega
          have k1 : (0 : Int) ≤ (p : Int) := by omega
          have k2 : (0 : Int) ≤ (k : Int) := by omega
          have k3 : (p : Int) < (n : Int) := by omega
          have k4 : (k : Int) < (n : Int) := by omega
          have k5 : 1 ≤ (k : Int) := by omega
          have hne : ¬ k = p := by omega
          have hne' : ¬ p = k := by omega
          have HP := Lib.hid hkp
          clear hl2 hm2 hs2 ha2 hkt2 hp hkp gd gt hlt2 R4 gk gp R5 e5
          go_wp2
          go_region
          go_wp2
          go_roundw
          case rel => exact ⟨p, t', rfl, by have := HP.out; have := hkt.out; exact Lib.hid (by omega), by omega, by omega, by omega, HR5⟩
          case measure => (have := HP.out; simp [intOf]; try omega)
        · have ht1 : ¬ (i : Int) < (k : Int) := by omega
          obtain rfl : t = s := by omega
          clear hl2 hm2 hs2 ha2 hkt2
          go_wp2
          (try simp only [Exit.inBlock, Exit.then])
          refine bodyPost_ret (results_none rfl _ _ _) rfl ?_
          exact ⟨rfl, A.take t ++ x :: A.drop t, by simpa using HR3.out, (perm_mid A x t).trans (by simpa using (List.perm_append_comm (l₁ := [x]) (l₂ := A))), srt_mid HB.out x t HBs.out.lo HBs.out.hi⟩
end Go.Proofs.Ytoncakcfibahaaa
