/- slices' merge by rotation where the first row is one coin, walked. -/
import Derived.Test.YtoncakcfibahaaaHsE
namespace Go.Proofs.Ytoncakcfibahaaa
open Go.RowKit

set_option maxRecDepth 20000 in
set_option maxHeartbeats 1000000 in
theorem symA_any (w0 : World) (b o n c kb a m z : Nat) (pre B post : List CoinV) (x : CoinV) (w : World) (h : Row w0 b o n (pre ++ ([x] ++ (B ++ post))) w) (hk : CmpOk w0 b kb ([x] ++ B)) (hB : SrtC B) (ha : a = pre.length) (hm : m = a + 1) (hz : z = m + B.length) (hn : n ≤ 100000) :
    Calls Try.prog 19 #[.slice (some ⟨b, o, none⟩) n c, .int .i64 a, .int .i64 m, .int .i64 z, cmpV kb] w fun e w' => e = .returned (.tuple #[]) ∧ InsPost' w0 b o n pre ([x] ++ B) post w' := by
  have hl : pre.length + 1 + B.length + post.length = n := by have := h.len; simp at this; omega
  have b1 : (a : Int) ≤ 100000 := by omega
  have b2 : (m : Int) ≤ 100000 := by omega
  have b3 : (z : Int) ≤ 100000 := by omega
  have e1 : (m : Int) - (a : Int) = 1 := by omega
  have hxm : x ∈ [x] ++ B := by simp
  have H := Lib.hid h
  have HK := Lib.hid hk
  have HB := Lib.hid hB
  have HA := Lib.hid ha
  have HM := Lib.hid hm
  have HZ := Lib.hid hz
  have HL := Lib.hid hl
  have HXM := Lib.hid hxm
  clear h hk hB ha hm hz hl hxm
  unfold cmpV
  go_enter Try.func19, Try.ntmps19
  go_wp2
  go_loopw [10, 11] (fun u v wr => ∃ i j : Nat, u = .int .i64 i ∧ v = .int .i64 j ∧ m ≤ i ∧ i ≤ j ∧ j ≤ z ∧ Hid (BsA B x (i - m) (j - m)) ∧ Hid (Row w0 b o n (pre ++ ([x] ++ (B ++ post))) wr)) (fun u v _ => (intOf v).toNat - (intOf u).toNat)
  case atStart => exact ⟨m, z, rfl, rfl, Nat.le_refl _, by have := HZ.out; omega, Nat.le_refl _, by rw [HZ.out, Nat.sub_self, Nat.add_sub_cancel_left]; exact BsA.start _ _, H.out⟩
  case round =>
    obtain ⟨i, j, rfl, rfl, hmi, hij, hjz, HBs, HR⟩ := hrel
    by_cases hlt : i < j
    · obtain ⟨q, hq⟩ : ∃ q, q = (i + j) / 2 := ⟨_, rfl⟩
      have hq1 : ((i : Int) + (j : Int)) / 2 = (q : Int) := by omega
      have hqj : q < j := by omega
      have hqi : i ≤ q := by omega
      have hlt1 : (i : Int) < (j : Int) := by omega
      have hz2 := HZ.out
      have hl2 := HL.out
      have hm2 := HM.out
      have ha2 := HA.out
      have hqB : q - m < B.length := by omega
      have gy : B[q - m]? = some B[q - m] := List.getElem?_eq_getElem hqB
      have gq : (pre ++ ([x] ++ (B ++ post)))[q]? = some B[q - m] := by
        rw [← List.append_assoc, List.getElem?_append_right (by simp; omega), List.getElem?_append_left (by simp; omega), ← gy]
        congr 1; simp; omega
      have ga : (pre ++ ([x] ++ (B ++ post)))[a]? = some x := by
        rw [List.getElem?_append_right (by omega), ha2]; simp
      have hym : B[q - m] ∈ [x] ++ B := by simp
      have HUP := Lib.hid (fun k => HBs.out.up HB.out gy k)
      have HDN := Lib.hid (fun k => HBs.out.down HB.out gy k)
      generalize B[q - m] = y at *
      have cy0 := HR.out.cell0 q y gq
      have cy1 := HR.out.cell1 q y gq
      have cx0 := HR.out.cell0 a x ga
      have cx1 := HR.out.cell1 a x ga
      have hCmp : Hid (∀ W, Below wr.heap.size wr W → Calls Try.prog 16 #[.agg #[.int .i64 y.worth, .slice y.A y.n y.c], .agg #[.int .i64 x.worth, .slice x.A x.n x.c], .pointer (some ⟨kb, 0, none⟩)] W fun e w' => e = .returned (.int .i64 (y.worth - x.worth)) ∧ Below W.heap.size W w') := fun W hW => cmp_row HK.out HR.out hym HXM.out W hW
      have hbl : b < wr.heap.size := Nat.lt_of_lt_of_le HR.out.lt HR.out.grown.size
      have hS : wr.cell? ⟨b, o + q * 2, none⟩ = some (.int .i64 y.worth) ∧ wr.cell? ⟨b, o + q * 2 + 1, none⟩ = some (.slice y.A y.n y.c) ∧ wr.cell? ⟨b, o + a * 2, none⟩ = some (.int .i64 x.worth) ∧ wr.cell? ⟨b, o + a * 2 + 1, none⟩ = some (.slice x.A x.n x.c) ∧ wr.heap.size ≤ wr.heap.size ∧ Below wr.heap.size wr wr := ⟨cy0, cy1, cx0, cx1, Nat.le_refl _, Below.refl _ _⟩
      have k1 : (0 : Int) ≤ (q : Int) := by omega
      have k2 : (0 : Int) ≤ (a : Int) := by omega
      have k3 : (q : Int) < (n : Int) := by omega
      have k4 : (a : Int) < (n : Int) := by omega
      clear hq gy gq ga hym hqB cy0 cy1 cx0 cx1 hz2 hl2 hm2 ha2
      go_wp2
      by_cases hxy : y.worth - x.worth < 0
      all_goals
        go_region_held3 (fun W => W.cell? ⟨b, o + q * 2, none⟩ = some (.int .i64 y.worth) ∧ W.cell? ⟨b, o + q * 2 + 1, none⟩ = some (.slice y.A y.n y.c) ∧ W.cell? ⟨b, o + a * 2, none⟩ = some (.int .i64 x.worth) ∧ W.cell? ⟨b, o + a * 2 + 1, none⟩ = some (.slice x.A x.n x.c) ∧ wr.heap.size ≤ W.heap.size ∧ Below wr.heap.size wr W)
              (first | assumption | exact keepc4d (by assumption) | exact keepc4b hbl hbl hbl hbl (by assumption) (by assumption))
              ((go_at_call 16; refine (hCmp.out _ (keepc4w (by assumption))).mono ?_; rintro e w' ⟨rfl, hb⟩))
      · all_goals
          rename_i hHeld
          have HR2 := Lib.hid (HR.out.below (keepc4w hHeld))
          clear hHeld hS hCmp
          go_wp2
          go_roundw
          case rel => exact ⟨q + 1, j, by go_num, rfl, by omega, by omega, by omega, by rw [show q + 1 - m = q - m + 1 by omega]; exact HUP.out (by omega), HR2⟩
          case measure => (simp [intOf]; try omega)
      · all_goals
          rename_i hHeld
          have HR2 := Lib.hid (HR.out.below (keepc4w hHeld))
          clear hHeld hS hCmp
          go_wp2
          go_roundw
          case rel => exact ⟨i, q, rfl, rfl, by omega, by omega, by omega, HDN.out (by omega), HR2⟩
          case measure => (simp [intOf]; try omega)
    · obtain rfl : i = j := by omega
      have hlt1 : ¬ (i : Int) < (i : Int) := by omega
      obtain ⟨s, hs⟩ : ∃ s, i = m + s := ⟨i - m, by omega⟩
      have HS := Lib.hid hs
      have hsB : s ≤ B.length := by have := HZ.out; omega
      have hi1 : 1 ≤ (i : Int) := by have := HM.out; omega
      rw [show i - m = s by omega] at HBs
      clear hs
      obtain ⟨wo, rfl⟩ : ∃ wo : World, wo = wr := ⟨_, rfl⟩
      go_wp2
      go_loopw [13] (fun v wr => ∃ k t : Nat, v = .int .i64 k ∧ Hid (k = a + t) ∧ t ≤ s ∧ k < i ∧ Hid (Row w0 b o n (pre ++ (B.take t ++ (x :: (B.drop t ++ post)))) wr)) (fun v _ => i - (intOf v).toNat)
      case atStart => exact ⟨a, 0, rfl, rfl, Nat.zero_le _, by have := HM.out; have := HS.out; omega, Lib.hid (by simpa using HR.out)⟩
      case round =>
        obtain ⟨k, t, rfl, hkt, hts, hki, HR3⟩ := hrel
        have hl2 := HL.out
        have hm2 := HM.out
        have hs2 := HS.out
        have ha2 := HA.out
        have hkt2 := hkt.out
        by_cases ht : t < s
        · have ht1 : (k : Int) < (i : Int) - 1 := by omega
          obtain ⟨p, hp⟩ : ∃ p, p = k + 1 := ⟨_, rfl⟩
          have htB : t < B.length := by omega
          have gd : B.drop t = B[t] :: B.drop (t + 1) := List.drop_eq_getElem_cons htB
          have gt : B.take (t + 1) = B.take t ++ [B[t]] := List.take_succ_eq_append_getElem htB
          have hlt2 : (pre ++ B.take t).length = k := by simp; omega
          generalize B[t] = y at *
          have R4 := HR3.out
          rw [gd, show pre ++ (B.take t ++ (x :: (y :: B.drop (t + 1) ++ post))) = (pre ++ B.take t) ++ (x :: y :: (B.drop (t + 1) ++ post)) by simp] at R4
          have gk : ((pre ++ B.take t) ++ (x :: y :: (B.drop (t + 1) ++ post)))[k]? = some x := by rw [List.getElem?_append_right (by omega), hlt2, Nat.sub_self]; rfl
          have gp : ((pre ++ B.take t) ++ (x :: y :: (B.drop (t + 1) ++ post)))[p]? = some y := by rw [List.getElem?_append_right (by omega), hlt2, hp, Nat.add_sub_cancel_left]; rfl
          have c1 := R4.cell0 k x gk
          have c2 := R4.cell1 k x gk
          have c3 := R4.cell0 p y gp
          have c4 := R4.cell1 p y gp
          have f1 := R4.free0 k (by omega)
          have f2 := R4.free1 k (by omega)
          have f3 := R4.free0 p (by omega)
          have f4 := R4.free1 p (by omega)
          have R5 := ((R4.set k y (by omega)).set p x (by omega)).drew
          have e5 : (((pre ++ B.take t) ++ (x :: y :: (B.drop (t + 1) ++ post))).set k y).set p x = pre ++ (B.take (t + 1) ++ (x :: (B.drop (t + 1) ++ post))) := by
            rw [hp, ← hlt2, set_swap2, gt]; simp
          rw [e5] at R5
          have HR5 := Lib.hid R5
          have wp : IntKind.i64.wrap ((k : Int) + 1) = (p : Int) := by rw [IntWalk.i64_in _ (by omega)]; omega
          have k1 : (0 : Int) ≤ (p : Int) := by omega
          have k2 : (0 : Int) ≤ (k : Int) := by omega
          have k3 : (p : Int) < (n : Int) := by omega
          have k4 : (k : Int) < (n : Int) := by omega
          have hne : ¬ k = p := by omega
          have hne' : ¬ p = k := by omega
          have HP := Lib.hid hp
          clear hl2 hm2 hs2 ha2 hkt2 hp gd gt hlt2 R4 gk gp R5 e5
          go_wp2
          go_region
          go_wp2
          go_roundw
          case rel => exact ⟨p, t + 1, by rw [HP.out] <;> rfl, by have := HP.out; have := hkt.out; exact Lib.hid (by omega), by omega, by have := HS.out; have := HM.out; have := hkt.out; have := HP.out; omega, HR5⟩
          case measure => (have := HS.out; have := HM.out; have := hkt.out; have := HP.out; simp [intOf]; try omega)
        · have ht1 : ¬ (k : Int) < (i : Int) - 1 := by omega
          obtain rfl : t = s := by omega
          clear hl2 hm2 hs2 ha2 hkt2
          go_wp2
          (try simp only [Exit.inBlock, Exit.then])
          refine bodyPost_ret (results_none rfl _ _ _) rfl ?_
          exact ⟨rfl, B.take t ++ x :: B.drop t, by simpa using HR3.out, by simpa using perm_mid B x t, srt_mid HB.out x t HBs.out.lo HBs.out.hi⟩
end Go.Proofs.Ytoncakcfibahaaa
