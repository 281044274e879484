/- linenref.Begins, walked. -/
import Derived.Test.YtebgcemglicjiaaLgW
import Derived.OwnWalk
/- (*code.Book).One, walked. -/
namespace Go.Proofs.Ytebgcemglicjiaa
open Go.RowKit Go.PlainAid

theorem one_code {l : List Int} {c : Int} {w : Nat} (hw : w ≤ 15) (hh : Hit l c w) : ∃ i : Nat, sgn l c w = i ∧ (sgL l 16)[((sgL l w).length + (c - lowW w l).toNat)]? = some (i : Int) ∧ 0 ≤ c - lowW w l := by
  obtain ⟨i, h1, h2⟩ := (hit_iff hh.1).1 hh
  have hw0 : 0 < w := by have := hh.1; omega
  refine ⟨i, sgn_eq hh.1 h1 h2, ?_, by have := hh.2.1; omega⟩
  have h3 := sgL_get hw0 h1 16 (by omega)
  unfold codeAt at h2
  rw [if_pos hh.1] at h2
  rw [show c - lowW (w : Int) l = cntW w (l.take i) by omega]; exact h3
theorem and_one_u8 (n : Int) : bits .and .u8 n 1 = n % 2 := by
  have h127 : (BitVec.ofInt 8 1).toNat = 2 ^ 1 - 1 := by decide
  have key : (BitVec.ofInt 8 n &&& BitVec.ofInt 8 1).toNat = (n % ((2 ^ 8 : Nat) : Int)).toNat % 2 ^ 1 := by
    rw [BitVec.toNat_and, BitVec.toNat_ofInt, h127, Nat.and_two_pow_sub_one_eq_mod]
  show IntKind.u8.wrap ((BitVec.ofInt 8 n &&& BitVec.ofInt 8 1).toNat : Nat) = n % 2
  rw [key, IntKind.wrap_u8]
  omega
theorem onew_bit (s : ByteArray) (p q r : Nat) (hq : q = p / 8) (hr : r = p % 8) : bits .and .u8 (bt s q / 2 ^ r) 1 = tb s p := by
  subst hq; subst hr
  rw [and_one_u8]; rfl

theorem wrap_bit {b : Int} (h : 0 ≤ b ∧ b ≤ 1) : wrap64 b = b := by unfold wrap64; omega
theorem or_bit {c b : Int} (h0 : 0 ≤ c) (h1 : c < 32768) (hb : 0 ≤ b ∧ b ≤ 1) : bits .or .i64 (c * 2) b = 2 * c + b := by
  obtain ⟨x, rfl⟩ := Int.eq_ofNat_of_zero_le h0
  obtain ⟨y, rfl⟩ := Int.eq_ofNat_of_zero_le hb.1
  have hx : (x : Int) * 2 = ((2 ^ 1 * x : Nat) : Int) := by omega
  have key : (BitVec.ofInt 64 ((x : Int) * 2) ||| BitVec.ofInt 64 (y : Int)).toNat = 2 ^ 1 * x + y := by
    rw [hx, BitVec.toNat_or, BitVec.ofInt_natCast, BitVec.ofInt_natCast, BitVec.toNat_ofNat, BitVec.toNat_ofNat, Nat.mod_eq_of_lt (by omega), Nat.mod_eq_of_lt (by omega), Nat.two_pow_add_eq_or_of_lt (by omega)]
  show IntKind.i64.wrap ((BitVec.ofInt 64 ((x : Int) * 2) ||| BitVec.ofInt 64 (y : Int)).toNat : Nat) = _
  rw [key, IntKind.wrap_i64]
  omega
theorem one_no {b : Bool} {P : Prop} (h : b = true ↔ P) (hn : ¬ P) : b = false := by cases b; rfl; exact absurd (h.1 rfl) hn

set_option maxRecDepth 20000 in
set_option maxHeartbeats 2000000 in
theorem onew_any (l : List Int) (s : ByteArray) (a : Nat) (A : Option Addr) (C0 : Nat) (B : Nat) (W : World) (row : W.heap[B]? = some (.cells (bookA (.slice A (sgL l 16).length C0) (bkF l 16) (bkG l 16) (bkC l)) 109 (0, 0))) (hr : RowsIn W W.heap.size A (sgL l 16).length C0 (fun z => [.int .i64 z]) 1 (sgL l 16)) (hcan : canE l = 0) (hl : l.length ≤ 320) (ha : a ≤ 8 * s.size) (hs : s.size ≤ 1048575) :
    Calls Try.prog 55 #[.pointer (some ⟨B, 0, none⟩), .string s, .int .i64 a] W fun e w' => ∃ q : Nat, e = .returned (.tuple #[.int .i64 (one l s a).1, .int .i64 (one l s a).2.1, .int .i64 (one l s a).2.2]) ∧ w' = W.drewN q := by
  have HROW := Lib.hid row
  have HR := Lib.hid hr
  have HBD : Hid (∀ k : Nat, k ≤ 15 → 0 ≤ bkF l 16 k ∧ 0 ≤ bkC l k ∧ bkF l 16 k + bkC l k ≤ 32768) := fun k hk => bk_bd hcan hk
  have HL : Hid (∀ (c : Int) (x : Nat) (V : World), V.heap = W.heap → x ≤ 15 → 0 ≤ c → c < 2 ^ x → Calls Try.prog 74 #[.pointer (some ⟨B, 0, none⟩), .int .i64 c, .int .i64 x] V fun e w' => ∃ (b : Bool) (q : Nat), e = .returned (.bool b) ∧ (b = true ↔ Lg l c x) ∧ w' = V.drewN q) := fun c x V hV h1 h2 h3 => lg_any l _ c x B V (by rw [hV]; exact row) hcan h1 h2 h3
  have HONE : Hid (∀ (c : Int) (w : Nat), w ≤ 15 → Hit l c w → ∃ i : Nat, sgn l c w = i ∧ (sgL l 16)[((sgL l w).length + (c - lowW w l).toNat)]? = some (i : Int) ∧ 0 ≤ c - lowW w l) := fun c w h1 h2 => one_code h1 h2
  have HLEN := Lib.hid (sgL_len l 16)
  clear row hcan hr
  go_enter Try.func55, Try.ntmps55
  go_wp2
  go_loopw [2, 9, 10] (fun v2 v9 v10 wr => ∃ (k q p : Nat) (c : Int), k ≤ 15 ∧ Hid (p = a + k) ∧ Hid (c = cN s a k) ∧ p ≤ 8 * s.size ∧ v2 = .int .i64 (p : Int) ∧ v9 = .int .i64 c ∧ v10 = .int .i64 k ∧ Hid (wr = W.drewN q) ∧ Hid (one l s a = oneR l s a (16 - k) k)) (fun _ _ v10 _ => 16 - (intOf v10).toNat)
  case atStart => exact ⟨0, 0, a, 0, by omega, rfl, rfl, ha, rfl, rfl, rfl, rfl, rfl⟩
  case round =>
    obtain ⟨k, q, p, c, hk, HP, HC0, hps, rfl, rfl, rfl, HW, HN⟩ := hrel
    have hp : p = a + k := HP.out
    have hc : c = cN s a k := HC0.out
    have hrow : wr.heap[B]? = some (.cells (bookA (.slice A (sgL l 16).length C0) (bkF l 16) (bkG l 16) (bkC l)) 109 (0, 0)) := by rw [HW.out]; exact HROW.out
    have cV := (row_cell hrow 0).trans (book_v _ _ _ _)
    have cF := (row_cell hrow (1 + k)).trans (book_F _ _ (bkG l 16) (bkC l) k (by omega))
    have cG := (row_cell hrow (17 + k)).trans (book_G _ (bkF l 16) _ (bkC l) k (by omega))
    have cC := (row_cell hrow (33 + k)).trans (book_C _ (bkF l 16) (bkG l 16) _ k (by omega))
    obtain ⟨b1, b2, b3⟩ := HBD.out k hk
    have hcb := cN_bd s a k
    have hp1 : (2 : Int) ^ k ≤ 32768 := by
      have : (2 : Nat) ^ k ≤ 2 ^ 15 := Nat.pow_le_pow_right (by omega) hk
      have h2 : ((2 ^ k : Nat) : Int) ≤ ((2 ^ 15 : Nat) : Int) := by exact_mod_cast this
      simpa using h2
    have HCB := Lib.hid hcb
    have HLK := Lib.hid (HL.out (cN s a k) k wr (by rw [HW.out]; rfl) hk hcb.1 hcb.2)
    obtain ⟨f, hf⟩ : ∃ f, 16 - k = f + 1 := ⟨15 - k, by omega⟩
    rw [hf] at HN
    rw [← hc] at hcb HLK HCB
    have c0 := hcb.1
    have c1 : c < 32768 := by omega
    have i2 : (0 : Int) ≤ (k : Int) := by omega
    have i3 : (k : Int) < 16 := by omega
    clear hrow hcb hp1
    by_cases hh : Hit l c k
    · have hk0 : 0 < k := by have := hh.1; omega
      have HO : Hid (one l s a = (sgn l c k, (p : Int), 0)) := by
        simp only [Hid]; rw [HN.out, oneR_hit (by rw [← hc]; exact hh), ← hc, ← hp]
      obtain ⟨i, hi1, hi2, hi3⟩ := HONE.out c k hk hh
      rw [hi1] at HO
      have eF : bkF l 16 k = lowW k l := by unfold bkF; rw [if_pos ⟨hk0, by omega⟩]
      have eG : bkG l 16 k = (sgL l k).length := by unfold bkG; rw [if_pos ⟨hk0, by omega⟩]
      have eC : bkC l k = cntW k l := by unfold bkC; rw [if_pos hk0]
      rw [eF] at cF b1 b3
      rw [eG] at cG
      rw [eC] at cC b2 b3
      have hlt := (List.getElem?_eq_some_iff.1 hi2).1
      have h20 := HLEN.out
      obtain ⟨h1, h2, h3⟩ := hh
      obtain ⟨bb, oo, hA, hbB, hcell⟩ := (HR.out.keep (w' := wr) (fun _ _ => by rw [HW.out]; rfl)).one hi2
      subst hA
      generalize lowW (k : Int) l = Fk at *
      generalize cntW (k : Int) l = Ck at *
      generalize (sgL l k).length = Gk at *
      generalize (sgL l 16).length = N at *
      obtain ⟨dd, hdd⟩ : ∃ dd : Nat, c - Fk = dd := ⟨(c - Fk).toNat, by omega⟩
      rw [hdd, Int.toNat_natCast] at hcell hlt
      have hjj : (Gk : Int) + c - Fk = ((Gk + dd : Nat) : Int) := by omega
      have g1 := decide_eq_true (show (0 : Int) < (k : Int) by omega)
      have g2 := decide_eq_true (show (0 : Int) ≤ (dd : Int) by omega)
      have g3 := decide_eq_true (show (dd : Int) < Ck by omega)
      clear hi2 hi1 hi3 HL HONE HBD HROW HR HLK HN hp hc HC0 HP HCB
      go_wp2
      go_quiet (fail)
      go_wp2
      obtain ⟨Q1, hQ1⟩ : ∃ Q1 : Nat, Q1 = nq := ⟨_, rfl⟩
      rw [← hQ1]
      clear hQ1
      go_quiet (fail)
      go_wp2
      go_ret3
      refine ⟨q + (Q1 + nq), ?_, ?_⟩
      · rw [HO.out]; rfl
      · rw [HW.out, World.drewN_drewN, World.drewN_drewN]
    · have HT : Hid (∀ b, (b = true ↔ Lg l c k) → (b = true ↔ Mor l c k)) := fun b hb => hb.trans (lg_mor hh)
      have HC : (k = 0) ∨ (0 < k ∧ c < bkF l 16 k) ∨ (0 < k ∧ bkF l 16 k ≤ c ∧ bkC l k ≤ c - bkF l 16 k) := by
        by_cases hk0 : 0 < k
        · have eF : bkF l 16 k = lowW k l := by unfold bkF; rw [if_pos ⟨hk0, by omega⟩]
          have eC : bkC l k = cntW k l := by unfold bkC; rw [if_pos hk0]
          rw [eF, eC]
          by_cases h1 : lowW k l ≤ c
          · refine .inr (.inr ⟨hk0, h1, ?_⟩)
            by_cases h2 : c < lowW k l + cntW k l
            · exact absurd ⟨by omega, h1, h2⟩ hh
            · omega
          · exact .inr (.inl ⟨hk0, by omega⟩)
        · exact .inl (by omega)
      have HON : Hid (one l s a = oneR l s a (f + 1) k ∧ ¬ Hit l (cN s a k) k ∧ c = cN s a k ∧ p = a + k) := ⟨HN.out, by rw [← hc]; exact hh, hc, hp⟩
      have HLK2 : Hid (∀ m : Nat, Calls Try.prog 74 #[.pointer (some ⟨B, 0, none⟩), .int .i64 c, .int .i64 k] (wr.drewN m) fun e w' => ∃ (b : Bool) (q : Nat), e = .returned (.bool b) ∧ (b = true ↔ Lg l c k) ∧ w' = (wr.drewN m).drewN q) := fun m => HL.out c k (wr.drewN m) (by rw [HW.out]; rfl) hk (by omega) (by have := HCB.out.2; exact this)
      have HCN : Hid (2 * c + tb s p = cN s a (k + 1)) := by rw [hc, hp]; rfl
      have htb := tb_bd s p
      obtain ⟨qq, hqq⟩ : ∃ q : Nat, q = p / 8 := ⟨_, rfl⟩
      obtain ⟨rr, hrr⟩ : ∃ r : Nat, r = p % 8 := ⟨_, rfl⟩
      have f1 : (p : Int).tdiv 8 = qq := by rw [Int.tdiv_eq_ediv_of_nonneg (by omega)]; omega
      have f2 : (p : Int).tmod 8 = rr := by rw [Int.tmod_eq_emod_of_nonneg (by omega)]; omega
      have hqs : p < 8 * s.size → qq < s.size := by omega
      have hr7 : rr ≤ 7 := by omega
      have HBIT := Lib.hid (onew_bit s p qq rr hqq hrr)
      have HQR := Lib.hid (And.intro hqq hrr)
      clear HL HLK HONE HBD HROW HR HN hh hc hp hqq hrr HCB HC0 HP
      generalize bkF l 16 k = Fk at *
      generalize bkC l k = Ck at *
      rcases HC with hk0 | ⟨h1, h2⟩ | ⟨h1, h2, h3⟩
      · have GK : Hid (¬ 0 < k) := by simp only [Hid]; omega
        clear hk0
        by_cases hm : Mor l c k
        · by_cases hsh : 8 * s.size ≤ p
          · have j1 : 8 * (s.size : Int) ≤ (p : Int) := by omega
            have F : Hid (one l s a = (0, 0, 3)) := by
              simp only [Hid]; rw [HON.out.1, oneR_short HON.out.2.1 (by rw [← HON.out.2.2.1]; exact hm) (by have := HON.out.2.2.2; omega)]
            have HM := Lib.hid hm
            clear hm
            clear hf hqs f1 f2 hr7 htb HBIT HQR HCN cV cG
            go_wp2
            have g1 := decide_eq_false (show ¬ 0 < k by have := GK.out; omega)
            have gw : IntKind.i64.wrap (c - Fk) = c - Fk := by rw [IntKind.wrap_i64]; omega
            go_quiet (fail)
            clear g1
            have HLK3 := Lib.hid (HLK2.out nq)
            obtain ⟨w5, hw5⟩ : ∃ w5 : World, w5 = wr.drewN nq := ⟨_, rfl⟩
            rw [← hw5] at HLK3 ⊢
            obtain ⟨Q5, HW5⟩ : ∃ Q, Hid (w5 = W.drewN Q) := ⟨q + nq, by simp only [Hid]; rw [hw5, HW.out, World.drewN_drewN]⟩
            clear hw5
            go_wp2_with (go_at_call 74; refine HLK3.out.mono ?_; rintro e w' ⟨b, q2, rfl, hb, rfl⟩; obtain rfl : b = true := (HT.out b hb).2 HM.out; clear hb)
            go_wp2
            go_ret3
            refine ⟨Q5 + q2, ?_, ?_⟩
            · rw [F.out]; rfl
            · rw [HW5.out, World.drewN_drewN]
          · have j1 := decide_eq_false (show ¬ 8 * (s.size : Int) ≤ (p : Int) by omega)
            have hq1 : qq < s.size := hqs (by omega)
            have hx := get_bt s qq hq1
            have h0 := bt_nonneg s qq
            have h1' := bt_le s qq
            have HK15 := Lib.hid (mor_lt hm)
            have F : Hid (one l s a = oneR l s a (16 - (k + 1)) (k + 1)) := by
              simp only [Hid]; rw [HON.out.1, oneR_on HON.out.2.1 (by rw [← HON.out.2.2.1]; exact hm) (by have := HON.out.2.2.2; omega), show 16 - (k + 1) = f by omega]
            have HM := Lib.hid hm
            clear hm
            clear hf hqs cV cG
            go_wp2
            have g1 := decide_eq_false (show ¬ 0 < k by have := GK.out; omega)
            have gw : IntKind.i64.wrap (c - Fk) = c - Fk := by rw [IntKind.wrap_i64]; omega
            go_quiet (fail)
            clear g1
            have HLK3 := Lib.hid (HLK2.out nq)
            obtain ⟨w5, hw5⟩ : ∃ w5 : World, w5 = wr.drewN nq := ⟨_, rfl⟩
            rw [← hw5] at HLK3 ⊢
            obtain ⟨Q5, HW5⟩ : ∃ Q, Hid (w5 = W.drewN Q) := ⟨q + nq, by simp only [Hid]; rw [hw5, HW.out, World.drewN_drewN]⟩
            clear hw5
            go_wp2_with (go_at_call 74; refine HLK3.out.mono ?_; rintro e w' ⟨b, q2, rfl, hb, rfl⟩; obtain rfl : b = true := (HT.out b hb).2 HM.out; clear hb)
            go_wp2
            refine ⟨⟨k + 1, Q5 + q2, p + 1, 2 * c + tb s p, by have := HK15.out; omega, ?_, ?_, by omega, by go_num, ?_, by go_num, ?_, F.out⟩, ?_⟩
            · have := HON.out.2.2.2; show p + 1 = a + (k + 1); omega
            · exact HCN.out
            · rw [HBIT.out, wrap_bit htb, or_bit c0 c1 htb]
            · show _ = _; rw [HW5.out, World.drewN_drewN]
            · simp [intOf]; omega
        · have F : Hid (one l s a = (0, 0, 7)) := by
            simp only [Hid]; rw [HON.out.1, oneR_none HON.out.2.1 (by rw [← HON.out.2.2.1]; exact hm)]
          have HM := Lib.hid hm
          clear hm
          clear hf hqs f1 f2 hr7 htb HBIT HQR HCN cV cG
          go_wp2
          have g1 := decide_eq_false (show ¬ 0 < k by have := GK.out; omega)
          have gw : IntKind.i64.wrap (c - Fk) = c - Fk := by rw [IntKind.wrap_i64]; omega
          go_quiet (fail)
          clear g1
          have HLK3 := Lib.hid (HLK2.out nq)
          obtain ⟨w5, hw5⟩ : ∃ w5 : World, w5 = wr.drewN nq := ⟨_, rfl⟩
          rw [← hw5] at HLK3 ⊢
          obtain ⟨Q5, HW5⟩ : ∃ Q, Hid (w5 = W.drewN Q) := ⟨q + nq, by simp only [Hid]; rw [hw5, HW.out, World.drewN_drewN]⟩
          clear hw5
          go_wp2_with (go_at_call 74; refine HLK3.out.mono ?_; rintro e w' ⟨b, q2, rfl, hb, rfl⟩; obtain rfl : b = false := one_no (HT.out b hb) HM.out; clear hb)
          go_wp2
          go_ret3
          refine ⟨Q5 + q2, ?_, ?_⟩
          · rw [F.out]; rfl
          · rw [HW5.out, World.drewN_drewN]
      · have GK : Hid (0 < k ∧ ¬ 0 ≤ c - Fk) := ⟨h1, by omega⟩
        by_cases hm : Mor l c k
        · by_cases hsh : 8 * s.size ≤ p
          · have j1 : 8 * (s.size : Int) ≤ (p : Int) := by omega
            have F : Hid (one l s a = (0, 0, 3)) := by
              simp only [Hid]; rw [HON.out.1, oneR_short HON.out.2.1 (by rw [← HON.out.2.2.1]; exact hm) (by have := HON.out.2.2.2; omega)]
            have HM := Lib.hid hm
            clear hm
            clear hf hqs f1 f2 hr7 htb HBIT HQR HCN cV cG
            go_wp2
            have g1 := decide_eq_true (show 0 < k by have := GK.out; omega)
            have g2 := decide_eq_false (show ¬ Fk ≤ c by have := GK.out; omega)
            have gw : IntKind.i64.wrap (c - Fk) = c - Fk := by rw [IntKind.wrap_i64]; omega
            go_quiet (fail)
            clear g1 g2
            have HLK3 := Lib.hid (HLK2.out nq)
            obtain ⟨w5, hw5⟩ : ∃ w5 : World, w5 = wr.drewN nq := ⟨_, rfl⟩
            rw [← hw5] at HLK3 ⊢
            obtain ⟨Q5, HW5⟩ : ∃ Q, Hid (w5 = W.drewN Q) := ⟨q + nq, by simp only [Hid]; rw [hw5, HW.out, World.drewN_drewN]⟩
            clear hw5
            go_wp2_with (go_at_call 74; refine HLK3.out.mono ?_; rintro e w' ⟨b, q2, rfl, hb, rfl⟩; obtain rfl : b = true := (HT.out b hb).2 HM.out; clear hb)
            go_wp2
            go_ret3
            refine ⟨Q5 + q2, ?_, ?_⟩
            · rw [F.out]; rfl
            · rw [HW5.out, World.drewN_drewN]
          · have j1 := decide_eq_false (show ¬ 8 * (s.size : Int) ≤ (p : Int) by omega)
            have hq1 : qq < s.size := hqs (by omega)
            have hx := get_bt s qq hq1
            have h0 := bt_nonneg s qq
            have h1' := bt_le s qq
            have HK15 := Lib.hid (mor_lt hm)
            have F : Hid (one l s a = oneR l s a (16 - (k + 1)) (k + 1)) := by
              simp only [Hid]; rw [HON.out.1, oneR_on HON.out.2.1 (by rw [← HON.out.2.2.1]; exact hm) (by have := HON.out.2.2.2; omega), show 16 - (k + 1) = f by omega]
            have HM := Lib.hid hm
            clear hm
            clear hf hqs cV cG
            go_wp2
            have g1 := decide_eq_true (show 0 < k by have := GK.out; omega)
            have g2 := decide_eq_false (show ¬ Fk ≤ c by have := GK.out; omega)
            have gw : IntKind.i64.wrap (c - Fk) = c - Fk := by rw [IntKind.wrap_i64]; omega
            go_quiet (fail)
            clear g1 g2
            have HLK3 := Lib.hid (HLK2.out nq)
            obtain ⟨w5, hw5⟩ : ∃ w5 : World, w5 = wr.drewN nq := ⟨_, rfl⟩
            rw [← hw5] at HLK3 ⊢
            obtain ⟨Q5, HW5⟩ : ∃ Q, Hid (w5 = W.drewN Q) := ⟨q + nq, by simp only [Hid]; rw [hw5, HW.out, World.drewN_drewN]⟩
            clear hw5
            go_wp2_with (go_at_call 74; refine HLK3.out.mono ?_; rintro e w' ⟨b, q2, rfl, hb, rfl⟩; obtain rfl : b = true := (HT.out b hb).2 HM.out; clear hb)
            go_wp2
            refine ⟨⟨k + 1, Q5 + q2, p + 1, 2 * c + tb s p, by have := HK15.out; omega, ?_, ?_, by omega, by go_num, ?_, by go_num, ?_, F.out⟩, ?_⟩
            · have := HON.out.2.2.2; show p + 1 = a + (k + 1); omega
            · exact HCN.out
            · rw [HBIT.out, wrap_bit htb, or_bit c0 c1 htb]
            · show _ = _; rw [HW5.out, World.drewN_drewN]
            · simp [intOf]; omega
        · have F : Hid (one l s a = (0, 0, 7)) := by
            simp only [Hid]; rw [HON.out.1, oneR_none HON.out.2.1 (by rw [← HON.out.2.2.1]; exact hm)]
          have HM := Lib.hid hm
          clear hm
          clear hf hqs f1 f2 hr7 htb HBIT HQR HCN cV cG
          go_wp2
          have g1 := decide_eq_true (show 0 < k by have := GK.out; omega)
          have g2 := decide_eq_false (show ¬ Fk ≤ c by have := GK.out; omega)
          have gw : IntKind.i64.wrap (c - Fk) = c - Fk := by rw [IntKind.wrap_i64]; omega
          go_quiet (fail)
          clear g1 g2
          have HLK3 := Lib.hid (HLK2.out nq)
          obtain ⟨w5, hw5⟩ : ∃ w5 : World, w5 = wr.drewN nq := ⟨_, rfl⟩
          rw [← hw5] at HLK3 ⊢
          obtain ⟨Q5, HW5⟩ : ∃ Q, Hid (w5 = W.drewN Q) := ⟨q + nq, by simp only [Hid]; rw [hw5, HW.out, World.drewN_drewN]⟩
          clear hw5
          go_wp2_with (go_at_call 74; refine HLK3.out.mono ?_; rintro e w' ⟨b, q2, rfl, hb, rfl⟩; obtain rfl : b = false := one_no (HT.out b hb) HM.out; clear hb)
          go_wp2
          go_ret3
          refine ⟨Q5 + q2, ?_, ?_⟩
          · rw [F.out]; rfl
          · rw [HW5.out, World.drewN_drewN]
      · have GK : Hid (0 < k ∧ 0 ≤ c - Fk ∧ ¬ c - Fk < Ck) := ⟨h1, by omega, by omega⟩
        by_cases hm : Mor l c k
        · by_cases hsh : 8 * s.size ≤ p
          · have j1 : 8 * (s.size : Int) ≤ (p : Int) := by omega
            have F : Hid (one l s a = (0, 0, 3)) := by
              simp only [Hid]; rw [HON.out.1, oneR_short HON.out.2.1 (by rw [← HON.out.2.2.1]; exact hm) (by have := HON.out.2.2.2; omega)]
            have HM := Lib.hid hm
            clear hm
            clear hf hqs f1 f2 hr7 htb HBIT HQR HCN cV cG
            go_wp2
            have g1 := decide_eq_true (show 0 < k by have := GK.out; omega)
            have g2 := decide_eq_true (show Fk ≤ c by have := GK.out; omega)
            have g3 := decide_eq_false (show ¬ c - Fk < Ck by have := GK.out; omega)
            have gw : IntKind.i64.wrap (c - Fk) = c - Fk := by rw [IntKind.wrap_i64]; omega
            go_quiet (fail)
            clear g1 g2 g3
            have HLK3 := Lib.hid (HLK2.out nq)
            obtain ⟨w5, hw5⟩ : ∃ w5 : World, w5 = wr.drewN nq := ⟨_, rfl⟩
            rw [← hw5] at HLK3 ⊢
            obtain ⟨Q5, HW5⟩ : ∃ Q, Hid (w5 = W.drewN Q) := ⟨q + nq, by simp only [Hid]; rw [hw5, HW.out, World.drewN_drewN]⟩
            clear hw5
            go_wp2_with (go_at_call 74; refine HLK3.out.mono ?_; rintro e w' ⟨b, q2, rfl, hb, rfl⟩; obtain rfl : b = true := (HT.out b hb).2 HM.out; clear hb)
            go_wp2
            go_ret3
            refine ⟨Q5 + q2, ?_, ?_⟩
            · rw [F.out]; rfl
            · rw [HW5.out, World.drewN_drewN]
          · have j1 := decide_eq_false (show ¬ 8 * (s.size : Int) ≤ (p : Int) by omega)
            have hq1 : qq < s.size := hqs (by omega)
            have hx := get_bt s qq hq1
            have h0 := bt_nonneg s qq
            have h1' := bt_le s qq
            have HK15 := Lib.hid (mor_lt hm)
            have F : Hid (one l s a = oneR l s a (16 - (k + 1)) (k + 1)) := by
              simp only [Hid]; rw [HON.out.1, oneR_on HON.out.2.1 (by rw [← HON.out.2.2.1]; exact hm) (by have := HON.out.2.2.2; omega), show 16 - (k + 1) = f by omega]
            have HM := Lib.hid hm
            clear hm
            clear hf hqs cV cG
            go_wp2
            have g1 := decide_eq_true (show 0 < k by have := GK.out; omega)
            have g2 := decide_eq_true (show Fk ≤ c by have := GK.out; omega)
            have g3 := decide_eq_false (show ¬ c - Fk < Ck by have := GK.out; omega)
            have gw : IntKind.i64.wrap (c - Fk) = c - Fk := by rw [IntKind.wrap_i64]; omega
            go_quiet (fail)
            clear g1 g2 g3
            have HLK3 := Lib.hid (HLK2.out nq)
            obtain ⟨w5, hw5⟩ : ∃ w5 : World, w5 = wr.drewN nq := ⟨_, rfl⟩
            rw [← hw5] at HLK3 ⊢
            obtain ⟨Q5, HW5⟩ : ∃ Q, Hid (w5 = W.drewN Q) := ⟨q + nq, by simp only [Hid]; rw [hw5, HW.out, World.drewN_drewN]⟩
            clear hw5
            go_wp2_with (go_at_call 74; refine HLK3.out.mono ?_; rintro e w' ⟨b, q2, rfl, hb, rfl⟩; obtain rfl : b = true := (HT.out b hb).2 HM.out; clear hb)
            go_wp2
            refine ⟨⟨k + 1, Q5 + q2, p + 1, 2 * c + tb s p, by have := HK15.out; omega, ?_, ?_, by omega, by go_num, ?_, by go_num, ?_, F.out⟩, ?_⟩
            · have := HON.out.2.2.2; show p + 1 = a + (k + 1); omega
            · exact HCN.out
            · rw [HBIT.out, wrap_bit htb, or_bit c0 c1 htb]
            · show _ = _; rw [HW5.out, World.drewN_drewN]
            · simp [intOf]; omega
        · have F : Hid (one l s a = (0, 0, 7)) := by
            simp only [Hid]; rw [HON.out.1, oneR_none HON.out.2.1 (by rw [← HON.out.2.2.1]; exact hm)]
          have HM := Lib.hid hm
          clear hm
          clear hf hqs f1 f2 hr7 htb HBIT HQR HCN cV cG
          go_wp2
          have g1 := decide_eq_true (show 0 < k by have := GK.out; omega)
          have g2 := decide_eq_true (show Fk ≤ c by have := GK.out; omega)
          have g3 := decide_eq_false (show ¬ c - Fk < Ck by have := GK.out; omega)
          have gw : IntKind.i64.wrap (c - Fk) = c - Fk := by rw [IntKind.wrap_i64]; omega
          go_quiet (fail)
          clear g1 g2 g3
          have HLK3 := Lib.hid (HLK2.out nq)
          obtain ⟨w5, hw5⟩ : ∃ w5 : World, w5 = wr.drewN nq := ⟨_, rfl⟩
          rw [← hw5] at HLK3 ⊢
          obtain ⟨Q5, HW5⟩ : ∃ Q, Hid (w5 = W.drewN Q) := ⟨q + nq, by simp only [Hid]; rw [hw5, HW.out, World.drewN_drewN]⟩
          clear hw5
          go_wp2_with (go_at_call 74; refine HLK3.out.mono ?_; rintro e w' ⟨b, q2, rfl, hb, rfl⟩; obtain rfl : b = false := one_no (HT.out b hb) HM.out; clear hb)
          go_wp2
          go_ret3
          refine ⟨Q5 + q2, ?_, ?_⟩
          · rw [F.out]; rfl
          · rw [HW5.out, World.drewN_drewN]
end Go.Proofs.Ytebgcemglicjiaa

/- code.Read, walked. -/
namespace Go.Proofs.Ytebgcemglicjiaa
open Go.RowKit Go.PlainAid

/-- What code.Read answers. -/
def CrPost (l : List Int) (s : ByteArray) (at_ n : Int) (w : World) (e : Ending) (w' : World) : Prop := ∃ A c, e = .returned (.tuple #[.slice A (crR l s at_ n).2.1.length c, .int .i64 (crR l s at_ n).2.2, .int .i64 (crR l s at_ n).1]) ∧ RowsIn w' w'.heap.size A (crR l s at_ n).2.1.length c (fun z => [.int .i64 z]) 1 (crR l s at_ n).2.1 ∧ Below w.heap.size w w'
theorem crPost_no {l : List Int} {s : ByteArray} {at_ n x : Int} {w w' : World} (h : crR l s at_ n = (x, [], 0)) (hb : Below w.heap.size w w') : CrPost l s at_ n w (.returned (.tuple #[.slice none 0 0, .int .i64 0, .int .i64 x])) w' :=
  ⟨none, 0, by rw [h]; rfl, by rw [h]; exact no_intsC _ _, hb⟩
theorem crR_can {l : List Int} {s : ByteArray} {at_ n : Int} (h : canE l ≠ 0) : crR l s at_ n = (canE l, [], 0) := by unfold crR; rw [if_neg h]
theorem crR_arg {l : List Int} {s : ByteArray} {at_ n : Int} (h : canE l = 0) (h2 : ¬ (0 ≤ at_ ∧ at_ ≤ 8 * s.size ∧ 0 ≤ n)) : crR l s at_ n = (1, [], 0) := by unfold crR; rw [if_pos h, if_neg h2]
theorem crR_large {l : List Int} {s : ByteArray} {at_ n : Int} (h : canE l = 0) (h2 : 0 ≤ at_ ∧ at_ ≤ 8 * s.size ∧ 0 ≤ n) (h3 : ¬ n ≤ 1024) : crR l s at_ n = (2, [], 0) := by unfold crR; rw [if_pos h, if_pos h2, if_neg h3]
theorem crR_ok {l : List Int} {s : ByteArray} {a m : Nat} (h : canE l = 0) (h2 : a ≤ 8 * s.size) (h3 : m ≤ 1024) : crR l s a m = seqR l s m a [] := by
  unfold crR; rw [if_pos h, if_pos (by omega), if_pos (by omega), Int.toNat_natCast, Int.toNat_natCast]

theorem can_320 {l : List Int} (h : canE l = 0) : l.length ≤ 320 := by
  by_cases h2 : 320 < l.length
  · have h3 := (fill_large h2).2
    have h4 := (can_fill (l := l) (by rw [h3]; decide)).1
    rw [h3, h] at h4; exact absurd h4 (by decide)
  · omega

end Go.Proofs.Ytebgcemglicjiaa

namespace Go.Proofs.Ytebgcemglicjiaa
open Go.RowKit Go.PlainAid

/-- ys begins xs. -/
def Bgn (xs ys : List Int) : Prop := xs.take ys.length = ys ∧ ys.length ≤ xs.length
theorem bgn_all {xs ys : List Int} (hl : ys.length ≤ xs.length) (h : ∀ i, i < ys.length → xs[i]? = ys[i]?) : Bgn xs ys := by
  refine ⟨?_, hl⟩
  apply List.ext_getElem?
  intro i
  by_cases hi : i < ys.length
  · rw [List.getElem?_take, if_pos hi]; exact h i hi
  · rw [List.getElem?_eq_none (by rw [List.length_take]; omega), List.getElem?_eq_none (by omega)]
theorem bgn_no {xs ys : List Int} {i : Nat} (hi : i < ys.length) (h : xs[i]? ≠ ys[i]?) : ¬ Bgn xs ys := fun hb => by
  apply h
  have := hb.1
  conv => rhs; rw [← this]
  rw [List.getElem?_take, if_pos hi]

set_option maxRecDepth 20000 in
set_option maxHeartbeats 1000000 in
theorem bgn_any (B B' : Nat) (A : Option Addr) (n c : Nat) (xs : List Int) (A' : Option Addr) (n' c' : Nat) (ys : List Int) (w : World) (r : RowsIn w B A n c (fun z => [.int .i64 z]) 1 xs) (r' : RowsIn w B' A' n' c' (fun z => [.int .i64 z]) 1 ys) :
    Calls Try.prog 60 #[.slice A n c, .slice A' n' c'] w fun e w' => ∃ (b : Bool) (q : Nat), e = .returned (.bool b) ∧ (b = true ↔ Bgn xs ys) ∧ w' = w.drewN q := by
  have hn := r.len
  have hn' := r'.len
  subst hn
  subst hn'
  have htop : (xs.length : Int) ≤ 9223372036854775807 := by have h1 := r.le; have h2 := r.top; unfold maxLen at h2; omega
  have htop' : (ys.length : Int) ≤ 9223372036854775807 := by have h1 := r'.le; have h2 := r'.top; unfold maxLen at h2; omega
  by_cases hl : ys.length ≤ xs.length
  · have d1 := decide_eq_false (show ¬ xs.length < ys.length by omega)
    go_enter Try.func60, Try.ntmps60
    go_wp2
    go_loopw [5, 13] (fun _ v13 wr => ∃ i q : Nat, i ≤ ys.length ∧ v13 = .int .i64 i ∧ Hid (wr = w.drewN q ∧ ∀ j, j < i → xs[j]? = ys[j]?)) (fun _ v13 _ => ys.length - (intOf v13).toNat)
    case atStart => exact ⟨0, 0, Nat.zero_le _, rfl, rfl, fun j h => by omega⟩
    case round =>
      obtain ⟨i, q, hi, rfl, HI⟩ := hrel
      by_cases hlt : i < ys.length
      · have hil := decide_eq_true (show (i : Int) < (ys.length : Int) by omega)
        have e1 := List.getElem?_eq_getElem (l := xs) (i := i) (by omega)
        have e2 := List.getElem?_eq_getElem hlt
        have i1 : (i : Int) < (ys.length : Int) := by omega
        have i2 : (i : Int) < (xs.length : Int) := by omega
        obtain ⟨b, o, rfl, hbB, hc⟩ := (r.keep (w' := wr) (fun p _ => by rw [HI.out.1]; rfl)).one e1
        obtain ⟨b', o', rfl, hbB', hc'⟩ := (r'.keep (w' := wr) (fun p _ => by rw [HI.out.1]; rfl)).one e2
        by_cases hne : xs[i] = ys[i]
        · have HE : Hid (∀ j, j < i + 1 → xs[j]? = ys[j]?) := fun j hj => by
            by_cases e : j = i
            · subst e; rw [e1, e2, hne]
            · exact HI.out.2 j (by omega)
          have hne' : (xs[i] != ys[i]) = false := bne_eq_false_iff_eq.2 hne
          generalize xs[i] = x at *
          generalize ys[i] = y at *
          clear e1 e2 hne
          go_wp2
          go_quiet (fail)
          go_wp2
          go_roundw
          case rel => exact ⟨i + 1, q + nq, by omega, by go_num, by rw [HI.out.1, World.drewN_drewN], HE.out⟩
          case measure => simp [intOf]; omega
        · have F : ¬ Bgn xs ys := bgn_no hlt (by rw [e1, e2]; exact fun k => hne (by injection k))
          have hne' : (xs[i] != ys[i]) = true := bne_iff_ne.2 hne
          generalize xs[i] = x at *
          generalize ys[i] = y at *
          clear e1 e2 hne
          go_wp2
          go_quiet (fail)
          go_wp2
          go_ret
          exact ⟨false, q + nq, rfl, by simp [F], by rw [HI.out.1, World.drewN_drewN]⟩
      · have F : Bgn xs ys := bgn_all hl fun j hj => HI.out.2 j (by omega)
        have hil := decide_eq_false (show ¬ (i : Int) < (ys.length : Int) by omega)
        go_wp2
        go_ret
        exact ⟨true, q, rfl, by simp [F], HI.out.1⟩
  · have d1 := decide_eq_true (show xs.length < ys.length by omega)
    have F : ¬ Bgn xs ys := fun h => hl h.2
    clear hl
    go_enter Try.func60, Try.ntmps60
    go_wp2
    go_ret
    exact ⟨false, 0, rfl, by simp [F], rfl⟩
end Go.Proofs.Ytebgcemglicjiaa
