/- linenref.Overlaid and the closure of FileWrite, walked. -/
import Derived.Test.YtfhgglghofhndaaFwrP
namespace Go.Proofs.Ytfhgglghofhndaa
open Go.RowKit Go.PlainAid

theorem ov_long {W T : List UInt8} {a z : Nat} (h : W.length < a) (hz : z = a + T.length) : ovl (szd W z) a T = (W ++ zer (a - W.length)) ++ T := by
  unfold ovl
  have h1 : szd W z = W ++ zer (z - W.length) := by unfold szd; rw [List.take_of_length_le (by omega)]
  rw [List.drop_of_length_le (by rw [szd_len]; omega), List.append_nil, h1, List.take_append, List.take_of_length_le (by omega)]
  congr 2
  unfold zer; rw [List.take_replicate]; congr 1; omega
theorem ov_in {W T : List UInt8} {a z : Nat} (hz : z = W.length) : ovl (szd W z) a T = (W.take a ++ T) ++ W.drop (a + T.length) := by
  unfold ovl
  have h1 : szd W z = W := by unfold szd; rw [List.take_of_length_le (by omega), show z - W.length = 0 by omega]; simp [zer]
  rw [h1]
theorem ov_out {W T : List UInt8} {a z : Nat} (h : a ≤ W.length) (h2 : W.length ≤ a + T.length) (hz : z = a + T.length) : ovl (szd W z) a T = W.take a ++ T := by
  unfold ovl
  have h1 : szd W z = W ++ zer (z - W.length) := by unfold szd; rw [List.take_of_length_le (by omega)]
  rw [List.drop_of_length_le (by rw [szd_len]; omega), List.append_nil, h1, List.take_append_of_le_length h]

set_option maxRecDepth 20000 in
set_option maxHeartbeats 1000000 in
theorem over_any (W T : List UInt8) (a : Nat) (hW : W.length ≤ 8192) (hT : T.length ≤ 8192) (ha : a ≤ 8192) (w : World) :
    Calls Try.prog 58 #[.string (mkS W), .int .i64 a, .string (mkS T)] w fun e w' => e = .returned (.string (mkS (ovl (szd W (max W.length (a + T.length))) a T))) ∧ w' = w := by
  have hs := mk_size W
  have ht := mk_size T
  have ha' : (a : Int) ≤ 8192 := by omega
  by_cases h : W.length < a
  · have F := Lib.hid (ov_long (T := T) (z := max W.length (a + T.length)) h (by omega))
    have HZ := Lib.hid (zeros_any (a - W.length) (by omega))
    have c1 := cat_mk (P := Try.prog) W (mkS (zer (a - W.length))) (by rw [mk_size, zer_len]; omega)
    rw [bl_mk] at c1
    obtain ⟨W', hW'⟩ : ∃ W', W' = W ++ zer (a - W.length) := ⟨_, rfl⟩
    have hl' : W'.length = a := by rw [hW', List.length_append, zer_len]; omega
    have c2 := cat_mk (P := Try.prog) W' (mkS T) (by rw [mk_size]; omega)
    rw [bl_mk] at c2
    rw [← hW'] at c1 F
    have e1 : (mkS W').extract 0 a = mkS W' := by rw [mk_extract]; simp; rw [List.take_of_length_le (by omega)]
    have s1 : ((mkS W').size : Int) ≤ (a : Int) := by rw [mk_size]; omega
    have s2 : (a : Int) ≤ ((mkS W').size : Int) := by rw [mk_size]; omega
    have s3 : ((mkS W').size : Int) ≤ ((mkS (W' ++ T)).size : Int) := by rw [mk_size, mk_size, List.length_append]; omega
    have i1 : ((mkS W).size : Int) < (a : Int) := by rw [hs]; omega
    have i2 : (a : Int) - ((mkS W).size : Int) = ((a - W.length : Nat) : Int) := by rw [hs]; omega
    have s4 : ¬ ((mkS (W' ++ T)).size : Int) < ((mkS W').size : Int) := by omega
    rw [F.out]
    clear F hs ht hl' hW' h
    generalize mkS (W' ++ T) = R at *
    generalize mkS W' = S' at *
    generalize mkS W = S at *
    generalize mkS T = TT at *
    generalize a - W.length = D at *
    go_enter Try.func58, Try.ntmps58
    go_wp2_with (go_at_call 87; refine (HZ.out _).mono ?_; rintro e w' ⟨rfl, hw'⟩; rw [hw']; clear hw')
    go_ret
    exact ⟨rfl, rfl⟩
  · have i1 : ¬ ((mkS W).size : Int) < (a : Int) := by rw [hs]; omega
    have i2 : (a : Int) ≤ ((mkS W).size : Int) := by rw [hs]; omega
    have e1 : (mkS W).extract 0 a = mkS (W.take a) := by rw [mk_extract]; simp
    have c1 := cat_mk (P := Try.prog) (W.take a) (mkS T) (by rw [mk_size, List.length_take]; omega)
    rw [bl_mk] at c1
    have hla : (W.take a).length = a := by rw [List.length_take]; omega
    have hsz : (mkS (W.take a ++ T)).size = a + T.length := by rw [mk_size, List.length_append, hla]
    by_cases h2 : a + T.length < W.length
    · have F := Lib.hid (ov_in (T := T) (a := a) (z := max W.length (a + T.length)) (show _ = W.length by omega))
      have i3 : ((mkS (W.take a ++ T)).size : Int) < ((mkS W).size : Int) := by rw [hs, hsz]; omega
      have e2 : (mkS W).extract (mkS (W.take a ++ T)).size (mkS W).size = mkS (W.drop (a + T.length)) := by
        rw [mk_extract, hsz, hs, List.take_of_length_le (by rw [List.length_drop]; omega)]
      have c2 := cat_mk (P := Try.prog) (W.take a ++ T) (mkS (W.drop (a + T.length))) (by rw [mk_size, List.length_append, hla, List.length_drop]; omega)
      rw [bl_mk, ← F.out] at c2
      clear F hs ht hsz h h2 hla
      generalize ovl (szd W (max W.length (a + T.length))) a T = O at *
      generalize mkS (W.drop (a + T.length)) = DD at *
      generalize mkS (W.take a ++ T) = R at *
      generalize mkS (W.take a) = TA at *
      generalize mkS W = S at *
      generalize mkS T = TT at *
      go_enter Try.func58, Try.ntmps58
      go_wp2
      go_ret
      exact ⟨rfl, rfl⟩
    · have F := Lib.hid (ov_out (T := T) (z := max W.length (a + T.length)) (show a ≤ W.length by omega) (by omega) (by omega))
      have i3 : ¬ ((mkS (W.take a ++ T)).size : Int) < ((mkS W).size : Int) := by rw [hs, hsz]; omega
      rw [F.out]
      clear F hs ht hsz h h2 hla
      generalize mkS (W.take a ++ T) = R at *
      generalize mkS (W.take a) = TA at *
      generalize mkS W = S at *
      generalize mkS T = TT at *
      go_enter Try.func58, Try.ntmps58
      go_wp2
      go_ret
      exact ⟨rfl, rfl⟩

set_option maxRecDepth 20000 in
set_option maxHeartbeats 1000000 in
theorem wrhole_any (M M1 M2 : Nat) (A : Option Addr) (n c : Nat) (ps : List ByteArray) (a : Nat) (t : ByteArray) (B : Nat) (i : Nat) (hi : i ≤ 64) (ha : a ≤ 8192) (ht : t.size ≤ 8192) (w : World) (hm : w.cell? ⟨M, 1, none⟩ = some (.slice A n c)) (hm1 : w.cell? ⟨M1, 0, none⟩ = some (.int .i64 a)) (hm2 : w.cell? ⟨M2, 0, none⟩ = some (.string t)) (r : RowsIn w B A n c (fun z => [.string z]) 1 ps) :
    Calls Try.prog 59 #[.int .i64 i, .pointer (some ⟨M, 0, none⟩), .pointer (some ⟨M1, 0, none⟩), .pointer (some ⟨M2, 0, none⟩)] w fun e w' => e = .returned (.bool (wrH ps a t.size i)) ∧ w' = w := by
  have hn := r.len
  subst hn
  have hi' : (i : Int) ≤ 64 := by omega
  have ha' : (a : Int) ≤ 8192 := by omega
  have ht' : (t.size : Int) ≤ 8192 := by omega
  have HH : Hid (hitP a t.size i = decide (512 * i < a + t.size ∧ a < 512 * i + 512)) := rfl
  by_cases hlt : i < ps.length
  · obtain ⟨p, e1⟩ : ∃ p, ps[i]? = some p := ⟨_, List.getElem?_eq_getElem hlt⟩
    obtain ⟨b, o, rfl, hbB, hc⟩ := r.one e1
    have i1 : (i : Int) < (ps.length : Int) := by omega
    have i2 : ¬ (ps.length : Int) ≤ (i : Int) := by omega
    by_cases hp : p.size = 0
    · have F : Hid (wrH ps a t.size i = !hitP a t.size i) := by
        have : cutH ps i = true := by unfold cutH; rw [e1]; simpa using hp
        simp only [Hid, wrH, this, Bool.true_and]
      obtain rfl : p = ⟨#[]⟩ := by
        have := size_zero hp; exact this
      clear e1 hlt hp
      rcases (show (a : Int) + (t.size : Int) ≤ 512 * (i : Int) ∨ (¬ (a : Int) + (t.size : Int) ≤ 512 * (i : Int) ∧ 512 * (i : Int) + 512 ≤ (a : Int)) ∨ (¬ (a : Int) + (t.size : Int) ≤ 512 * (i : Int) ∧ ¬ 512 * (i : Int) + 512 ≤ (a : Int)) by omega) with j1 | ⟨j1, j2⟩ | ⟨j1, j2⟩
      · have F2 : Hid (hitP a t.size i = false) := by rw [HH.out]; simp only [Hid, decide_eq_false_iff_not]; omega
        go_enter Try.func59, Try.ntmps59
        go_wp2
        go_ret
        exact ⟨by rw [F.out, F2.out] <;> rfl, rfl⟩
      · have F2 : Hid (hitP a t.size i = false) := by rw [HH.out]; simp only [Hid, decide_eq_false_iff_not]; omega
        go_enter Try.func59, Try.ntmps59
        go_wp2
        go_ret
        exact ⟨by rw [F.out, F2.out] <;> rfl, rfl⟩
      · have F2 : Hid (hitP a t.size i = true) := by rw [HH.out]; simp only [Hid, decide_eq_true_eq]; omega
        go_enter Try.func59, Try.ntmps59
        go_wp2
        go_ret
        exact ⟨by rw [F.out, F2.out] <;> rfl, rfl⟩
    · have hne := emp_ne hp
      have hne2 := emp_ne2 hp
      have hne3 := emp_ne3 hp
      have F : Hid (wrH ps a t.size i = false) := by
        have : cutH ps i = false := by unfold cutH; rw [e1]; simpa using hp
        simp only [Hid, wrH, this, Bool.false_and]
      clear e1 hlt hp
      go_enter Try.func59, Try.ntmps59
      go_wp2
      go_ret
      exact ⟨by rw [F.out] <;> rfl, rfl⟩
  · have F : Hid (wrH ps a t.size i = !hitP a t.size i) := by
      have : cutH ps i = true := by unfold cutH; rw [List.getElem?_eq_none (by omega)]
      simp only [Hid, wrH, this, Bool.true_and]
    have i2 : (ps.length : Int) ≤ (i : Int) := by omega
    clear hlt
    rcases (show (a : Int) + (t.size : Int) ≤ 512 * (i : Int) ∨ (¬ (a : Int) + (t.size : Int) ≤ 512 * (i : Int) ∧ 512 * (i : Int) + 512 ≤ (a : Int)) ∨ (¬ (a : Int) + (t.size : Int) ≤ 512 * (i : Int) ∧ ¬ 512 * (i : Int) + 512 ≤ (a : Int)) by omega) with j1 | ⟨j1, j2⟩ | ⟨j1, j2⟩
    · have F2 : Hid (hitP a t.size i = false) := by rw [HH.out]; simp only [Hid, decide_eq_false_iff_not]; omega
      go_enter Try.func59, Try.ntmps59
      go_wp2
      go_ret
      exact ⟨by rw [F.out, F2.out] <;> rfl, rfl⟩
    · have F2 : Hid (hitP a t.size i = false) := by rw [HH.out]; simp only [Hid, decide_eq_false_iff_not]; omega
      go_enter Try.func59, Try.ntmps59
      go_wp2
      go_ret
      exact ⟨by rw [F.out, F2.out] <;> rfl, rfl⟩
    · have F2 : Hid (hitP a t.size i = true) := by rw [HH.out]; simp only [Hid, decide_eq_true_eq]; omega
      go_enter Try.func59, Try.ntmps59
      go_wp2
      go_ret
      exact ⟨by rw [F.out, F2.out] <;> rfl, rfl⟩
end Go.Proofs.Ytfhgglghofhndaa
