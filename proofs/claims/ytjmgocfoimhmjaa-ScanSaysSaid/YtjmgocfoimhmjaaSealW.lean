/- seal.fit, seal.Seal, linenref.backward and linenref.Seal, walked. -/
import Derived.Test.YtjmgocfoimhmjaaSealP
import Derived.Test.YtjmgocfoimhmjaaSumM
import Derived.Test.YtjmgocfoimhmjaaFixW
import Derived.Test.YtjmgocfoimhmjaaMem
import Derived.Deep.RegionHeld3
namespace Go.Proofs.Ytjmgocfoimhmjaa
open Go.RowKit Go.PlainAid

theorem run_str4 {P : Program} {e : TypeId} {src dst : TypeId} (hs : P.underlying src = some (.slice e)) (he : P.underlying e = some (.int .u8)) (hd : P.underlying dst = some .string) (x0 x1 x2 x3 : Int) :
    ∀ (W : World) (b c : Nat), W.cell? ⟨b, 0, none⟩ = some (.int .u8 x0) → W.cell? ⟨b, 1, none⟩ = some (.int .u8 x1) → W.cell? ⟨b, 2, none⟩ = some (.int .u8 x2) → W.cell? ⟨b, 3, none⟩ = some (.int .u8 x3) → (convert src dst (.slice (some ⟨b, 0, none⟩) 4 c)).run P W = .ok (.string (strOfNums [x0, x1, x2, x3])) W := fun W b c h0 h1 h2 h3 =>
  run_convert_bytes_arg W src e hs he b 0 4 c [x0, x1, x2, x3] rfl (fun i hi => by
    have : i = 0 ∨ i = 1 ∨ i = 2 ∨ i = 3 := by omega
    rcases this with rfl | rfl | rfl | rfl
    · simpa using h0
    · simpa using h1
    · simpa using h2
    · simpa using h3) dst hd
theorem run_cat_str {P : Program} (xs : List Int) (t : ByteArray) (h : xs.length + t.size ≤ 9223372036854775807) : ∀ W : World, (Op.stringOp .add (strOfNums xs) t).run P W = .ok (.string (strOfNums (xs ++ btL t t.size))) W := by
  have := run_cat (P := P) xs (btL t t.size) (by rw [btL_length]; exact h)
  rw [strOf_btL] at this
  exact this

set_option maxRecDepth 20000 in
set_option maxHeartbeats 1000000 in
theorem fit_any (k n : Int) (t : ByteArray) (w : World) :
    Calls Try.prog 89 #[.int .i64 k, .int .i64 n, .string t] w fun e w' => e = .returned (.int .i64 (sealE k n t.size)) ∧ w = w' := by
  rcases (show (k ≠ 1 ∧ k ≠ 2) ∨ k = 1 ∨ k = 2 by omega) with hk | rfl | rfl
  · have F := Lib.hid (sealE_arg (z := t.size) (n := n) (.inl hk))
    have b1 : (k != 1) = true := bne_iff_ne.2 hk.1
    have b2 : (k != 2) = true := bne_iff_ne.2 hk.2
    clear hk
    go_enter Try.func89, Try.ntmps89
    go_wp2
    go_ret
    exact ⟨ret_i1 F.out.symm, rfl⟩
  · rcases (show n < 0 ∨ (0 ≤ n ∧ 2147483647 < n) ∨ (0 ≤ n ∧ n ≤ 2147483647) by omega) with hn | ⟨hn0, hn⟩ | ⟨hn0, hn⟩
    · have F := Lib.hid (sealE_arg (k := 1) (z := t.size) (.inr (.inl hn)))
      go_enter Try.func89, Try.ntmps89
      go_wp2
      go_ret
      exact ⟨ret_i1 F.out.symm, rfl⟩
    · have F := Lib.hid (sealE_arg (k := 1) (z := t.size) (.inr (.inr hn)))
      go_enter Try.func89, Try.ntmps89
      go_wp2
      go_ret
      exact ⟨ret_i1 F.out.symm, rfl⟩
    · by_cases hz : 1000 < t.size
      · have F := Lib.hid (sealE_large (k := 1) (n := n) (by omega) hz)
        have hz1 : (1000 : Int) < (t.size : Int) := by omega
        go_enter Try.func89, Try.ntmps89
        go_wp2
        go_ret
        exact ⟨ret_i1 F.out.symm, rfl⟩
      · have F := Lib.hid (sealE_ok (k := 1) (n := n) (by omega) hz)
        have hz1 : (t.size : Int) ≤ 1000 := by omega
        go_enter Try.func89, Try.ntmps89
        go_wp2
        go_ret
        exact ⟨ret_i1 F.out.symm, rfl⟩
  · rcases (show n < 0 ∨ (0 ≤ n ∧ 2147483647 < n) ∨ (0 ≤ n ∧ n ≤ 2147483647) by omega) with hn | ⟨hn0, hn⟩ | ⟨hn0, hn⟩
    · have F := Lib.hid (sealE_arg (k := 2) (z := t.size) (.inr (.inl hn)))
      go_enter Try.func89, Try.ntmps89
      go_wp2
      go_ret
      exact ⟨ret_i1 F.out.symm, rfl⟩
    · have F := Lib.hid (sealE_arg (k := 2) (z := t.size) (.inr (.inr hn)))
      go_enter Try.func89, Try.ntmps89
      go_wp2
      go_ret
      exact ⟨ret_i1 F.out.symm, rfl⟩
    · by_cases hz : 1000 < t.size
      · have F := Lib.hid (sealE_large (k := 2) (n := n) (by omega) hz)
        have hz1 : (1000 : Int) < (t.size : Int) := by omega
        go_enter Try.func89, Try.ntmps89
        go_wp2
        go_ret
        exact ⟨ret_i1 F.out.symm, rfl⟩
      · have F := Lib.hid (sealE_ok (k := 2) (n := n) (by omega) hz)
        have hz1 : (t.size : Int) ≤ 1000 := by omega
        go_enter Try.func89, Try.ntmps89
        go_wp2
        go_ret
        exact ⟨ret_i1 F.out.symm, rfl⟩

theorem fixW1' (c : Int) : fixW 1 c = fixL 1 c := by unfold fixW; rw [if_pos (by omega)]; rfl
theorem fixW2' (c : Int) : fixW 2 c = fixL 2 c := by unfold fixW; rw [if_pos (by omega)]; rfl
theorem fixW4' (c : Int) : fixW 4 c = fixL 4 c := by unfold fixW; rw [if_pos (by omega)]; rfl

set_option maxRecDepth 20000 in
set_option maxHeartbeats 1000000 in
theorem seal_ok (k n : Int) (t : ByteArray) (w : World) (hE : sealE k n t.size = 0) :
    Calls Try.prog 83 #[.int .i64 k, .int .i64 n, .string t] w fun e w' => e = .returned (.tuple #[.string (strOfNums (sealS k n t)), .int .i64 (sealE k n t.size)]) ∧ Below w.heap.size w w' := by
  have H := Lib.hid (fit_any k n t w)
  rw [hE] at H ⊢
  obtain ⟨hk, hn0, hn1, hz⟩ := sealE_zero hE
  have hS := sealS_ok (k := k) (n := n) (t := t) hE
  have hH := sealH_length k n t
  have hk0 : 1 ≤ k ∧ k ≤ 2 := by omega
  have u1 : IntKind.u64.wrap k = k := by rw [IntKind.wrap_u64]; omega
  have u2 : IntKind.u64.wrap n = n := by rw [IntKind.wrap_u64]; omega
  have u3 : IntKind.u64.wrap (t.size : Int) = (t.size : Int) := by rw [IntKind.wrap_u64]; omega
  have C1 : Hid (∀ W, Calls Try.prog 84 #[.int .u64 k, .int .i64 1] W fun e w' => e = .returned (.string (strOfNums (fixL 1 k))) ∧ Below W.heap.size W w') := fun W => by
    have := fix_any k 1 W (by omega) (by omega) (by omega) (by omega); rwa [fixW1'] at this
  have C2 : Hid (∀ W, Calls Try.prog 84 #[.int .u64 n, .int .i64 4] W fun e w' => e = .returned (.string (strOfNums (fixL 4 n))) ∧ Below W.heap.size W w') := fun W => by
    have := fix_any n 4 W (by omega) (by omega) (by omega) (by omega); rwa [fixW4'] at this
  have C3 : Hid (∀ W, Calls Try.prog 84 #[.int .u64 (t.size : Int), .int .i64 2] W fun e w' => e = .returned (.string (strOfNums (fixL 2 t.size))) ∧ Below W.heap.size W w') := fun W => by
    have := fix_any t.size 2 W (by omega) (by omega) (by omega) (by omega); rwa [fixW2'] at this
  have l1 := fixL_length 1 k
  have l2 := fixL_length 4 n
  have l3 := fixL_length 2 t.size
  have F2 : sealH k n t = fixL 1 k ++ (fixL 4 n ++ (fixL 2 t.size ++ btL t t.size)) := by unfold sealH; simp
  generalize fixL 1 k = L1 at *
  generalize fixL 4 n = L2 at *
  generalize fixL 2 (t.size : Int) = L3 at *
  have hcat1 := run_cat (P := Try.prog) L1 L2 (by omega)
  have hcat2 := run_cat (P := Try.prog) (L1 ++ L2) L3 (by rw [List.length_append]; omega)
  have hcat3 := run_cat_str (P := Try.prog) (L1 ++ (L2 ++ L3)) t (by simp only [List.length_append]; omega)
  simp only [List.append_assoc] at hcat2 hcat3
  rw [← F2] at hcat3
  have hHs : (strOfNums (sealH k n t)).size = 7 + t.size := by rw [strOfNums_size, hH]
  have hcat4 := run_cat (P := Try.prog) (sealH k n t) (tail4 (sumV (strOfNums (sealH k n t)))) (by rw [hH]; simp [tail4]; omega)
  have CS : Hid (∀ W, Calls Try.prog 88 #[.string (strOfNums (sealH k n t))] W fun e w' => e = .returned (.int .u32 (sumV (strOfNums (sealH k n t)))) ∧ Below W.heap.size W w') := fun W => sum_any _ W (by omega)
  have hb := sumV_bd (strOfNums (sealH k n t))
  rw [hS]
  unfold tail4 at hcat4 ⊢
  generalize sumV (strOfNums (sealH k n t)) = c at *
  generalize sealH k n t = HH at *
  have hstr := run_str4 (P := Try.prog) (src := 132) Try.underlying132 Try.underlying5 Try.underlying9 (c % 256) (c / 256 % 256) (c / 65536 % 256) (c / 16777216)
  have e4 : c / 16777216 % 256 = c / 16777216 := by omega
  rw [e4] at hcat4 ⊢
  clear e4
  clear hE hS F2 hHs hH l1 l2 l3 hk
  go_enter Try.func83, Try.ntmps83
  go_wp2_with (first
    | (go_at_call 89; refine H.out.mono ?_; rintro e w' ⟨rfl, rfl⟩)
    | (go_at_call_of 84 (Value.int .i64 1); refine (C1.out _).mono ?_; rintro e w1 ⟨rfl, hb1⟩)
    | (go_at_call_of 84 (Value.int .i64 4); refine (C2.out _).mono ?_; rintro e w2 ⟨rfl, hb2⟩)
    | (go_at_call_of 84 (Value.int .i64 2); refine (C3.out _).mono ?_; rintro e w3 ⟨rfl, hb3⟩)
    | (go_at_call 88; refine (CS.out _).mono ?_; rintro e w4 ⟨rfl, hb4⟩))
  go_ret2
  exact ⟨rfl, ((((hb1.trans (hb2.mono hb1.size)).trans (hb3.mono (by have := hb1.size; have := hb2.size; omega))).trans (hb4.mono (by have := hb1.size; have := hb2.size; have := hb3.size; omega))).alloc (by have := hb1.size; have := hb2.size; have := hb3.size; have := hb4.size; omega) _)⟩

set_option maxRecDepth 20000 in
set_option maxHeartbeats 1000000 in
theorem seal_any (k n : Int) (t : ByteArray) (w : World) :
    Calls Try.prog 83 #[.int .i64 k, .int .i64 n, .string t] w fun e w' => e = .returned (.tuple #[.string (strOfNums (sealS k n t)), .int .i64 (sealE k n t.size)]) ∧ Below w.heap.size w w' := by
  by_cases hE : sealE k n t.size = 0
  · exact seal_ok k n t w hE
  · have H := Lib.hid (fit_any k n t w)
    have hne : (sealE k n t.size != 0) = true := bne_iff_ne.2 hE
    rw [sealS_no hE]
    generalize sealE k n t.size = ee at *
    clear hE
    go_enter Try.func83, Try.ntmps83
    go_wp2_with (go_at_call 89; refine H.out.mono ?_; rintro e w' ⟨rfl, rfl⟩)
    go_ret2
    exact ⟨rfl, Below.refl _ _⟩

theorem back_step (L : List Int) (k : Nat) (x : Int) (h : L[k]? = some x) : (L.take (k + 1)).reverse = [x] ++ (L.take k).reverse := by
  rw [List.take_add_one, h]; simp
set_option maxRecDepth 20000 in
set_option maxHeartbeats 1000000 in
theorem back_any (L : List Int) (w : World) (hL : L.length ≤ 1048576) :
    Calls Try.prog 90 #[.string (strOfNums L)] w fun e w' => e = .returned (.string (strOfNums L.reverse)) ∧ w = w' := by
  have hz := strOfNums_size L
  go_enter Try.func90, Try.ntmps90
  go_wp2
  go_loop [3, 7] (fun v3 v7 => ∃ (k : Nat) (R : List Int), k ≤ L.length ∧ R.length ≤ k ∧ Hid (R = (L.take k).reverse) ∧ v7 = .int .i64 k ∧ v3 = .string (strOfNums R)) (fun _ v7 => L.length - (intOf v7).toNat)
  case atStart => exact ⟨0, [], Nat.zero_le _, by simp, by simp [Hid], rfl, rfl⟩
  case round =>
    obtain ⟨k, R, hk, hRl, hR, rfl, rfl⟩ := hrel
    by_cases hlt : k < L.length
    · have e0 := List.getElem?_eq_getElem hlt
      have HS := Lib.hid (back_step L k _ e0)
      have hx1 : (strOfNums L).extract k (k + 1) = strOfNums [L[k]] := by
        rw [strOfNums_extract, show k + 1 - k = 1 by omega]
        congr 1
        rw [List.take_one, List.head?_drop, e0]; rfl
      generalize L[k] = x at *
      have hcut := run_cut (P := Try.prog) (t := 9) (by kernel_rfl) (strOfNums L) k (k + 1) (by omega) (by omega)
      rw [hx1] at hcut
      have hcat := run_cat (P := Try.prog) [x] R (by simp; omega)
      have e2 : IntKind.i64.wrap ((k : Int) + 1) = (k : Int) + 1 := by rw [IntKind.wrap_i64]; omega
      have e3 : (0 : Int) ≤ (k : Int) + 1 := by omega
      have e4 : ((k : Int) + 1).toNat = k + 1 := by omega
      have e5 : (k : Int) + 1 ≤ (L.length : Int) := by omega
      have e6 : (k : Int) ≤ (k : Int) + 1 := by omega
      clear e0
      go_wp2
      go_round
      case rel => exact ⟨k + 1, [x] ++ R, by omega, by simp; omega, by simp only [Hid]; rw [HS.out, hR.out], by go_num, rfl⟩
      case measure => simp [intOf]; omega
    · have F : Hid (R = L.reverse) := by simp only [Hid]; rw [hR.out, List.take_of_length_le (by omega)]
      go_wp2
      go_ret
      exact ⟨by rw [F.out]; rfl, rfl⟩

set_option maxRecDepth 20000 in
set_option maxHeartbeats 1000000 in
theorem sealr_ok (k n : Int) (t : ByteArray) (w : World) (hE : sealE k n t.size = 0) :
    Calls Try.prog 86 #[.int .i64 k, .int .i64 n, .string t] w fun e w' => e = .returned (.tuple #[.string (strOfNums (sealS k n t)), .int .i64 (sealE k n t.size)]) ∧ Below w.heap.size w w' := by
  rw [hE]
  obtain ⟨hk, hn0, hn1, hz⟩ := sealE_zero hE
  have hS := sealS_ok (k := k) (n := n) (t := t) hE
  have hH := sealH_length k n t
  have hk0 : 1 ≤ k ∧ k ≤ 2 := by omega
  have u1 : IntKind.u64.wrap k = k := by rw [IntKind.wrap_u64]; omega
  have u2 : IntKind.u64.wrap n = n := by rw [IntKind.wrap_u64]; omega
  have u3 : IntKind.u64.wrap (t.size : Int) = (t.size : Int) := by rw [IntKind.wrap_u64]; omega
  have C1 : Hid (∀ W, Calls Try.prog 87 #[.int .u64 k, .int .i64 1] W fun e w' => e = .returned (.string (strOfNums (fixL 1 k))) ∧ Below W.heap.size W w') := fun W => by
    have := fixr_any k 1 W (by omega) (by omega) (by omega) (by omega); rwa [fixW1'] at this
  have C2 : Hid (∀ W, Calls Try.prog 87 #[.int .u64 n, .int .i64 4] W fun e w' => e = .returned (.string (strOfNums (fixL 4 n))) ∧ Below W.heap.size W w') := fun W => by
    have := fixr_any n 4 W (by omega) (by omega) (by omega) (by omega); rwa [fixW4'] at this
  have C3 : Hid (∀ W, Calls Try.prog 87 #[.int .u64 (t.size : Int), .int .i64 2] W fun e w' => e = .returned (.string (strOfNums (fixL 2 t.size))) ∧ Below W.heap.size W w') := fun W => by
    have := fixr_any t.size 2 W (by omega) (by omega) (by omega) (by omega); rwa [fixW2'] at this
  have l1 := fixL_length 1 k
  have l2 := fixL_length 4 n
  have l3 := fixL_length 2 t.size
  have F2 : sealH k n t = fixL 1 k ++ (fixL 4 n ++ (fixL 2 t.size ++ btL t t.size)) := by unfold sealH; simp
  generalize fixL 1 k = L1 at *
  generalize fixL 4 n = L2 at *
  generalize fixL 2 (t.size : Int) = L3 at *
  have hcat1 := run_cat (P := Try.prog) L1 L2 (by omega)
  have hcat2 := run_cat (P := Try.prog) (L1 ++ L2) L3 (by rw [List.length_append]; omega)
  have hcat3 := run_cat_str (P := Try.prog) (L1 ++ (L2 ++ L3)) t (by simp only [List.length_append]; omega)
  simp only [List.append_assoc] at hcat2 hcat3
  rw [← F2] at hcat3
  have hHs : (strOfNums (sealH k n t)).size = 7 + t.size := by rw [strOfNums_size, hH]
  have hcat4 := run_cat (P := Try.prog) (sealH k n t) (tail4 (sumV (strOfNums (sealH k n t)))) (by rw [hH]; simp [tail4]; omega)
  have CS : Hid (∀ W, Calls Try.prog 91 #[.int .u32 0, .string (strOfNums (sealH k n t))] W fun e w' => e = .returned (.int .u32 (sumV (strOfNums (sealH k n t)))) ∧ W = w') := fun W => by
    have := sumr_any 0#32 (strOfNums (sealH k n t)) W (by omega)
    rw [v32_zero] at this
    exact this
  have hb := sumV_bd (strOfNums (sealH k n t))
  rw [hS]
  generalize sumV (strOfNums (sealH k n t)) = c at *
  generalize sealH k n t = HH at *
  have u4 : IntKind.u64.wrap c = c := by rw [IntKind.wrap_u64]; omega
  have C4 : Hid (∀ W, Calls Try.prog 87 #[.int .u64 c, .int .i64 4] W fun e w' => e = .returned (.string (strOfNums (fixL 4 c))) ∧ Below W.heap.size W w') := fun W => by
    have := fixr_any c 4 W (by omega) (by omega) (by omega) (by omega); rwa [fixW4'] at this
  have C5 : Hid (∀ W, Calls Try.prog 90 #[.string (strOfNums (fixL 4 c))] W fun e w' => e = .returned (.string (strOfNums (tail4 c))) ∧ W = w') := fun W => by
    have := back_any (fixL 4 c) W (by rw [fixL_length]; omega)
    rw [fix4_tail] at this; exact this
  generalize fixL 4 c = L4 at *
  generalize tail4 c = L5 at *
  clear hE hS F2 hHs hH l1 l2 l3 hk
  rcases (show k = 1 ∨ k = 2 by omega) with rfl | rfl
  · go_enter Try.func86, Try.ntmps86
    go_wp2_with (first
      | (go_at_call_of 87 (Value.int .i64 1); refine (C1.out _).mono ?_; rintro e w1 ⟨rfl, hb1⟩)
      | (go_at_call_of 87 (Value.int .u64 c); refine (C4.out _).mono ?_; rintro e w4 ⟨rfl, hb4⟩)
      | (go_at_call_of 87 (Value.int .i64 4); refine (C2.out _).mono ?_; rintro e w2 ⟨rfl, hb2⟩)
      | (go_at_call_of 87 (Value.int .i64 2); refine (C3.out _).mono ?_; rintro e w3 ⟨rfl, hb3⟩)
      | (go_at_call 91; refine (CS.out _).mono ?_; rintro e w5 ⟨rfl, rfl⟩)
      | (go_at_call 90; refine (C5.out _).mono ?_; rintro e w6 ⟨rfl, rfl⟩))
    go_ret2
    exact ⟨rfl, (((hb1.trans (hb2.mono hb1.size)).trans (hb3.mono (by have := hb1.size; have := hb2.size; omega))).trans (hb4.mono (by have := hb1.size; have := hb2.size; have := hb3.size; omega)))⟩
  · go_enter Try.func86, Try.ntmps86
    go_wp2_with (first
      | (go_at_call_of 87 (Value.int .i64 1); refine (C1.out _).mono ?_; rintro e w1 ⟨rfl, hb1⟩)
      | (go_at_call_of 87 (Value.int .u64 c); refine (C4.out _).mono ?_; rintro e w4 ⟨rfl, hb4⟩)
      | (go_at_call_of 87 (Value.int .i64 4); refine (C2.out _).mono ?_; rintro e w2 ⟨rfl, hb2⟩)
      | (go_at_call_of 87 (Value.int .i64 2); refine (C3.out _).mono ?_; rintro e w3 ⟨rfl, hb3⟩)
      | (go_at_call 91; refine (CS.out _).mono ?_; rintro e w5 ⟨rfl, rfl⟩)
      | (go_at_call 90; refine (C5.out _).mono ?_; rintro e w6 ⟨rfl, rfl⟩))
    go_ret2
    exact ⟨rfl, (((hb1.trans (hb2.mono hb1.size)).trans (hb3.mono (by have := hb1.size; have := hb2.size; omega))).trans (hb4.mono (by have := hb1.size; have := hb2.size; have := hb3.size; omega)))⟩

set_option maxRecDepth 20000 in
set_option maxHeartbeats 1000000 in
theorem sealr_no (k n : Int) (t : ByteArray) (w : World) (hE : sealE k n t.size ≠ 0) :
    Calls Try.prog 86 #[.int .i64 k, .int .i64 n, .string t] w fun e w' => e = .returned (.tuple #[.string (strOfNums (sealS k n t)), .int .i64 (sealE k n t.size)]) ∧ Below w.heap.size w w' := by
  rcases (show (k ≠ 1 ∧ k ≠ 2) ∨ k = 1 ∨ k = 2 by omega) with hk | rfl | rfl
  · have F := Lib.hid (show sealE k n t.size = _ ∧ sealS k n t = [] from ⟨sealE_arg (z := t.size) (n := n) (.inl hk), sealS_no (by rw [sealE_arg (z := t.size) (n := n) (.inl hk)]; decide)⟩)
    have b1 : (k != 1) = true := bne_iff_ne.2 hk.1
    have b2 : (k != 2) = true := bne_iff_ne.2 hk.2
    clear hk hE
    go_enter Try.func86, Try.ntmps86
    go_wp2
    go_ret2
    exact ⟨ret_s2 (by rw [F.out.2]; rfl) F.out.1.symm, Below.refl _ _⟩
  · rcases (show n < 0 ∨ (0 ≤ n ∧ 2147483647 < n) ∨ (0 ≤ n ∧ n ≤ 2147483647) by omega) with hn | ⟨hn0, hn⟩ | ⟨hn0, hn⟩
    · have F := Lib.hid (show sealE 1 n t.size = _ ∧ sealS 1 n t = [] from ⟨sealE_arg (k := 1) (z := t.size) (.inr (.inl hn)), sealS_no (by rw [sealE_arg (k := 1) (z := t.size) (.inr (.inl hn))]; decide)⟩)
      clear hE
      go_enter Try.func86, Try.ntmps86
      go_wp2
      go_ret2
      exact ⟨ret_s2 (by rw [F.out.2]; rfl) F.out.1.symm, Below.refl _ _⟩
    · have F := Lib.hid (show sealE 1 n t.size = _ ∧ sealS 1 n t = [] from ⟨sealE_arg (k := 1) (z := t.size) (.inr (.inr hn)), sealS_no (by rw [sealE_arg (k := 1) (z := t.size) (.inr (.inr hn))]; decide)⟩)
      clear hE
      go_enter Try.func86, Try.ntmps86
      go_wp2
      go_ret2
      exact ⟨ret_s2 (by rw [F.out.2]; rfl) F.out.1.symm, Below.refl _ _⟩
    · by_cases hz : 1000 < t.size
      · have F := Lib.hid (show sealE 1 n t.size = _ ∧ sealS 1 n t = [] from ⟨sealE_large (k := 1) (n := n) (by omega) hz, sealS_no (by rw [sealE_large (k := 1) (n := n) (by omega) hz]; decide)⟩)
        clear hE
        have hz1 : (1000 : Int) < (t.size : Int) := by omega
        go_enter Try.func86, Try.ntmps86
        go_wp2
        go_ret2
        exact ⟨ret_s2 (by rw [F.out.2]; rfl) F.out.1.symm, Below.refl _ _⟩
      · exact absurd (sealE_ok (k := 1) (n := n) (by omega) hz) hE
  · rcases (show n < 0 ∨ (0 ≤ n ∧ 2147483647 < n) ∨ (0 ≤ n ∧ n ≤ 2147483647) by omega) with hn | ⟨hn0, hn⟩ | ⟨hn0, hn⟩
    · have F := Lib.hid (show sealE 2 n t.size = _ ∧ sealS 2 n t = [] from ⟨sealE_arg (k := 2) (z := t.size) (.inr (.inl hn)), sealS_no (by rw [sealE_arg (k := 2) (z := t.size) (.inr (.inl hn))]; decide)⟩)
      clear hE
      go_enter Try.func86, Try.ntmps86
      go_wp2
      go_ret2
      exact ⟨ret_s2 (by rw [F.out.2]; rfl) F.out.1.symm, Below.refl _ _⟩
    · have F := Lib.hid (show sealE 2 n t.size = _ ∧ sealS 2 n t = [] from ⟨sealE_arg (k := 2) (z := t.size) (.inr (.inr hn)), sealS_no (by rw [sealE_arg (k := 2) (z := t.size) (.inr (.inr hn))]; decide)⟩)
      clear hE
      go_enter Try.func86, Try.ntmps86
      go_wp2
      go_ret2
      exact ⟨ret_s2 (by rw [F.out.2]; rfl) F.out.1.symm, Below.refl _ _⟩
    · by_cases hz : 1000 < t.size
      · have F := Lib.hid (show sealE 2 n t.size = _ ∧ sealS 2 n t = [] from ⟨sealE_large (k := 2) (n := n) (by omega) hz, sealS_no (by rw [sealE_large (k := 2) (n := n) (by omega) hz]; decide)⟩)
        clear hE
        have hz1 : (1000 : Int) < (t.size : Int) := by omega
        go_enter Try.func86, Try.ntmps86
        go_wp2
        go_ret2
        exact ⟨ret_s2 (by rw [F.out.2]; rfl) F.out.1.symm, Below.refl _ _⟩
      · exact absurd (sealE_ok (k := 2) (n := n) (by omega) hz) hE
theorem sealr_any (k n : Int) (t : ByteArray) (w : World) :
    Calls Try.prog 86 #[.int .i64 k, .int .i64 n, .string t] w fun e w' => e = .returned (.tuple #[.string (strOfNums (sealS k n t)), .int .i64 (sealE k n t.size)]) ∧ Below w.heap.size w w' := by
  by_cases hE : sealE k n t.size = 0
  · exact sealr_ok k n t w hE
  · exact sealr_no k n t w hE

end Go.Proofs.Ytjmgocfoimhmjaa
