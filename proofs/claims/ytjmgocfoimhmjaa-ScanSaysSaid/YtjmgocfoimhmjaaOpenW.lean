/- seal.Open and linenref.Unseal, walked. -/
import Derived.Test.YtjmgocfoimhmjaaOpenP
import Derived.Test.YtjmgocfoimhmjaaSealW
import Derived.Deep.QuietTactic
import Derived.BigQuiet
import Derived.Deep.RegionHeld3
import Derived.Deep.RegionWith
namespace Go.Proofs.Ytjmgocfoimhmjaa
open Go.RowKit Go.PlainAid

theorem ret_o4 {a b a' b' d d' : Int} {c c' : ByteArray} (h : a = a') (h2 : b = b') (h3 : c = c') (h4 : d = d') : Ending.returned (.tuple #[.int .i64 a, .int .i64 b, .string c, .int .i64 d]) = .returned (.tuple #[.int .i64 a', .int .i64 b', .string c', .int .i64 d']) := by rw [h, h2, h3, h4]
theorem results_tmp4 {fn : Func} {p q r u : Tmp} (h : fn.results = #[.tmp p, .tmp q, .tmp r, .tmp u]) (tmps : Array Value) (P : Program) (w : World) : (results fn tmps).run P w = .ok (.tuple #[tmps.getD p undef, tmps.getD q undef, tmps.getD r undef, tmps.getD u undef]) w := by
  simp only [results, h]
  simp
theorem keepc0d {w W : World} {N : Nat} (h : N ≤ W.heap.size ∧ Below w.heap.size w W) : N ≤ W.drew.heap.size ∧ Below w.heap.size w W.drew := ⟨h.1, h.2.drew⟩
theorem keepc0b {w W W' : World} {N : Nat} (h : N ≤ W.heap.size ∧ Below w.heap.size w W) (hb : Below W.heap.size W W') : N ≤ W'.heap.size ∧ Below w.heap.size w W' := ⟨Nat.le_trans h.1 hb.size, h.2.trans (hb.mono h.2.size)⟩
theorem openE_cond (s : ByteArray) (m : Nat) (hm : s.size = m + 4) (h1 : 11 ≤ s.size) (h2 : s.size ≤ 1011) : (openE s = 5 ∧ ((s.extract m s.size).toList == (strOfNums (tail4 (sumV (s.extract 0 m)))).toList) = false ∧ ((strOfNums (tail4 (sumV (s.extract 0 m)))).toList == (s.extract m s.size).toList) = false) ∨ (OSum s m ∧ ((s.extract m s.size).toList == (strOfNums (tail4 (sumV (s.extract 0 m)))).toList) = true ∧ ((strOfNums (tail4 (sumV (s.extract 0 m)))).toList == (s.extract m s.size).toList) = true) := by
  by_cases h : OSum s m
  · have h' : s.extract m s.size = strOfNums (tail4 (sumV (s.extract 0 m))) := by rw [hm]; exact h
    exact .inr ⟨h, str_eq h', str_eq (Eq.symm h')⟩
  · have h' : s.extract m s.size ≠ strOfNums (tail4 (sumV (s.extract 0 m))) := by rw [hm]; exact h
    exact .inl ⟨open_sum hm h1 h2 h, str_ne h', str_ne (fun e => h' e.symm)⟩

set_option maxRecDepth 20000 in
set_option maxHeartbeats 1000000 in
theorem open_out (s : ByteArray) (w : World) (h : s.size < 11 ∨ 1011 < s.size) :
    Calls Try.prog 51 #[.string s] w fun e w' => e = .returned (.tuple #[.int .i64 (openK s), .int .i64 (openN s), .string (openT s), .int .i64 (openE s)]) ∧ Below w.heap.size w w' := by
  rcases h with h | h
  · have F := Lib.hid (show openE s = _ ∧ openK s = 0 ∧ openN s = 0 ∧ openT s = ⟨#[]⟩ from ⟨open_short h, open_no (by rw [open_short h]; decide)⟩)
    go_enter Try.func51, Try.ntmps51
    go_wp2
    refine bodyPost_ret (results_tmp4 rfl _ _ _) rfl ?_
    exact ⟨ret_o4 F.out.2.1.symm F.out.2.2.1.symm F.out.2.2.2.symm F.out.1.symm, Below.refl _ _⟩
  · have F := Lib.hid (show openE s = _ ∧ openK s = 0 ∧ openN s = 0 ∧ openT s = ⟨#[]⟩ from ⟨open_large h, open_no (by rw [open_large h]; decide)⟩)
    have h2 : 11 ≤ s.size := by omega
    go_enter Try.func51, Try.ntmps51
    go_wp2
    refine bodyPost_ret (results_tmp4 rfl _ _ _) rfl ?_
    exact ⟨ret_o4 F.out.2.1.symm F.out.2.2.1.symm F.out.2.2.2.symm F.out.1.symm, Below.refl _ _⟩

set_option maxRecDepth 20000 in
set_option maxHeartbeats 1000000 in
theorem open_in (s : ByteArray) (w : World) (m : Nat) (hm : s.size = m + 4) (h1 : 11 ≤ s.size) (h2 : s.size ≤ 1011) :
    Calls Try.prog 51 #[.string s] w fun e w' => e = .returned (.tuple #[.int .i64 (openK s), .int .i64 (openN s), .string (openT s), .int .i64 (openE s)]) ∧ Below w.heap.size w w' := by
  have hgb := get_bt s
  have hN := unfix_oN s (by omega)
  have hL := unfix_oL s (by omega)
  have wN : wrap64 (oN s) = oN s := by have := oN_bd s; unfold wrap64; omega
  have wL : wrap64 (oL s) = oL s := by have := oL_bd s; unfold wrap64; omega
  have wK : wrap64 (bt s 0) = bt s 0 := by have := bt_nonneg s 0; have := bt_le s 0; unfold wrap64; omega
  have vN : IntKind.i64.wrap (oN s) = oN s := by have := oN_bd s; rw [IntKind.wrap_i64]; omega
  have vL : IntKind.i64.wrap (oL s) = oL s := by have := oL_bd s; rw [IntKind.wrap_i64]; omega
  have vK : IntKind.i64.wrap (bt s 0) = bt s 0 := by have := bt_nonneg s 0; have := bt_le s 0; rw [IntKind.wrap_i64]; omega
  have WM8 : Hid (IntKind.i64.wrap ((m : Int) - 7) = (m : Int) - 7) := by unfold Hid; rw [IntKind.wrap_i64]; omega
  have WM : Hid (wrap64 ((s.size : Int) - 4) = (m : Int)) := by unfold wrap64 Hid; omega
  have WM2 : Hid (IntKind.i64.wrap ((s.size : Int) - 4) = (m : Int)) := by unfold Hid; rw [IntKind.wrap_i64]; omega
  have mle : (m : Int) ≤ (s.size : Int) := by omega
  have mle2 : m ≤ s.size := by omega
  have WM7 : Hid (wrap64 ((m : Int) - 7) = (m : Int) - 7) := by unfold wrap64 Hid; omega
  have m7 : (7 : Int) ≤ (m : Int) := by omega
  have i1 : (11 : Int) ≤ (s.size : Int) := by omega
  have i2 : (s.size : Int) ≤ 1011 := by omega
  have i3 : (0 : Int) < (s.size : Int) := by omega
  have i4 : 0 < s.size := by omega
  have i5 : 7 ≤ m := by omega
  have hz : (s.extract 7 m).size = m - 7 := extract_size s 7 m (by omega)
  have hz0 : (s.extract 0 m).size = m := by rw [extract_size s 0 m (by omega)]; rfl
  have hsb := sumV_bd (s.extract 0 m)
  have e4 : sumV (s.extract 0 m) / 16777216 % 256 = sumV (s.extract 0 m) / 16777216 := by omega
  have CU : Hid (∀ (t : ByteArray) (W : World), Calls Try.prog 70 #[.string t] W fun e w' => e = .returned (.tuple #[.int .u64 (unfixV t), .int .i64 (unfixE t)]) ∧ W = w') := fun t W => unfix_any t W
  have CS : Hid (∀ W, Calls Try.prog 88 #[.string (s.extract 0 m)] W fun e w' => e = .returned (.int .u32 (sumV (s.extract 0 m))) ∧ Below W.heap.size W w') := fun W => sum_any _ W (by rw [hz0]; omega)
  have CF : Hid (∀ W, Calls Try.prog 89 #[.int .i64 (bt s 0), .int .i64 (oN s), .string (s.extract 7 m)] W fun e w' => e = .returned (.int .i64 (sealE (oK s) (oN s) (m - 7))) ∧ W = w') := fun W => by
    have := fit_any (bt s 0) (oN s) (s.extract 7 m) W
    rw [hz] at this; exact this
  have hstr := run_str4 (P := Try.prog) (src := 132) Try.underlying132 Try.underlying5 Try.underlying9 (sumV (s.extract 0 m) % 256) (sumV (s.extract 0 m) / 256 % 256) (sumV (s.extract 0 m) / 65536 % 256) (sumV (s.extract 0 m) / 16777216)
  have hcond := openE_cond s m hm h1 h2
  have HOpen := Lib.hid (fun (a : OSum s m) (b : OFit s m) => open_ok hm h1 h2 a b)
  have HForm := Lib.hid (fun (a : OSum s m) (b : ¬ OFit s m) => open_form hm h1 h2 a b)
  unfold tail4 at hcond
  rw [e4] at hcond
  clear e4 hz hz0
  have wm := WM.out
  have wm2 := WM2.out
  have wm8 := WM8.out
  have wm7 := WM7.out
  clear WM WM7 WM2 WM8 hm
  generalize sumV (s.extract 0 m) = c at *
  have q0 : IntKind.u8.wrap c = c % 256 := by rw [IntKind.wrap_u8]
  have q1 : IntKind.u8.wrap (c / 256) = c / 256 % 256 := by rw [IntKind.wrap_u8]
  have q2 : IntKind.u8.wrap (c / 65536) = c / 65536 % 256 := by rw [IntKind.wrap_u8]
  have q3 : IntKind.u8.wrap (c / 16777216) = c / 16777216 := by rw [IntKind.wrap_u8]; omega
  rcases hcond with ⟨hE, hc, _⟩ | ⟨hO, hc, _⟩
  · have F := Lib.hid (show openE s = _ ∧ openK s = 0 ∧ openN s = 0 ∧ openT s = ⟨#[]⟩ from ⟨hE, open_no (by rw [hE]; decide)⟩)
    clear HOpen HForm hE
    go_enter Try.func51, Try.ntmps51
    go_wp2_with (first
      | (go_at_call 88; refine (CS.out _).mono ?_; rintro e w1 ⟨rfl, hb1⟩))
    go_region_with (fail)
    all_goals
      clear hstr
      go_wp2
      refine bodyPost_ret (results_tmp4 rfl _ _ _) rfl ?_
      exact ⟨ret_o4 F.out.2.1.symm F.out.2.2.1.symm F.out.2.2.2.symm F.out.1.symm, (hb1.alloc hb1.size _).drew⟩
  · by_cases hlen : oL s = (m : Int) - 7
    · by_cases hse : sealE (oK s) (oN s) (m - 7) = 0
      · have F := Lib.hid (HOpen.out hO ⟨hlen, hse⟩)
        rw [hse] at CF
        have hb7 : (oL s != (m : Int) - 7) = false := by rw [hlen]; exact bne_self_eq_false _
        clear HOpen HForm hO hse hlen
        go_enter Try.func51, Try.ntmps51
        go_wp2_with (first
          | (go_at_call 88; refine (CS.out _).mono ?_; rintro e w1 ⟨rfl, hb1⟩))
        go_region_with (fail)
        have hfin : Below w.heap.size w ((w1.alloc (.cells #[.int .u8 (c % 256), .int .u8 (c / 256 % 256), .int .u8 (c / 65536 % 256), .int .u8 (c / 16777216)] 5)).drew) := (hb1.alloc hb1.size _).drew
        clear hb1 hstr q0 q1 q2 q3
        generalize ((w1.alloc (.cells #[.int .u8 (c % 256), .int .u8 (c / 256 % 256), .int .u8 (c / 65536 % 256), .int .u8 (c / 16777216)] 5)).drew) = w2 at hfin ⊢
        go_wp2_with (first
          | (go_at_call 70; refine (CU.out _ _).mono ?_; rintro e w' ⟨rfl, rfl⟩))
        clear CS CU hN hL
        go_quiet ((go_at_call 89; exact Calls.quiet_of_same ((CF.out _).mono fun _ _ h => ⟨h.1, h.2.symm⟩)))
        go_wp2
        go_quiet (fail)
        go_wp2
        refine bodyPost_ret (results_tmp4 rfl _ _ _) rfl ?_
        exact ⟨ret_o4 F.out.2.1.symm F.out.2.2.1.symm F.out.2.2.2.symm F.out.1.symm, below_drewN (below_drewN hfin _) _⟩
      · have hno : openE s = 4 := HForm.out hO (fun h => hse h.2)
        have F := Lib.hid (show openE s = _ ∧ openK s = 0 ∧ openN s = 0 ∧ openT s = ⟨#[]⟩ from ⟨hno, open_no (by rw [hno]; decide)⟩)
        have hne : (sealE (oK s) (oN s) (m - 7) != 0) = true := bne_iff_ne.2 hse
        have hb7 : (oL s != (m : Int) - 7) = false := by rw [hlen]; exact bne_self_eq_false _
        generalize sealE (oK s) (oN s) (m - 7) = ee at *
        clear HOpen HForm hO hse hlen hno
        go_enter Try.func51, Try.ntmps51
        go_wp2_with (first
          | (go_at_call 88; refine (CS.out _).mono ?_; rintro e w1 ⟨rfl, hb1⟩))
        go_region_with (fail)
        have hfin : Below w.heap.size w ((w1.alloc (.cells #[.int .u8 (c % 256), .int .u8 (c / 256 % 256), .int .u8 (c / 65536 % 256), .int .u8 (c / 16777216)] 5)).drew) := (hb1.alloc hb1.size _).drew
        clear hb1 hstr q0 q1 q2 q3
        generalize ((w1.alloc (.cells #[.int .u8 (c % 256), .int .u8 (c / 256 % 256), .int .u8 (c / 65536 % 256), .int .u8 (c / 16777216)] 5)).drew) = w2 at hfin ⊢
        go_wp2_with (first
          | (go_at_call 70; refine (CU.out _ _).mono ?_; rintro e w' ⟨rfl, rfl⟩))
        clear CS CU hN hL
        go_quiet ((go_at_call 89; exact Calls.quiet_of_same ((CF.out _).mono fun _ _ h => ⟨h.1, h.2.symm⟩)))
        go_wp2
        refine bodyPost_ret (results_tmp4 rfl _ _ _) rfl ?_
        exact ⟨ret_o4 F.out.2.1.symm F.out.2.2.1.symm F.out.2.2.2.symm F.out.1.symm, below_drewN hfin _⟩
    · have hno : openE s = 4 := HForm.out hO (fun h => hlen h.1)
      have F := Lib.hid (show openE s = _ ∧ openK s = 0 ∧ openN s = 0 ∧ openT s = ⟨#[]⟩ from ⟨hno, open_no (by rw [hno]; decide)⟩)
      have hb7 : (oL s != (m : Int) - 7) = true := bne_iff_ne.2 hlen
      clear HOpen HForm hO hlen hno CF
      go_enter Try.func51, Try.ntmps51
      go_wp2_with (first
        | (go_at_call 88; refine (CS.out _).mono ?_; rintro e w1 ⟨rfl, hb1⟩))
      go_region_with (fail)
      have hfin : Below w.heap.size w ((w1.alloc (.cells #[.int .u8 (c % 256), .int .u8 (c / 256 % 256), .int .u8 (c / 65536 % 256), .int .u8 (c / 16777216)] 5)).drew) := (hb1.alloc hb1.size _).drew
      clear hb1 hstr q0 q1 q2 q3
      generalize ((w1.alloc (.cells #[.int .u8 (c % 256), .int .u8 (c / 256 % 256), .int .u8 (c / 65536 % 256), .int .u8 (c / 16777216)] 5)).drew) = w2 at hfin ⊢
      go_wp2_with (first
        | (go_at_call 70; refine (CU.out _ _).mono ?_; rintro e w' ⟨rfl, rfl⟩))
      clear CS CU hN hL
      go_quiet (fail)
      go_wp2
      refine bodyPost_ret (results_tmp4 rfl _ _ _) rfl ?_
      exact ⟨ret_o4 F.out.2.1.symm F.out.2.2.1.symm F.out.2.2.2.symm F.out.1.symm, below_drewN hfin _⟩

set_option maxRecDepth 20000 in
set_option maxHeartbeats 1000000 in
theorem unseal_out (s : ByteArray) (w : World) (h : s.size < 11 ∨ 1011 < s.size) :
    Calls Try.prog 52 #[.string s] w fun e w' => e = .returned (.tuple #[.int .i64 (openK s), .int .i64 (openN s), .string (openT s), .int .i64 (openE s)]) ∧ Below w.heap.size w w' := by
  rcases h with h | h
  · have F := Lib.hid (show openE s = _ ∧ openK s = 0 ∧ openN s = 0 ∧ openT s = ⟨#[]⟩ from ⟨open_short h, open_no (by rw [open_short h]; decide)⟩)
    go_enter Try.func52, Try.ntmps52
    go_wp2
    refine bodyPost_ret (results_tmp4 rfl _ _ _) rfl ?_
    exact ⟨ret_o4 F.out.2.1.symm F.out.2.2.1.symm F.out.2.2.2.symm F.out.1.symm, Below.refl _ _⟩
  · have F := Lib.hid (show openE s = _ ∧ openK s = 0 ∧ openN s = 0 ∧ openT s = ⟨#[]⟩ from ⟨open_large h, open_no (by rw [open_large h]; decide)⟩)
    have h2 : 11 ≤ s.size := by omega
    go_enter Try.func52, Try.ntmps52
    go_wp2
    refine bodyPost_ret (results_tmp4 rfl _ _ _) rfl ?_
    exact ⟨ret_o4 F.out.2.1.symm F.out.2.2.1.symm F.out.2.2.2.symm F.out.1.symm, Below.refl _ _⟩

set_option maxRecDepth 20000 in
set_option maxHeartbeats 1000000 in
theorem unseal_in (s : ByteArray) (w : World) (m : Nat) (hm : s.size = m + 4) (h1 : 11 ≤ s.size) (h2 : s.size ≤ 1011) :
    Calls Try.prog 52 #[.string s] w fun e w' => e = .returned (.tuple #[.int .i64 (openK s), .int .i64 (openN s), .string (openT s), .int .i64 (openE s)]) ∧ Below w.heap.size w w' := by
  have hgb := get_bt s
  have hN := unfix_oN s (by omega)
  have hL := unfix_oL s (by omega)
  have wN : wrap64 (oN s) = oN s := by have := oN_bd s; unfold wrap64; omega
  have wL : wrap64 (oL s) = oL s := by have := oL_bd s; unfold wrap64; omega
  have wK : wrap64 (bt s 0) = bt s 0 := by have := bt_nonneg s 0; have := bt_le s 0; unfold wrap64; omega
  have vN : IntKind.i64.wrap (oN s) = oN s := by have := oN_bd s; rw [IntKind.wrap_i64]; omega
  have vL : IntKind.i64.wrap (oL s) = oL s := by have := oL_bd s; rw [IntKind.wrap_i64]; omega
  have vK : IntKind.i64.wrap (bt s 0) = bt s 0 := by have := bt_nonneg s 0; have := bt_le s 0; rw [IntKind.wrap_i64]; omega
  have WM8 : Hid (IntKind.i64.wrap ((m : Int) - 7) = (m : Int) - 7) := by unfold Hid; rw [IntKind.wrap_i64]; omega
  have WM : Hid (wrap64 ((s.size : Int) - 4) = (m : Int)) := by unfold wrap64 Hid; omega
  have WM2 : Hid (IntKind.i64.wrap ((s.size : Int) - 4) = (m : Int)) := by unfold Hid; rw [IntKind.wrap_i64]; omega
  have mle : (m : Int) ≤ (s.size : Int) := by omega
  have mle2 : m ≤ s.size := by omega
  have WM7 : Hid (wrap64 ((m : Int) - 7) = (m : Int) - 7) := by unfold wrap64 Hid; omega
  have m7 : (7 : Int) ≤ (m : Int) := by omega
  have i1 : (11 : Int) ≤ (s.size : Int) := by omega
  have i2 : (s.size : Int) ≤ 1011 := by omega
  have i3 : (0 : Int) < (s.size : Int) := by omega
  have i4 : 0 < s.size := by omega
  have i5 : 7 ≤ m := by omega
  have hz : (s.extract 7 m).size = m - 7 := extract_size s 7 m (by omega)
  have hz0 : (s.extract 0 m).size = m := by rw [extract_size s 0 m (by omega)]; rfl
  have hsb := sumV_bd (s.extract 0 m)
  have e4 : sumV (s.extract 0 m) / 16777216 % 256 = sumV (s.extract 0 m) / 16777216 := by omega
  have CU : Hid (∀ (t : ByteArray) (W : World), Calls Try.prog 73 #[.string t] W fun e w' => e = .returned (.tuple #[.int .u64 (unfixV t), .int .i64 (unfixE t)]) ∧ W = w') := fun t W => unfixr_any t W
  have CS : Hid (∀ W, Calls Try.prog 91 #[.int .u32 0, .string (s.extract 0 m)] W fun e w' => e = .returned (.int .u32 (sumV (s.extract 0 m))) ∧ W = w') := fun W => by
    have := sumr_any 0#32 (s.extract 0 m) W (by rw [hz0]; omega)
    rw [v32_zero] at this
    exact this
  have CE : Hid (∀ W, Calls Try.prog 86 #[.int .i64 (bt s 0), .int .i64 (oN s), .string (s.extract 7 m)] W fun e w' => e = .returned (.tuple #[.string (strOfNums (sealS (oK s) (oN s) (s.extract 7 m))), .int .i64 (sealE (oK s) (oN s) (m - 7))]) ∧ Below W.heap.size W w') := fun W => by
    have := sealr_any (bt s 0) (oN s) (s.extract 7 m) W
    rw [hz] at this; exact this
  have hcond := openE_cond s m hm h1 h2
  have HBack := Lib.hid (fun (a : OSum s m) (b : sealE (oK s) (oN s) (m - 7) = 0) => seal_back hm (by omega) (by omega) a b)
  have HOpen := Lib.hid (fun (a : OSum s m) (b : OFit s m) => open_ok hm h1 h2 a b)
  have HForm := Lib.hid (fun (a : OSum s m) (b : ¬ OFit s m) => open_form hm h1 h2 a b)
  clear e4 hz hz0
  have hsb2 := sumV_bd (s.extract 0 m)
  have wm := WM.out
  have wm2 := WM2.out
  have wm8 := WM8.out
  have wm7 := WM7.out
  clear WM WM7 WM2 WM8 hm
  generalize sumV (s.extract 0 m) = c at *
  have u4 : IntKind.u64.wrap c = c := by rw [IntKind.wrap_u64]; omega
  have C4 : Hid (∀ W, Calls Try.prog 87 #[.int .u64 c, .int .i64 4] W fun e w' => e = .returned (.string (strOfNums (fixL 4 c))) ∧ Below W.heap.size W w') := fun W => by
    have := fixr_any c 4 W (by omega) (by omega) (by omega) (by omega); rwa [fixW4'] at this
  have C5 : Hid (∀ W, Calls Try.prog 90 #[.string (strOfNums (fixL 4 c))] W fun e w' => e = .returned (.string (strOfNums (tail4 c))) ∧ W = w') := fun W => by
    have := back_any (fixL 4 c) W (by rw [fixL_length]; omega)
    rw [fix4_tail] at this; exact this
  generalize strOfNums (fixL 4 c) = L4 at *
  generalize strOfNums (tail4 c) = L5 at *
  rcases hcond with ⟨hE, _, hc⟩ | ⟨hO, _, hc⟩
  · have F := Lib.hid (show openE s = _ ∧ openK s = 0 ∧ openN s = 0 ∧ openT s = ⟨#[]⟩ from ⟨hE, open_no (by rw [hE]; decide)⟩)
    clear HOpen HForm hE HBack CE CU
    go_enter Try.func52, Try.ntmps52
    go_wp2
    have HS : w.heap.size ≤ w.heap.size ∧ Below w.heap.size w w := ⟨Nat.le_refl _, Below.refl _ _⟩
    go_region_held3 (fun W => w.heap.size ≤ W.heap.size ∧ Below w.heap.size w W) (first | assumption | exact keepc0d (by assumption) | exact keepc0b (by assumption) (by assumption))
      (first
      | (go_at_call 91; refine (CS.out _).mono ?_; rintro e w' ⟨rfl, rfl⟩)
      | (go_at_call 87; refine (C4.out _).mono ?_; rintro e w' ⟨rfl, hb⟩)
      | (go_at_call 90; refine (C5.out _).mono ?_; rintro e w' ⟨rfl, rfl⟩))
    rename_i hHeld
    have HS := hHeld
    clear hHeld
    clear CS C4 C5
    go_wp2
    refine bodyPost_ret (results_tmp4 rfl _ _ _) rfl ?_
    exact ⟨ret_o4 F.out.2.1.symm F.out.2.2.1.symm F.out.2.2.2.symm F.out.1.symm, HS.2⟩
  · by_cases hse : sealE (oK s) (oN s) (m - 7) = 0
    · have hiff := HBack.out hO hse
      rw [hse] at CE
      by_cases hlen : oL s = (m : Int) - 7
      · have F := Lib.hid (HOpen.out hO ⟨hlen, hse⟩)
        rw [hiff.2 hlen] at CE
        clear HOpen HForm hO hse hlen hiff HBack
        go_enter Try.func52, Try.ntmps52
        go_wp2
        have HS : w.heap.size ≤ w.heap.size ∧ Below w.heap.size w w := ⟨Nat.le_refl _, Below.refl _ _⟩
        go_region_held3 (fun W => w.heap.size ≤ W.heap.size ∧ Below w.heap.size w W) (first | assumption | exact keepc0d (by assumption) | exact keepc0b (by assumption) (by assumption))
          (first
          | (go_at_call 91; refine (CS.out _).mono ?_; rintro e w' ⟨rfl, rfl⟩)
          | (go_at_call 87; refine (C4.out _).mono ?_; rintro e w' ⟨rfl, hb⟩)
          | (go_at_call 90; refine (C5.out _).mono ?_; rintro e w' ⟨rfl, rfl⟩))
        rename_i hHeld
        have HS := hHeld
        clear hHeld
        go_wp2_with (first
          | (go_at_call 73; refine (CU.out _ _).mono ?_; rintro e w' ⟨rfl, rfl⟩))
        clear CS C4 C5 CU hN hL
        go_region_held3 (fun W => w.heap.size ≤ W.heap.size ∧ Below w.heap.size w W) (first | assumption | exact keepc0d (by assumption) | exact keepc0b (by assumption) (by assumption))
          (first
          | (go_at_call 86; refine (CE.out _).mono ?_; rintro e w' ⟨rfl, hb⟩))
        rename_i hHeld
        have hfin := hHeld.2
        clear hHeld CE
        go_wp2
        go_quiet (fail)
        go_wp2
        refine bodyPost_ret (results_tmp4 rfl _ _ _) rfl ?_
        exact ⟨ret_o4 F.out.2.1.symm F.out.2.2.1.symm F.out.2.2.2.symm F.out.1.symm, below_drewN hfin _⟩
      · have hno : openE s = 4 := HForm.out hO (fun h => hlen h.1)
        have F := Lib.hid (show openE s = _ ∧ openK s = 0 ∧ openN s = 0 ∧ openT s = ⟨#[]⟩ from ⟨hno, open_no (by rw [hno]; decide)⟩)
        have hne := str_ne (fun e => hlen (hiff.1 e))
        generalize strOfNums (sealS (oK s) (oN s) (s.extract 7 m)) = TT at *
        clear HOpen HForm hO hse hlen hiff HBack hno
        go_enter Try.func52, Try.ntmps52
        go_wp2
        have HS : w.heap.size ≤ w.heap.size ∧ Below w.heap.size w w := ⟨Nat.le_refl _, Below.refl _ _⟩
        go_region_held3 (fun W => w.heap.size ≤ W.heap.size ∧ Below w.heap.size w W) (first | assumption | exact keepc0d (by assumption) | exact keepc0b (by assumption) (by assumption))
          (first
          | (go_at_call 91; refine (CS.out _).mono ?_; rintro e w' ⟨rfl, rfl⟩)
          | (go_at_call 87; refine (C4.out _).mono ?_; rintro e w' ⟨rfl, hb⟩)
          | (go_at_call 90; refine (C5.out _).mono ?_; rintro e w' ⟨rfl, rfl⟩))
        rename_i hHeld
        have HS := hHeld
        clear hHeld
        go_wp2_with (first
          | (go_at_call 73; refine (CU.out _ _).mono ?_; rintro e w' ⟨rfl, rfl⟩))
        clear CS C4 C5 CU hN hL
        go_region_held3 (fun W => w.heap.size ≤ W.heap.size ∧ Below w.heap.size w W) (first | assumption | exact keepc0d (by assumption) | exact keepc0b (by assumption) (by assumption))
          (first
          | (go_at_call 86; refine (CE.out _).mono ?_; rintro e w' ⟨rfl, hb⟩))
        rename_i hHeld
        have hfin := hHeld.2
        clear hHeld CE
        go_wp2
        refine bodyPost_ret (results_tmp4 rfl _ _ _) rfl ?_
        exact ⟨ret_o4 F.out.2.1.symm F.out.2.2.1.symm F.out.2.2.2.symm F.out.1.symm, hfin⟩
    · have hno : openE s = 4 := HForm.out hO (fun h => hse h.2)
      have F := Lib.hid (show openE s = _ ∧ openK s = 0 ∧ openN s = 0 ∧ openT s = ⟨#[]⟩ from ⟨hno, open_no (by rw [hno]; decide)⟩)
      have hne : (sealE (oK s) (oN s) (m - 7) != 0) = true := bne_iff_ne.2 hse
      clear HOpen HForm hO hno HBack hse
      generalize sealE (oK s) (oN s) (m - 7) = ee at *
      generalize strOfNums (sealS (oK s) (oN s) (s.extract 7 m)) = TT at *
      go_enter Try.func52, Try.ntmps52
      go_wp2
      have HS : w.heap.size ≤ w.heap.size ∧ Below w.heap.size w w := ⟨Nat.le_refl _, Below.refl _ _⟩
      go_region_held3 (fun W => w.heap.size ≤ W.heap.size ∧ Below w.heap.size w W) (first | assumption | exact keepc0d (by assumption) | exact keepc0b (by assumption) (by assumption))
        (first
        | (go_at_call 91; refine (CS.out _).mono ?_; rintro e w' ⟨rfl, rfl⟩)
        | (go_at_call 87; refine (C4.out _).mono ?_; rintro e w' ⟨rfl, hb⟩)
        | (go_at_call 90; refine (C5.out _).mono ?_; rintro e w' ⟨rfl, rfl⟩))
      rename_i hHeld
      have HS := hHeld
      clear hHeld
      go_wp2_with (first
        | (go_at_call 73; refine (CU.out _ _).mono ?_; rintro e w' ⟨rfl, rfl⟩))
      clear CS C4 C5 CU hN hL
      go_region_held3 (fun W => w.heap.size ≤ W.heap.size ∧ Below w.heap.size w W) (first | assumption | exact keepc0d (by assumption) | exact keepc0b (by assumption) (by assumption))
        (first
        | (go_at_call 86; refine (CE.out _).mono ?_; rintro e w' ⟨rfl, hb⟩))
      rename_i hHeld
      have hfin := hHeld.2
      clear hHeld CE
      go_wp2
      refine bodyPost_ret (results_tmp4 rfl _ _ _) rfl ?_
      exact ⟨ret_o4 F.out.2.1.symm F.out.2.2.1.symm F.out.2.2.2.symm F.out.1.symm, hfin⟩

theorem open_any (s : ByteArray) (w : World) :
    Calls Try.prog 51 #[.string s] w fun e w' => e = .returned (.tuple #[.int .i64 (openK s), .int .i64 (openN s), .string (openT s), .int .i64 (openE s)]) ∧ Below w.heap.size w w' := by
  by_cases h : s.size < 11 ∨ 1011 < s.size
  · exact open_out s w h
  · exact open_in s w (s.size - 4) (by omega) (by omega) (by omega)
theorem unseal_any (s : ByteArray) (w : World) :
    Calls Try.prog 52 #[.string s] w fun e w' => e = .returned (.tuple #[.int .i64 (openK s), .int .i64 (openN s), .string (openT s), .int .i64 (openE s)]) ∧ Below w.heap.size w w' := by
  by_cases h : s.size < 11 ∨ 1011 < s.size
  · exact unseal_out s w h
  · exact unseal_in s w (s.size - 4) (by omega) (by omega) (by omega)

end Go.Proofs.Ytjmgocfoimhmjaa
