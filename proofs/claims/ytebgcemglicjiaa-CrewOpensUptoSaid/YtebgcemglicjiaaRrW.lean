/- runs.Read and linenref.RunsRead, walked. -/
import Derived.Test.YtebgcemglicjiaaPlJa
import Derived.Test.YtebgcemglicjiaaGetW
import Derived.Test.YtebgcemglicjiaaOwJa
import Derived.Deep.QuietTactic
import Derived.BigQuiet
namespace Go.Proofs.Ytebgcemglicjiaa
open Go.RowKit Go.PlainAid

theorem info_i64r : (Try.prog.info? 3).map (fun i => (i.zero, i.size, i.bytes)) = some (some (.int .i64 0), 1, 8) := by kernel_rfl
theorem flat_ints (xs : List Int) : xs.flatMap (fun z => [Value.int .i64 z]) = xs.map (Value.int .i64) := by
  induction xs with
  | nil => rfl
  | cons x r ih => simp [ih]
theorem Owns.ints {w : World} {base n c : Nat} {A : Option Addr} {xs : List Int} (h : Owns w base 1 (.slice A n c) n (xs.map (Value.int .i64))) : RowsIn w w.heap.size A n c (fun z => [.int .i64 z]) 1 xs := by
  rw [← flat_ints] at h
  exact h.rows (enc := fun z => [Value.int .i64 z]) (k := 1) (fun _ => rfl) Nat.one_pos
theorem rows_noints (w : World) (B : Nat) : RowsIn w B none 0 0 (fun z => [.int .i64 z]) 1 ([] : List Int) := ⟨rfl, Nat.le_refl _, Nat.zero_le _, fun i x h => by simp at h⟩
theorem and15 (b : Int) (h0 : 0 ≤ b) (h1 : b ≤ 255) : bits .and .u8 b 15 = b % 16 := by
  have key : ∀ a : Fin 256, bits .and .u8 (a.val : Int) 15 = (a.val : Int) % 16 := by decide +kernel
  obtain ⟨a, rfl⟩ := Int.eq_ofNat_of_zero_le h0
  exact key ⟨a, by omega⟩
theorem own_rep {xs : List Int} {j : Nat} {v : Int} : (xs ++ List.replicate j v).map (Value.int .i64) ++ (#[Value.int .i64 v] : Array Value).toList = (xs ++ List.replicate (j + 1) v).map (Value.int .i64) := by
  rw [List.replicate_succ']; simp

structure RrI (s : ByteArray) (k n m p q : Nat) (la : Int) : Prop where
  p1 : p ≤ k + m
  p2 : k + m ≤ p
  ps : p ≤ s.size
  qn : q ≤ n
  mq : m ≤ q
  qm : 0 < q → 0 < m
  len : q = (rrL s k m).length
  last : 0 < m → la = bt s (p - 1)
  la0 : 0 ≤ la
  la1 : la ≤ 255
  rest : rr s k n (s.size - k) 0 = rr s k n (s.size - p) m
theorem RrI.next {s : ByteArray} {k n m p q M : Nat} {la : Int} (h : RrI s k n m p q la) (hp : p < s.size) (hM : bt s p % 16 + 1 = M) (hq : q + M ≤ n) (hq2 : q < n) (hbad : ¬ RrBad s k m) :
    RrI s k n (m + 1) (p + 1) (q + M) (bt s p) ∧ rrL s k (m + 1) = rrL s k m ++ List.replicate M (bt s p / 16) := by
  have hpk : p = k + m := by have := h.p1; have := h.p2; omega
  have HE : rrL s k (m + 1) = rrL s k m ++ List.replicate M (bt s p / 16) := by rw [rrL, ← hpk, hM]; rfl
  have HL : (rrL s k (m + 1)).length = q + M := by rw [HE, List.length_append, List.length_replicate, ← h.len]
  have h0 := bt_nonneg s p
  have h1 := bt_le s p
  refine ⟨⟨by omega, by omega, by omega, hq, by have := h.mq; omega, fun _ => by omega, HL.symm, fun _ => by simp, h0, h1, ?_⟩, HE⟩
  rw [h.rest, show s.size - p = (s.size - (p + 1)) + 1 by omega, rr_go (by rw [← h.len]; omega) (by rw [HL]; rintro (hb | hb); exact hbad hb; omega)]
theorem RrI.form {s : ByteArray} {k n m p q M : Nat} {la : Int} (h : RrI s k n m p q la) (hp : p < s.size) (hM : bt s p % 16 + 1 = M) (hq2 : q < n) (hb : RrBad s k m ∨ n < q + M) : rr s k n (s.size - k) 0 = (4, m) := by
  have hpk : p = k + m := by have := h.p1; have := h.p2; omega
  have HL : (rrL s k (m + 1)).length = q + M := by rw [rrL, ← hpk, hM, List.length_append, List.length_replicate, ← h.len]; rfl
  rw [h.rest, show s.size - p = (s.size - (p + 1)) + 1 by omega, rr_form (by rw [← h.len]; omega) (by rw [HL]; exact hb)]
theorem RrI.short {s : ByteArray} {k n m p q : Nat} {la : Int} (h : RrI s k n m p q la) (hp : p = s.size) (hq2 : q < n) : rr s k n (s.size - k) 0 = (3, m) := by
  rw [h.rest, show s.size - p = 0 by omega, rr_short (by rw [← h.len]; omega)]
theorem RrI.done {s : ByteArray} {k n m p q : Nat} {la : Int} (h : RrI s k n m p q la) (hq2 : q = n) : rr s k n (s.size - k) 0 = (0, m) := by
  rw [h.rest, rr_done (by rw [← h.len, hq2])]
theorem RrI.bad {s : ByteArray} {k n m p q : Nat} {la : Int} (h : RrI s k n m p q la) : RrBad s k m ↔ 0 < m ∧ bt s p / 16 = la / 16 ∧ la % 16 < 15 := by
  have hpk : p = k + m := by have := h.p1; have := h.p2; omega
  unfold RrBad
  rw [← hpk]
  constructor
  · rintro ⟨a, b, c⟩; rw [h.last a]; exact ⟨a, b, c⟩
  · rintro ⟨a, b, c⟩; rw [h.last a] at b c; exact ⟨a, b, c⟩
theorem RrI.cases {s : ByteArray} {k n m p q : Nat} {la : Int} (h : RrI s k n m p q la) (hbad : ¬ RrBad s k m) : q = 0 ∨ (0 < q ∧ (bt s p / 16 == la / 16) = false) ∨ (0 < q ∧ (bt s p / 16 == la / 16) = true ∧ (la % 16 != 15) = false) := by
  by_cases h0 : 0 < q
  · by_cases h1 : bt s p / 16 = la / 16
    · right; right
      refine ⟨h0, beq_iff_eq.2 h1, ?_⟩
      have : ¬ la % 16 < 15 := fun hh => hbad (h.bad.2 ⟨h.qm h0, h1, hh⟩)
      rw [bne_eq_false_iff_eq]; have := h.la0; omega
    · right; left
      exact ⟨h0, beq_eq_false_iff_ne.2 h1⟩
  · left; omega





set_option maxRecDepth 20000 in
set_option maxHeartbeats 400000 in
theorem rread_err (s : ByteArray) (w : World) (hs63 : s.size ≤ 9223372036854775807) (h : getE (bt s) s.size ≠ 0) :
    Calls Try.prog 71 #[.string s] w fun e w' => ∃ A q c, e = .returned (.tuple #[.slice A q c, .int .i64 (rrAt s), .int .i64 (rrE s)]) ∧ RowsIn w' w'.heap.size A q c (fun z => [.int .i64 z]) 1 (rrX s) ∧ Below w.heap.size w w' := by
  have H := Lib.hid (get_any s w)
  have F := Lib.hid (rr_get h)
  have hne : (getE (bt s) s.size != 0) = true := bne_iff_ne.2 h
  generalize getE (bt s) s.size = ee at *
  generalize getV (bt s) s.size = vv at *
  generalize getN (bt s) s.size = nn at *
  clear h hs63
  go_enter Try.func71, Try.ntmps71
  go_wp2_with (go_at_call 47; refine H.out.mono ?_; rintro e w' ⟨rfl, rfl⟩)
  go_ret3
  exact ⟨none, 0, 0, by rw [F.out.1, F.out.2.1]; rfl, by rw [F.out.2.2]; exact rows_noints _ _, Below.refl _ _⟩

set_option maxRecDepth 20000 in
set_option maxHeartbeats 400000 in
theorem rread_big (s : ByteArray) (w : World) (hs63 : s.size ≤ 9223372036854775807) (h : getE (bt s) s.size = 0) (h2 : 320 < getV (bt s) s.size) :
    Calls Try.prog 71 #[.string s] w fun e w' => ∃ A q c, e = .returned (.tuple #[.slice A q c, .int .i64 (rrAt s), .int .i64 (rrE s)]) ∧ RowsIn w' w'.heap.size A q c (fun z => [.int .i64 z]) 1 (rrX s) ∧ Below w.heap.size w w' := by
  have H := Lib.hid (get_any s w)
  have F := Lib.hid (rr_large h h2)
  rw [h] at H
  generalize getE (bt s) s.size = ee at *
  generalize getV (bt s) s.size = vv at *
  generalize getN (bt s) s.size = nn at *
  clear h hs63
  go_enter Try.func71, Try.ntmps71
  go_wp2_with (go_at_call 47; refine H.out.mono ?_; rintro e w' ⟨rfl, rfl⟩)
  go_ret3
  exact ⟨none, 0, 0, by rw [F.out.1, F.out.2.1]; rfl, by rw [F.out.2.2]; exact rows_noints _ _, Below.refl _ _⟩

set_option maxRecDepth 20000 in
set_option maxHeartbeats 1000000 in
theorem rread_run (s : ByteArray) (w : World) (hs63 : s.size ≤ 9223372036854775807) (h : getE (bt s) s.size = 0) (k n : Nat) (hk : getN (bt s) s.size = k) (hn : getV (bt s) s.size = n) (hks : k ≤ s.size) (hn2 : n ≤ 320) :
    Calls Try.prog 71 #[.string s] w fun e w' => ∃ A q c, e = .returned (.tuple #[.slice A q c, .int .i64 (rrAt s), .int .i64 (rrE s)]) ∧ RowsIn w' w'.heap.size A q c (fun z => [.int .i64 z]) 1 (rrX s) ∧ Below w.heap.size w w' := by
  have H := Lib.hid (get_any s w)
  rw [h, hk, hn] at H
  have h2 : ¬ 320 < getV (bt s) s.size := by rw [hn]; omega
  have hRR : rrR s = rr s k n (s.size - k) 0 := by unfold rrR; rw [hk, hn]; simp
  have HOk := Lib.hid (fun (m : Nat) (e : rr s k n (s.size - k) 0 = (0, m)) => rr_ok h h2 (hRR.trans e))
  have HEr := Lib.hid (fun (e : Int) (m : Nat) (he : e ≠ 0) (e1 : rr s k n (s.size - k) 0 = (e, m)) => rr_err h h2 he (hRR.trans e1))
  simp only [hk, Int.toNat_natCast] at HOk
  have hgb := get_bt s
  clear h h2 hRR
  generalize getV (bt s) s.size = vv at *
  generalize getN (bt s) s.size = nn at *
  clear hk hn
  go_enter Try.func71, Try.ntmps71
  go_wp2_with (go_at_call 47; refine H.out.mono ?_; rintro e w' ⟨rfl, rfl⟩)
  clear H
  go_loopw [6, 8, 9] (fun v6 v8 v9 wr => ∃ (m p q : Nat) (la : Int), RrI s k n m p q la ∧ v6 = .int .i64 p ∧ v9 = .int .u8 la ∧ Owns wr w.heap.size 1 v8 q ((rrL s k m).map (Value.int .i64)) ∧ Below w.heap.size w wr) (fun v6 _ _ _ => s.size - (intOf v6).toNat)
  case atStart => exact ⟨0, k, 0, 255, ⟨by omega, by omega, hks, by omega, by omega, fun h => by omega, rfl, fun h => by omega, by omega, by omega, rfl⟩, rfl, rfl, Owns.nil _ _ _, Below.refl _ _⟩
  case round =>
    obtain ⟨m, p, q, la, hI, rfl, rfl, hown, hb⟩ := hrel
    obtain ⟨AO, cO, rfl⟩ := hown.form
    have hsz := hb.size
    have hps := hI.ps
    have hqn := hI.qn
    have HI := Lib.hid hI
    clear hI
    by_cases hqlt : q < n
    · have hql : (q : Int) < (n : Int) := by omega
      by_cases hpe : p = s.size
      · have hpe2 : ((p : Int) == (s.size : Int)) = true := by rw [beq_iff_eq]; omega
        have F := Lib.hid (HEr.out 3 m (by omega) (HI.out.short hpe hqlt))
        clear hpe
        go_wp2
        go_ret3
        exact ⟨none, 0, 0, by rw [F.out.1, F.out.2.1]; rfl, by rw [F.out.2.2]; exact rows_noints _ _, hb⟩
      · have hpe2 : ((p : Int) == (s.size : Int)) = false := by rw [beq_eq_false_iff_ne]; omega
        have hpl : p < s.size := by omega
        have hpl2 : (p : Int) < (s.size : Int) := by omega
        have hb0 := bt_nonneg s p
        have hb1 := bt_le s p
        obtain ⟨M, hM⟩ := Int.eq_ofNat_of_zero_le (show 0 ≤ bt s p % 16 + 1 by omega)
        have hM1 : 1 ≤ M ∧ M ≤ 16 := by omega
        have a1 := and15 (bt s p) hb0 hb1
        have a2 := and15 la HI.out.la0 HI.out.la1
        have i1 : (p : Int) + 1 ≤ (s.size : Int) := by omega
        have c1 : wrap64 (bt s p % 16) = bt s p % 16 := by unfold wrap64; omega
        have c2 : wrap64 (bt s p % 16 + 1) = bt s p % 16 + 1 := by unfold wrap64; omega
        have c5 : wrap64 (bt s p / 16) = bt s p / 16 := by unfold wrap64; omega
        have C3 : Hid (IntKind.i64.wrap ((q : Int) + (bt s p % 16 + 1)) = (q : Int) + (bt s p % 16 + 1)) := by unfold Hid; rw [IntKind.wrap_i64]; omega
        have hM' := Lib.hid hM
        clear hM
        by_cases hover : n < q + M
        · have F := Lib.hid (HEr.out 4 m (by omega) (HI.out.form hpl hM'.out hqlt (.inr hover)))
          have c4 : (n : Int) < (q : Int) + (bt s p % 16 + 1) := by rw [hM'.out]; omega
          have c3 := C3.out
          clear C3
          go_wp2
          go_ret3
          exact ⟨none, 0, 0, by rw [F.out.1, F.out.2.1]; rfl, by rw [F.out.2.2]; exact rows_noints _ _, hb⟩
        · have c4 : (q : Int) + (bt s p % 16 + 1) ≤ (n : Int) := by rw [hM'.out]; omega
          by_cases hbad : RrBad s k m
          · have F := Lib.hid (HEr.out 4 m (by omega) (HI.out.form hpl hM'.out hqlt (.inl hbad)))
            obtain ⟨b1, b2, b3⟩ := HI.out.bad.1 hbad
            have hmq := HI.out.mq
            have b0 : (0 : Int) < (q : Int) := by omega
            have b2' : (bt s p / 16 == la / 16) = true := beq_iff_eq.2 b2
            have b4 : (la % 16 != 15) = true := by rw [bne_iff_ne]; omega
            have c3 := C3.out
            clear C3 hbad b2
            go_wp2
            go_ret3
            exact ⟨none, 0, 0, by rw [F.out.1, F.out.2.1]; rfl, by rw [F.out.2.2]; exact rows_noints _ _, hb⟩
          · have HN0 := HI.out.next hpl hM'.out (by omega) hqlt hbad
            have HN := Lib.hid HN0.1
            have HX := Lib.hid HN0.2
            have HC := Lib.hid (HI.out.cases hbad)
            clear HN0 hbad
            rcases HC.out with hq0 | ⟨hq0, h1⟩ | ⟨hq0, h1, h2⟩
            · have hq1 : (q : Int) ≤ 0 := by omega
              have hq2 : ¬ (0 : Int) < (q : Int) := by omega
              have c3 := C3.out
              clear C3 hq0
              go_wp2
              go_loopw [8, 66] (fun v8 v66 wi => ∃ j : Nat, j ≤ M ∧ v66 = .int .i64 j ∧ Owns wi w.heap.size 1 v8 (q + j) ((rrL s k m ++ List.replicate j (bt s p / 16)).map (Value.int .i64)) ∧ Below w.heap.size w wi) (fun _ v66 _ => M - (intOf v66).toNat)
              case atStart => exact ⟨0, Nat.zero_le _, rfl, by simpa using hown, hb⟩
              case round =>
                obtain ⟨j, hj, rfl, howni, hbi⟩ := hrel
                obtain ⟨AI, cI, rfl⟩ := howni.form
                have hszi := hbi.size
                by_cases hjl : j < M
                · have hjl2 : (j : Int) < bt s p % 16 + 1 := by rw [hM'.out]; omega
                  go_wp2_with (at_builtin; refine wpList_add1 rfl rfl Try.underlying63 info_i64r rfl (Nat.le_refl 1) howni rfl hszi rfl rfl rfl ?_ ?_ ?_ ?_; simp [Value.oneCell']; (unfold maxLen; omega); omega; intro A3 c3 w3 hown3 hleft3 hbk3)
                  go_roundw
                  case rel => exact ⟨j + 1, by omega, by go_num, by rw [own_rep] at hown3; exact hown3, hleft3.below (Nat.le_refl _) hbi⟩
                  case measure => simp [intOf]; omega
                · have hjl2 : bt s p % 16 + 1 ≤ (j : Int) := by rw [hM'.out]; omega
                  have hjl3 : ¬ (j : Int) < bt s p % 16 + 1 := by omega
                  obtain rfl : j = M := by omega
                  rw [← HX.out] at howni
                  go_wp2
                  go_roundw
                  case rel => exact ⟨m + 1, p + 1, q + j, bt s p, HN.out, by go_num, rfl, howni, hbi⟩
                  case measure => simp [intOf]; omega
            · have hq1 : (0 : Int) < (q : Int) := by omega
              have c3 := C3.out
              clear C3
              go_wp2
              go_loopw [8, 66] (fun v8 v66 wi => ∃ j : Nat, j ≤ M ∧ v66 = .int .i64 j ∧ Owns wi w.heap.size 1 v8 (q + j) ((rrL s k m ++ List.replicate j (bt s p / 16)).map (Value.int .i64)) ∧ Below w.heap.size w wi) (fun _ v66 _ => M - (intOf v66).toNat)
              case atStart => exact ⟨0, Nat.zero_le _, rfl, by simpa using hown, hb⟩
              case round =>
                obtain ⟨j, hj, rfl, howni, hbi⟩ := hrel
                obtain ⟨AI, cI, rfl⟩ := howni.form
                have hszi := hbi.size
                by_cases hjl : j < M
                · have hjl2 : (j : Int) < bt s p % 16 + 1 := by rw [hM'.out]; omega
                  go_wp2_with (at_builtin; refine wpList_add1 rfl rfl Try.underlying63 info_i64r rfl (Nat.le_refl 1) howni rfl hszi rfl rfl rfl ?_ ?_ ?_ ?_; simp [Value.oneCell']; (unfold maxLen; omega); omega; intro A3 c3 w3 hown3 hleft3 hbk3)
                  go_roundw
                  case rel => exact ⟨j + 1, by omega, by go_num, by rw [own_rep] at hown3; exact hown3, hleft3.below (Nat.le_refl _) hbi⟩
                  case measure => simp [intOf]; omega
                · have hjl2 : bt s p % 16 + 1 ≤ (j : Int) := by rw [hM'.out]; omega
                  have hjl3 : ¬ (j : Int) < bt s p % 16 + 1 := by omega
                  obtain rfl : j = M := by omega
                  rw [← HX.out] at howni
                  go_wp2
                  go_roundw
                  case rel => exact ⟨m + 1, p + 1, q + j, bt s p, HN.out, by go_num, rfl, howni, hbi⟩
                  case measure => simp [intOf]; omega
            · have hq1 : (0 : Int) < (q : Int) := by omega
              have c3 := C3.out
              clear C3
              go_wp2
              go_loopw [8, 66] (fun v8 v66 wi => ∃ j : Nat, j ≤ M ∧ v66 = .int .i64 j ∧ Owns wi w.heap.size 1 v8 (q + j) ((rrL s k m ++ List.replicate j (bt s p / 16)).map (Value.int .i64)) ∧ Below w.heap.size w wi) (fun _ v66 _ => M - (intOf v66).toNat)
              case atStart => exact ⟨0, Nat.zero_le _, rfl, by simpa using hown, hb⟩
              case round =>
                obtain ⟨j, hj, rfl, howni, hbi⟩ := hrel
                obtain ⟨AI, cI, rfl⟩ := howni.form
                have hszi := hbi.size
                by_cases hjl : j < M
                · have hjl2 : (j : Int) < bt s p % 16 + 1 := by rw [hM'.out]; omega
                  go_wp2_with (at_builtin; refine wpList_add1 rfl rfl Try.underlying63 info_i64r rfl (Nat.le_refl 1) howni rfl hszi rfl rfl rfl ?_ ?_ ?_ ?_; simp [Value.oneCell']; (unfold maxLen; omega); omega; intro A3 c3 w3 hown3 hleft3 hbk3)
                  go_roundw
                  case rel => exact ⟨j + 1, by omega, by go_num, by rw [own_rep] at hown3; exact hown3, hleft3.below (Nat.le_refl _) hbi⟩
                  case measure => simp [intOf]; omega
                · have hjl2 : bt s p % 16 + 1 ≤ (j : Int) := by rw [hM'.out]; omega
                  have hjl3 : ¬ (j : Int) < bt s p % 16 + 1 := by omega
                  obtain rfl : j = M := by omega
                  rw [← HX.out] at howni
                  go_wp2
                  go_roundw
                  case rel => exact ⟨m + 1, p + 1, q + j, bt s p, HN.out, by go_num, rfl, howni, hbi⟩
                  case measure => simp [intOf]; omega
    · have hqe : q = n := by omega
      have F := Lib.hid (HOk.out m (HI.out.done hqe))
      have hge : (n : Int) ≤ (q : Int) := by omega
      have hge2 : ¬ (q : Int) < (n : Int) := by omega
      clear hqe
      have hpv : Hid ((p : Int) = (k : Int) + (m : Int)) := by have := HI.out.p1; have := HI.out.p2; simp only [Hid]; omega
      go_wp2
      go_ret3
      exact ⟨AO, q, cO, by rw [F.out.1, F.out.2.1, ← hpv.out]; rfl, by rw [F.out.2.2]; exact hown.ints, hb⟩

theorem rread_any (s : ByteArray) (w : World) (hs63 : s.size ≤ 9223372036854775807) :
    Calls Try.prog 71 #[.string s] w fun e w' => ∃ A q c, e = .returned (.tuple #[.slice A q c, .int .i64 (rrAt s), .int .i64 (rrE s)]) ∧ RowsIn w' w'.heap.size A q c (fun z => [.int .i64 z]) 1 (rrX s) ∧ Below w.heap.size w w' := by
  by_cases h : getE (bt s) s.size = 0
  · by_cases h2 : 320 < getV (bt s) s.size
    · exact rread_big s w hs63 h h2
    · have hg := get_end h
      obtain ⟨k, hk⟩ := Int.eq_ofNat_of_zero_le (show 0 ≤ getN (bt s) s.size by omega)
      have hv : 0 ≤ getV (bt s) s.size := by unfold getV; rw [if_pos h]; exact (vsum_bd _ _).1
      obtain ⟨n, hn⟩ := Int.eq_ofNat_of_zero_le hv
      exact rread_run s w hs63 h k n hk hn (by omega) (by omega)
  · exact rread_err s w hs63 h

set_option maxRecDepth 20000 in
set_option maxHeartbeats 400000 in
theorem rreadr_err (s : ByteArray) (w : World) (hs63 : s.size ≤ 9223372036854775807) (h : getE (bt s) s.size ≠ 0) :
    Calls Try.prog 21 #[.string s] w fun e w' => ∃ A q c, e = .returned (.tuple #[.slice A q c, .int .i64 (rrAt s), .int .i64 (rrE s)]) ∧ RowsIn w' w'.heap.size A q c (fun z => [.int .i64 z]) 1 (rrX s) ∧ Below w.heap.size w w' := by
  have H := Lib.hid (getr_any s w hs63)
  have F := Lib.hid (rr_get h)
  have hne : (getE (bt s) s.size != 0) = true := bne_iff_ne.2 h
  generalize getE (bt s) s.size = ee at *
  generalize getV (bt s) s.size = vv at *
  generalize getN (bt s) s.size = nn at *
  clear h hs63
  go_enter Try.func21, Try.ntmps21
  go_wp2_with (go_at_call 10; refine H.out.mono ?_; rintro e w' ⟨rfl, rfl⟩)
  go_ret3
  exact ⟨none, 0, 0, by rw [F.out.1, F.out.2.1]; rfl, by rw [F.out.2.2]; exact rows_noints _ _, Below.refl _ _⟩

set_option maxRecDepth 20000 in
set_option maxHeartbeats 400000 in
theorem rreadr_big (s : ByteArray) (w : World) (hs63 : s.size ≤ 9223372036854775807) (h : getE (bt s) s.size = 0) (h2 : 320 < getV (bt s) s.size) :
    Calls Try.prog 21 #[.string s] w fun e w' => ∃ A q c, e = .returned (.tuple #[.slice A q c, .int .i64 (rrAt s), .int .i64 (rrE s)]) ∧ RowsIn w' w'.heap.size A q c (fun z => [.int .i64 z]) 1 (rrX s) ∧ Below w.heap.size w w' := by
  have H := Lib.hid (getr_any s w hs63)
  have F := Lib.hid (rr_large h h2)
  rw [h] at H
  generalize getE (bt s) s.size = ee at *
  generalize getV (bt s) s.size = vv at *
  generalize getN (bt s) s.size = nn at *
  clear h hs63
  go_enter Try.func21, Try.ntmps21
  go_wp2_with (go_at_call 10; refine H.out.mono ?_; rintro e w' ⟨rfl, rfl⟩)
  go_ret3
  exact ⟨none, 0, 0, by rw [F.out.1, F.out.2.1]; rfl, by rw [F.out.2.2]; exact rows_noints _ _, Below.refl _ _⟩

set_option maxRecDepth 20000 in
set_option maxHeartbeats 1000000 in
theorem rreadr_run (s : ByteArray) (w : World) (hs63 : s.size ≤ 9223372036854775807) (h : getE (bt s) s.size = 0) (k n : Nat) (hk : getN (bt s) s.size = k) (hn : getV (bt s) s.size = n) (hks : k ≤ s.size) (hn2 : n ≤ 320) :
    Calls Try.prog 21 #[.string s] w fun e w' => ∃ A q c, e = .returned (.tuple #[.slice A q c, .int .i64 (rrAt s), .int .i64 (rrE s)]) ∧ RowsIn w' w'.heap.size A q c (fun z => [.int .i64 z]) 1 (rrX s) ∧ Below w.heap.size w w' := by
  have H := Lib.hid (getr_any s w hs63)
  rw [h, hk, hn] at H
  have h2 : ¬ 320 < getV (bt s) s.size := by rw [hn]; omega
  have hRR : rrR s = rr s k n (s.size - k) 0 := by unfold rrR; rw [hk, hn]; simp
  have HOk := Lib.hid (fun (m : Nat) (e : rr s k n (s.size - k) 0 = (0, m)) => rr_ok h h2 (hRR.trans e))
  have HEr := Lib.hid (fun (e : Int) (m : Nat) (he : e ≠ 0) (e1 : rr s k n (s.size - k) 0 = (e, m)) => rr_err h h2 he (hRR.trans e1))
  simp only [hk, Int.toNat_natCast] at HOk
  have hgb := get_bt s
  clear h h2 hRR
  generalize getV (bt s) s.size = vv at *
  generalize getN (bt s) s.size = nn at *
  clear hk hn
  go_enter Try.func21, Try.ntmps21
  go_wp2_with (go_at_call 10; refine H.out.mono ?_; rintro e w' ⟨rfl, rfl⟩)
  clear H
  go_loopw [8, 9] (fun v8 v9 wr => ∃ (m p q : Nat) (la : Int), RrI s k n m p q la ∧ v9 = .int .i64 p ∧ Owns wr w.heap.size 1 v8 q ((rrL s k m).map (Value.int .i64)) ∧ Below w.heap.size w wr) (fun _ v9 _ => s.size - (intOf v9).toNat)
  case atStart => exact ⟨0, k, 0, 255, ⟨by omega, by omega, hks, by omega, by omega, fun h => by omega, rfl, fun h => by omega, by omega, by omega, rfl⟩, rfl, Owns.nil _ _ _, Below.refl _ _⟩
  case round =>
    obtain ⟨m, p, q, la, hI, rfl, hown, hb⟩ := hrel
    obtain ⟨AO, cO, rfl⟩ := hown.form
    have hsz := hb.size
    have hps := hI.ps
    have hqn := hI.qn
    have HI := Lib.hid hI
    clear hI
    by_cases hqlt : q < n
    · have hqe1 : ((q : Int) == (n : Int)) = false := by rw [beq_eq_false_iff_ne]; omega
      by_cases hpe : p = s.size
      · have hpe2 : ((p : Int) == (s.size : Int)) = true := by rw [beq_iff_eq]; omega
        have F := Lib.hid (HEr.out 3 m (by omega) (HI.out.short hpe hqlt))
        clear hpe
        go_wp2
        go_ret3
        exact ⟨none, 0, 0, by rw [F.out.1, F.out.2.1]; rfl, by rw [F.out.2.2]; exact rows_noints _ _, hb⟩
      · have hpe2 : ((p : Int) == (s.size : Int)) = false := by rw [beq_eq_false_iff_ne]; omega
        have hpl : p < s.size := by omega
        have hpl2 : (p : Int) < (s.size : Int) := by omega
        have hb0 := bt_nonneg s p
        have hb1 := bt_le s p
        obtain ⟨M, hM⟩ := Int.eq_ofNat_of_zero_le (show 0 ≤ bt s p % 16 + 1 by omega)
        have hM1 : 1 ≤ M ∧ M ≤ 16 := by omega
        have a1 := and15 (bt s p) hb0 hb1
        have a2 := and15 la HI.out.la0 HI.out.la1
        have i1 : (p : Int) + 1 ≤ (s.size : Int) := by omega
        have c1 : wrap64 (bt s p % 16) = bt s p % 16 := by unfold wrap64; omega
        have c2 : wrap64 (bt s p % 16 + 1) = bt s p % 16 + 1 := by unfold wrap64; omega
        have c5 : wrap64 (bt s p / 16) = bt s p / 16 := by unfold wrap64; omega
        have C3 : Hid (IntKind.i64.wrap ((q : Int) + (bt s p % 16 + 1)) = (q : Int) + (bt s p % 16 + 1)) := by unfold Hid; rw [IntKind.wrap_i64]; omega
        have hM' := Lib.hid hM
        clear hM
        clear a1 a2 C3
        by_cases hm0 : 0 < m
        · have hkp : (k : Int) < (p : Int) := by have := HI.out.p2; omega
          have hla := HI.out.last hm0
          have j1 : (0 : Int) ≤ (p : Int) - 1 := by have := HI.out.p2; omega
          have j2 : ((p : Int) - 1).toNat = p - 1 := by omega
          have j3 : IntKind.i64.wrap ((p : Int) - 1) = (p : Int) - 1 := by rw [IntKind.wrap_i64]; omega
          have j4 : (p : Int) - 1 < (s.size : Int) := by omega
          have j5 : p - 1 < s.size := by omega
          have bq0 := bt_nonneg s (p - 1)
          have bq1 := bt_le s (p - 1)
          have d1 : (bt s p).tdiv 16 = bt s p / 16 := Int.tdiv_eq_ediv_of_nonneg hb0
          have d2 : IntKind.u8.wrap (bt s p / 16) = bt s p / 16 := by rw [IntKind.wrap_u8]; omega
          have d3 : (bt s (p - 1)).tdiv 16 = bt s (p - 1) / 16 := Int.tdiv_eq_ediv_of_nonneg bq0
          have d4 : IntKind.u8.wrap (bt s (p - 1) / 16) = bt s (p - 1) / 16 := by rw [IntKind.wrap_u8]; omega
          have d5 : (bt s (p - 1)).tmod 16 = bt s (p - 1) % 16 := Int.tmod_eq_emod_of_nonneg bq0
          have d6 : IntKind.u8.wrap (bt s (p - 1) % 16) = bt s (p - 1) % 16 := by rw [IntKind.wrap_u8]; omega
          have k1 : (1 : Int) ≤ (p : Int) := by omega
          have k2 : 1 ≤ p := by omega
          have k3 : 0 < p := by omega
          have k4 : k < p := by omega
          have HL := Lib.hid hla
          clear hla
          by_cases h1 : bt s (p - 1) / 16 = bt s p / 16
          · have h1' : (bt s (p - 1) / 16 == bt s p / 16) = true := beq_iff_eq.2 h1
            by_cases h2 : bt s (p - 1) % 16 < 15
            · have F := Lib.hid (HEr.out 4 m (by omega) (HI.out.form hpl hM'.out hqlt (.inl (HI.out.bad.2 ⟨hm0, by rw [HL.out]; omega, by rw [HL.out]; exact h2⟩))))
              have h2' : decide (bt s (p - 1) % 16 < 15) = true := decide_eq_true h2
              clear h1
              go_wp2
              go_quiet (fail)
              go_wp2
              go_ret3
              exact ⟨none, 0, 0, by rw [F.out.1, F.out.2.1]; rfl, by rw [F.out.2.2]; exact rows_noints _ _, below_drewN hb _⟩
            · have hbad : Hid (¬ RrBad s k m) := fun hh => by have := (HI.out.bad.1 hh).2.2; rw [HL.out] at this; exact h2 this
              have h2' : decide (bt s (p - 1) % 16 < 15) = false := decide_eq_false h2
              clear h1
              go_wp2
              go_quiet (fail)
              go_wp2
              go_loopw [8, 64] (fun v8 v64 wi => ∃ j : Nat, j ≤ M ∧ v64 = .int .i64 j ∧ Owns wi w.heap.size 1 v8 (q + j) ((rrL s k m ++ List.replicate j (bt s p / 16)).map (Value.int .i64)) ∧ Below w.heap.size w wi) (fun _ v64 _ => M - (intOf v64).toNat)
              case atStart => exact ⟨0, Nat.zero_le _, rfl, by simpa using hown.drewN nq, below_drewN hb _⟩
              case round =>
                obtain ⟨j, hj, rfl, howni, hbi⟩ := hrel
                obtain ⟨AI, cI, rfl⟩ := howni.form
                have hszi := hbi.size
                by_cases hjl : j < M
                · have hjl2 : (j : Int) < bt s p % 16 + 1 := by rw [hM'.out]; omega
                  go_wp2_with (at_builtin; refine wpList_add1 rfl rfl Try.underlying63 info_i64r rfl (Nat.le_refl 1) howni rfl hszi rfl rfl rfl ?_ ?_ ?_ ?_; simp [Value.oneCell']; (unfold maxLen; omega); omega; intro A3 c3 w3 hown3 hleft3 hbk3)
                  go_roundw
                  case rel => exact ⟨j + 1, by omega, by go_num, by rw [own_rep] at hown3; exact hown3, hleft3.below (Nat.le_refl _) hbi⟩
                  case measure => simp [intOf]; omega
                · have hjl2 : bt s p % 16 + 1 ≤ (j : Int) := by rw [hM'.out]; omega
                  have hjl3 : ¬ (j : Int) < bt s p % 16 + 1 := by omega
                  obtain rfl : j = M := by omega
                  by_cases hover : n < q + j
                  · have F := Lib.hid (HEr.out 4 m (by omega) (HI.out.form hpl hM'.out hqlt (.inr hover)))
                    have c4 : (n : Int) < ((q + j : Nat) : Int) := by omega
                    have c4' : (n : Int) < (q : Int) + (j : Int) := by omega
                    go_wp2
                    go_ret3
                    exact ⟨none, 0, 0, by rw [F.out.1, F.out.2.1]; rfl, by rw [F.out.2.2]; exact rows_noints _ _, hbi⟩
                  · have HN0 := HI.out.next hpl hM'.out (by omega) hqlt hbad.out
                    have HN := Lib.hid HN0.1
                    have HX := Lib.hid HN0.2
                    clear HN0
                    have c4 : ((q + j : Nat) : Int) ≤ (n : Int) := by omega
                    have c4' : (q : Int) + (j : Int) ≤ (n : Int) := by omega
                    rw [← HX.out] at howni
                    go_wp2
                    go_roundw
                    case rel => exact ⟨m + 1, p + 1, q + j, bt s p, HN.out, by go_num, howni, hbi⟩
                    case measure => simp [intOf]; omega
          · have hbad : Hid (¬ RrBad s k m) := fun hh => by have := (HI.out.bad.1 hh).2.1; rw [HL.out] at this; exact h1 this.symm
            have h1' : (bt s (p - 1) / 16 == bt s p / 16) = false := beq_eq_false_iff_ne.2 h1
            go_wp2
            go_quiet (fail)
            go_wp2
            go_loopw [8, 64] (fun v8 v64 wi => ∃ j : Nat, j ≤ M ∧ v64 = .int .i64 j ∧ Owns wi w.heap.size 1 v8 (q + j) ((rrL s k m ++ List.replicate j (bt s p / 16)).map (Value.int .i64)) ∧ Below w.heap.size w wi) (fun _ v64 _ => M - (intOf v64).toNat)
            case atStart => exact ⟨0, Nat.zero_le _, rfl, by simpa using hown.drewN nq, below_drewN hb _⟩
            case round =>
              obtain ⟨j, hj, rfl, howni, hbi⟩ := hrel
              obtain ⟨AI, cI, rfl⟩ := howni.form
              have hszi := hbi.size
              by_cases hjl : j < M
              · have hjl2 : (j : Int) < bt s p % 16 + 1 := by rw [hM'.out]; omega
                go_wp2_with (at_builtin; refine wpList_add1 rfl rfl Try.underlying63 info_i64r rfl (Nat.le_refl 1) howni rfl hszi rfl rfl rfl ?_ ?_ ?_ ?_; simp [Value.oneCell']; (unfold maxLen; omega); omega; intro A3 c3 w3 hown3 hleft3 hbk3)
                go_roundw
                case rel => exact ⟨j + 1, by omega, by go_num, by rw [own_rep] at hown3; exact hown3, hleft3.below (Nat.le_refl _) hbi⟩
                case measure => simp [intOf]; omega
              · have hjl2 : bt s p % 16 + 1 ≤ (j : Int) := by rw [hM'.out]; omega
                have hjl3 : ¬ (j : Int) < bt s p % 16 + 1 := by omega
                obtain rfl : j = M := by omega
                by_cases hover : n < q + j
                · have F := Lib.hid (HEr.out 4 m (by omega) (HI.out.form hpl hM'.out hqlt (.inr hover)))
                  have c4 : (n : Int) < ((q + j : Nat) : Int) := by omega
                  have c4' : (n : Int) < (q : Int) + (j : Int) := by omega
                  go_wp2
                  go_ret3
                  exact ⟨none, 0, 0, by rw [F.out.1, F.out.2.1]; rfl, by rw [F.out.2.2]; exact rows_noints _ _, hbi⟩
                · have HN0 := HI.out.next hpl hM'.out (by omega) hqlt hbad.out
                  have HN := Lib.hid HN0.1
                  have HX := Lib.hid HN0.2
                  clear HN0
                  have c4 : ((q + j : Nat) : Int) ≤ (n : Int) := by omega
                  have c4' : (q : Int) + (j : Int) ≤ (n : Int) := by omega
                  rw [← HX.out] at howni
                  go_wp2
                  go_roundw
                  case rel => exact ⟨m + 1, p + 1, q + j, bt s p, HN.out, by go_num, howni, hbi⟩
                  case measure => simp [intOf]; omega
        · have hbad : Hid (¬ RrBad s k m) := fun hh => hm0 hh.1
          have hkp : ¬ (k : Int) < (p : Int) := by have := HI.out.p1; omega
          have hkp2 : (p : Int) ≤ (k : Int) := by omega
          have hkp3 : decide ((k : Int) < (p : Int)) = false := decide_eq_false hkp
          have hkp4 : decide (k < p) = false := decide_eq_false (by omega)
          go_wp2
          go_quiet (fail)
          go_wp2
          go_loopw [8, 64] (fun v8 v64 wi => ∃ j : Nat, j ≤ M ∧ v64 = .int .i64 j ∧ Owns wi w.heap.size 1 v8 (q + j) ((rrL s k m ++ List.replicate j (bt s p / 16)).map (Value.int .i64)) ∧ Below w.heap.size w wi) (fun _ v64 _ => M - (intOf v64).toNat)
          case atStart => exact ⟨0, Nat.zero_le _, rfl, by simpa using hown.drewN nq, below_drewN hb _⟩
          case round =>
            obtain ⟨j, hj, rfl, howni, hbi⟩ := hrel
            obtain ⟨AI, cI, rfl⟩ := howni.form
            have hszi := hbi.size
            by_cases hjl : j < M
            · have hjl2 : (j : Int) < bt s p % 16 + 1 := by rw [hM'.out]; omega
              go_wp2_with (at_builtin; refine wpList_add1 rfl rfl Try.underlying63 info_i64r rfl (Nat.le_refl 1) howni rfl hszi rfl rfl rfl ?_ ?_ ?_ ?_; simp [Value.oneCell']; (unfold maxLen; omega); omega; intro A3 c3 w3 hown3 hleft3 hbk3)
              go_roundw
              case rel => exact ⟨j + 1, by omega, by go_num, by rw [own_rep] at hown3; exact hown3, hleft3.below (Nat.le_refl _) hbi⟩
              case measure => simp [intOf]; omega
            · have hjl2 : bt s p % 16 + 1 ≤ (j : Int) := by rw [hM'.out]; omega
              have hjl3 : ¬ (j : Int) < bt s p % 16 + 1 := by omega
              obtain rfl : j = M := by omega
              by_cases hover : n < q + j
              · have F := Lib.hid (HEr.out 4 m (by omega) (HI.out.form hpl hM'.out hqlt (.inr hover)))
                have c4 : (n : Int) < ((q + j : Nat) : Int) := by omega
                have c4' : (n : Int) < (q : Int) + (j : Int) := by omega
                go_wp2
                go_ret3
                exact ⟨none, 0, 0, by rw [F.out.1, F.out.2.1]; rfl, by rw [F.out.2.2]; exact rows_noints _ _, hbi⟩
              · have HN0 := HI.out.next hpl hM'.out (by omega) hqlt hbad.out
                have HN := Lib.hid HN0.1
                have HX := Lib.hid HN0.2
                clear HN0
                have c4 : ((q + j : Nat) : Int) ≤ (n : Int) := by omega
                have c4' : (q : Int) + (j : Int) ≤ (n : Int) := by omega
                rw [← HX.out] at howni
                go_wp2
                go_roundw
                case rel => exact ⟨m + 1, p + 1, q + j, bt s p, HN.out, by go_num, howni, hbi⟩
                case measure => simp [intOf]; omega
    · have hqe : q = n := by omega
      have F := Lib.hid (HOk.out m (HI.out.done hqe))
      have hqe1 : ((q : Int) == (n : Int)) = true := by rw [beq_iff_eq]; omega
      clear hqe
      have hpv : Hid ((p : Int) = (k : Int) + (m : Int)) := by have := HI.out.p1; have := HI.out.p2; simp only [Hid]; omega
      go_wp2
      go_ret3
      exact ⟨AO, q, cO, by rw [F.out.1, F.out.2.1, ← hpv.out]; rfl, by rw [F.out.2.2]; exact hown.ints, hb⟩

theorem rreadr_any (s : ByteArray) (w : World) (hs63 : s.size ≤ 9223372036854775807) :
    Calls Try.prog 21 #[.string s] w fun e w' => ∃ A q c, e = .returned (.tuple #[.slice A q c, .int .i64 (rrAt s), .int .i64 (rrE s)]) ∧ RowsIn w' w'.heap.size A q c (fun z => [.int .i64 z]) 1 (rrX s) ∧ Below w.heap.size w w' := by
  by_cases h : getE (bt s) s.size = 0
  · by_cases h2 : 320 < getV (bt s) s.size
    · exact rreadr_big s w hs63 h h2
    · have hg := get_end h
      obtain ⟨k, hk⟩ := Int.eq_ofNat_of_zero_le (show 0 ≤ getN (bt s) s.size by omega)
      have hv : 0 ≤ getV (bt s) s.size := by unfold getV; rw [if_pos h]; exact (vsum_bd _ _).1
      obtain ⟨n, hn⟩ := Int.eq_ofNat_of_zero_le hv
      exact rreadr_run s w hs63 h k n hk hn (by omega) (by omega)
  · exact rreadr_err s w hs63 h

end Go.Proofs.Ytebgcemglicjiaa
