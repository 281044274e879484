/- linenref.Expand, walked. -/
import Derived.Test.YtebgcemglicjiaaLzW
import Derived.Test.YtebgcemglicjiaaOwJa
import Derived.Deep.QuietTactic
namespace Go.Proofs.Ytebgcemglicjiaa
open Go.RowKit Go.PlainAid

set_option maxRecDepth 20000 in
set_option maxHeartbeats 1000000 in
theorem expandr_any (A : Option Addr) (n c : Nat) (xs : List Mark) (w : World) (r : RowsIn w w.heap.size A n c Mark.cells 3 xs) (ok : ∀ z ∈ xs, Mark.ok z) (hn : n ≤ 140737488355328) :
    Calls Try.prog 12 #[.slice A n c] w fun e w' => e = .returned (.tuple #[.string (strOfNums (expF [] xs).1), .int .i64 (expF [] xs).2]) ∧ Below w.heap.size w w' := by
  have hlen := r.len
  obtain rfl := hlen
  go_enter Try.func12, Try.ntmps12
  go_wp2
  go_loopw [4, 13] (fun v4 v13 wr => ∃ (k : Nat) (O : List Int), k ≤ xs.length ∧ O.length ≤ 512 ∧ Hid (expF [] xs = expF O (xs.drop k)) ∧ v13 = .int .i64 k ∧ v4 = .string (strOfNums O) ∧ Below w.heap.size w wr) (fun _ v13 _ => xs.length - (intOf v13).toNat)
  case atStart => exact ⟨0, [], Nat.zero_le _, by simp, by simp [Hid], rfl, rfl, Below.refl _ _⟩
  case round =>
    obtain ⟨k, O, hk, hO, hE, rfl, rfl, hb⟩ := hrel
    have hsz := hb.size
    have hos := strOfNums_size O
    by_cases hlt : k < xs.length
    · obtain ⟨b, o, rfl, hbB, hc⟩ := (r.below hb).at_ k _ (List.getElem?_eq_getElem hlt)
      have hx : xs.drop k = xs[k] :: xs.drop (k + 1) := List.drop_eq_getElem_cons hlt
      have HD := Lib.hid hx
      have hok := ok xs[k] (List.getElem_mem hlt)
      clear hx
      generalize xs[k] = m at *
      obtain ⟨a, d, by_⟩ := m
      have hc0 := hc 0 _ rfl
      have hc1 := hc 1 _ rfl
      have hc2 := hc 2 _ rfl
      simp only [Nat.add_zero] at hc0
      obtain ⟨wa, wd, wb⟩ := hok
      have ha := wf_i64_bd wa
      have hd := wf_i64_bd wd
      have hby := wf_u8_bd wb
      clear hc wa wd wb
      by_cases he : markE ⟨a, d, by_⟩ = 0
      · rcases mark_cases he with ⟨rfl, rfl⟩ | ⟨h1, h2, h3, rfl⟩
        · have he' : (markE ⟨0, 0, by_⟩ != 0) = false := by rw [he]; rfl
          have hconv := run_str1 (P := Try.prog) Try.underlying38 Try.underlying5 Try.underlying9 by_
          have hcat := run_cat (P := Try.prog) O [by_] (by simp; omega)
          have hos2 := strOfNums_size (O ++ [by_])
          rw [List.length_append] at hos2
          by_cases hfull : (O.length : Int) + 1 ≤ 512
          · have F : Hid (expF [] xs = expF (O ++ [by_]) (xs.drop (k + 1))) := by
              simp only [Hid]; rw [hE.out, HD.out, expF_go he (by simp only; omega) (by rw [more_byte]; simp; omega), more_byte]
            clear he hO
            go_wp2_with (go_at_call 28; refine (mark_any _ _ _ _).mono ?_; rintro e w' ⟨rfl, rfl⟩)
            go_roundw
            case rel => exact ⟨k + 1, O ++ [by_], by omega, by simp; omega, F, by go_num, rfl, (((hb.alloc hsz _).alloc (by simp; omega) _).alloc (by simp; omega) _)⟩
            case measure => simp [intOf]; omega
          · have F : Hid (expF [] xs = ([], 2)) := by
              simp only [Hid]; rw [hE.out, HD.out, expF_large he (by simp only; omega) (by rw [more_byte]; simp; omega)]
            clear he
            go_wp2_with (go_at_call 28; refine (mark_any _ _ _ _).mono ?_; rintro e w' ⟨rfl, rfl⟩)
            go_ret2
            exact ⟨ret_s2 (by rw [F.out]; rfl) (by rw [F.out]), (((hb.alloc hsz _).alloc (by simp; omega) _).alloc (by simp; omega) _)⟩
        · have he' : (markE ⟨a, d, 0⟩ != 0) = false := by rw [he]; rfl
          have hconv := run_str1 (P := Try.prog) Try.underlying38 Try.underlying5 Try.underlying9 0
          by_cases hdist : (O.length : Int) < d
          · have F : Hid (expF [] xs = ([], 8)) := by
              simp only [Hid]; rw [hE.out, HD.out, expF_dist he (by simp only; omega)]
            clear he
            go_wp2_with (go_at_call 28; refine (mark_any _ _ _ _).mono ?_; rintro e w' ⟨rfl, rfl⟩)
            go_ret2
            exact ⟨ret_s2 (by rw [F.out]; rfl) (by rw [F.out]), ((hb.alloc hsz _).alloc (by simp; omega) _)⟩
          · have hcl := copied_length O d.toNat a.toNat
            obtain ⟨D, rfl⟩ := Int.eq_ofNat_of_zero_le (show 0 ≤ d by omega)
            rw [Int.toNat_natCast] at hcl
            have hext : (strOfNums O).extract (O.length - D) O.length = strOfNums (O.drop (O.length - D)) := strOfNums_drop _ _
            have hfl : (O.drop (O.length - D)).length = D := by simp; omega
            have hfs : (strOfNums (O.drop (O.length - D))).size = D := by rw [strOfNums_size, hfl]
            have hget : ∀ q, q < D → (O.drop (O.length - D)).getD q 0 = O.getD (O.length - D + q) 0 := by
              intro q hq
              simp [List.getD_eq_getElem?_getD, List.getElem?_drop]
            generalize O.drop (O.length - D) = FR at *
            have HG := Lib.hid hget
            have HC := Lib.hid hcl
            have HL := Lib.hid hfl
            clear hget hcl hfl
            go_wp2_with (go_at_call 28; refine (mark_any _ _ _ _).mono ?_; rintro e w' ⟨rfl, rfl⟩)
            have hmk := HL.out
            obtain ⟨wo, rfl⟩ : ∃ wo : World, wo = wr := ⟨_, rfl⟩
            go_loopw [8, 43] (fun v8 v43 wi => ∃ j : Nat, (j : Int) ≤ a ∧ v43 = .int .i64 j ∧ v8 = .string (strOfNums (copied O D j)) ∧ Below w.heap.size w wi) (fun _ v43 _ => (a - intOf v43).toNat)
            case atStart => exact ⟨0, by omega, rfl, rfl, (((hb.alloc hsz _).alloc (by simp; omega) _).alloc (by simp; omega) _)⟩
            case round =>
              obtain ⟨j, hj, rfl, rfl, hbi⟩ := hrel
              by_cases hja : (j : Int) < a
              · obtain ⟨q, hq⟩ : ∃ q, q = j % D := ⟨_, rfl⟩
                have hqD : q < D := by rw [hq]; exact Nat.mod_lt _ (by omega)
                have HQ := Lib.hid hq
                have hcat := run_cat (P := Try.prog) (copied O D j) [FR.getD q 0] (by rw [copied_length]; simp; omega)
                have hx1 : (strOfNums FR).extract q (q + 1) = strOfNums [FR.getD q 0] := by
                  rw [strOfNums_extract, show q + 1 - q = 1 by omega]
                  congr 1
                  rw [List.take_one, List.head?_drop]
                  simp [List.getD_eq_getElem?_getD, List.getElem?_eq_getElem (show q < FR.length by omega)]
                have e1 : (j : Int).tmod (D : Int) = (q : Int) := by
                  rw [Int.tmod_eq_emod_of_nonneg (by omega), hq]; simp
                have e2 : IntKind.i64.wrap ((q : Int) + 1) = (q : Int) + 1 := by rw [IntKind.wrap_i64]; omega
                have hD0 : ((D : Int) == 0) = false := by rw [beq_eq_false_iff_ne]; omega
                have hD1 : (D : Int) ≠ 0 := by omega
                have hD2 : ¬ D = 0 := by omega
                have hD3 : ¬ (strOfNums FR).size = 0 := by omega
                have hq2 : j % D = q := hq.symm
                have e3 : (0 : Int) ≤ (q : Int) + 1 := by omega
                have e4 : ((q : Int) + 1).toNat = q + 1 := by omega
                have e5 : (q : Int) + 1 ≤ (D : Int) := by omega
                have hcut := run_cut (P := Try.prog) (t := 9) (by kernel_rfl) (strOfNums FR) q (q + 1) (by omega) (by omega)
                rw [hx1] at hcut
                have e6 : (q : Int) ≤ (q : Int) + 1 := by omega
                have hB := HG.out q hqD
                generalize FR.getD q 0 = bq at *
                have HB := Lib.hid hB
                clear hq hB
                go_wp2
                go_quiet (fail)
                go_wp2
                go_roundw
                case rel => exact ⟨j + 1, by omega, by go_num, by rw [copied_succ, ← HQ.out, ← HB.out], below_drewN hbi _⟩
                case measure => simp [intOf]; omega
              · have hjn : a.toNat = j := by omega
                have hcz : (strOfNums (copied O D j)).size = j := by rw [strOfNums_size, copied_length]
                have hcat := run_cat (P := Try.prog) O (copied O D j) (by rw [copied_length]; omega)
                have hos2 := strOfNums_size (O ++ copied O D j)
                rw [List.length_append, copied_length] at hos2
                have hM : more O ⟨a, D, 0⟩ = copied O D j := by rw [more_copy _ _ _ _ (by omega), hjn, Int.toNat_natCast]
                by_cases hfull : (O.length : Int) + (j : Int) ≤ 512
                · have F : Hid (expF [] xs = expF (O ++ copied O D j) (xs.drop (k + 1))) := by
                    simp only [Hid]; rw [hE.out, HD.out, expF_go he (by simp only; omega) (by rw [hM, copied_length]; omega), hM]
                  have hl2 : (O ++ copied O D j).length ≤ 512 := by rw [List.length_append, copied_length]; omega
                  have HL2 := Lib.hid hl2
                  clear he hM hl2
                  go_wp2
                  go_roundw
                  case rel => exact ⟨k + 1, O ++ copied O D j, by omega, HL2.out, F, by go_num, rfl, hbi⟩
                  case measure => simp [intOf]; omega
                · have F : Hid (expF [] xs = ([], 2)) := by
                    simp only [Hid]; rw [hE.out, HD.out, expF_large he (by simp only; omega) (by rw [hM, copied_length]; omega)]
                  clear he hM
                  go_wp2
                  go_ret2
                  exact ⟨ret_s2 (by rw [F.out]; rfl) (by rw [F.out]), hbi⟩
      · have hne : (markE ⟨a, d, by_⟩ != 0) = true := by rw [bne_iff_ne]; exact he
        have F : Hid (expF [] xs = ([], markE ⟨a, d, by_⟩)) := by simp only [Hid]; rw [hE.out, HD.out, expF, if_pos he]
        clear he
        go_wp2_with (go_at_call 28; refine (mark_any _ _ _ _).mono ?_; rintro e w' ⟨rfl, rfl⟩)
        go_ret2
        exact ⟨ret_s2 (by rw [F.out]; rfl) (by rw [F.out]), ((hb.alloc hsz _).alloc (by simp; omega) _)⟩
    · have F : Hid (expF [] xs = (O, 0)) := by simp only [Hid]; rw [hE.out, List.drop_of_length_le (by omega), expF]
      go_wp2
      go_ret2
      exact ⟨ret_s2 (by rw [F.out]) (by rw [F.out]), hb⟩
end Go.Proofs.Ytebgcemglicjiaa
