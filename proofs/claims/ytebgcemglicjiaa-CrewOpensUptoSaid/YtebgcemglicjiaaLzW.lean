/- lz.Check, lz.Expand and their references, walked. -/
import Derived.Test.YtebgcemglicjiaaPlJb
import Derived.Test.YtebgcemglicjiaaPlJa
import Derived.Test.YtebgcemglicjiaaOwJa
import Derived.PlainAid
namespace Go.Proofs.Ytebgcemglicjiaa
open Go.RowKit Go.PlainAid

theorem info_u8l : (Try.prog.info? 5).map (fun i => (i.zero, i.size, i.bytes)) = some (some (.int .u8 0), 1, 1) := by kernel_rfl
theorem markE_ok {m : Mark} (h : m.isByte ∨ m.isCopy) : markE m = 0 := by unfold markE; rw [if_pos h]
theorem markE_no {m : Mark} (h : ¬ (m.isByte ∨ m.isCopy)) : markE m = 4 := by unfold markE; rw [if_neg h]

set_option maxHeartbeats 1000000 in
theorem check_any (a d b : Int) (w : World) :
    Calls Try.prog 57 #[.agg #[.int .i64 a, .int .i64 d, .int .u8 b]] w fun e w' => e = .returned (.int .i64 (markE ⟨a, d, b⟩)) ∧ w.alloc (.cells #[.int .i64 a, .int .i64 d, .int .u8 b] 73) = w' := by
  by_cases h0 : a = 0
  · subst h0
    by_cases hd : d = 0
    · subst hd
      have F := Lib.hid (markE_ok (m := ⟨0, 0, b⟩) (.inl ⟨rfl, rfl⟩))
      go_enter Try.func57, Try.ntmps57
      go_wp2
      go_ret
      exact ⟨ret_i1 F.out.symm, rfl⟩
    · have F := Lib.hid (markE_no (m := ⟨0, d, b⟩) (by rintro (⟨_, h⟩ | ⟨h, _⟩); exact hd h; simp at h))
      have hne : (d != 0) = true := by rw [bne_iff_ne]; exact hd
      clear hd
      go_enter Try.func57, Try.ntmps57
      go_wp2
      go_ret
      exact ⟨ret_i1 F.out.symm, rfl⟩
  · have hne : (a == 0) = false := beq_eq_false_iff_ne.2 h0
    by_cases hc : 3 ≤ a ∧ a ≤ 66 ∧ 1 ≤ d ∧ b = 0
    · have F := Lib.hid (markE_ok (m := ⟨a, d, b⟩) (.inr hc))
      obtain ⟨h1, h2, h3, rfl⟩ := hc
      clear h0
      go_enter Try.func57, Try.ntmps57
      go_wp2
      go_ret
      exact ⟨ret_i1 F.out.symm, rfl⟩
    · have F := Lib.hid (markE_no (m := ⟨a, d, b⟩) (by rintro (⟨h, _⟩ | h); exact h0 h; exact hc h))
      rcases (show a < 3 ∨ (3 ≤ a ∧ 66 < a) ∨ (3 ≤ a ∧ a ≤ 66 ∧ d < 1) ∨ (3 ≤ a ∧ a ≤ 66 ∧ 1 ≤ d ∧ b ≠ 0) by omega) with h | ⟨h, h'⟩ | ⟨h, h', h''⟩ | ⟨h, h', h'', hb⟩
      · clear hc h0
        go_enter Try.func57, Try.ntmps57
        go_wp2
        go_ret
        exact ⟨ret_i1 F.out.symm, rfl⟩
      · clear hc h0
        go_enter Try.func57, Try.ntmps57
        go_wp2
        go_ret
        exact ⟨ret_i1 F.out.symm, rfl⟩
      · clear hc h0
        go_enter Try.func57, Try.ntmps57
        go_wp2
        go_ret
        exact ⟨ret_i1 F.out.symm, rfl⟩
      · have hne2 : (b != 0) = true := by rw [bne_iff_ne]; exact hb
        clear hc h0 hb
        go_enter Try.func57, Try.ntmps57
        go_wp2
        go_ret
        exact ⟨ret_i1 F.out.symm, rfl⟩

set_option maxHeartbeats 1000000 in
theorem mark_any (a d b : Int) (w : World) :
    Calls Try.prog 28 #[.agg #[.int .i64 a, .int .i64 d, .int .u8 b]] w fun e w' => e = .returned (.int .i64 (markE ⟨a, d, b⟩)) ∧ w.alloc (.cells #[.int .i64 a, .int .i64 d, .int .u8 b] 73) = w' := by
  by_cases h0 : a = 0
  · subst h0
    by_cases hd : d = 0
    · subst hd
      have F := Lib.hid (markE_ok (m := ⟨0, 0, b⟩) (.inl ⟨rfl, rfl⟩))
      go_enter Try.func28, Try.ntmps28
      go_wp2
      go_ret
      exact ⟨ret_i1 F.out.symm, rfl⟩
    · have F := Lib.hid (markE_no (m := ⟨0, d, b⟩) (by rintro (⟨_, h⟩ | ⟨h, _⟩); exact hd h; simp at h))
      have hne : (d == 0) = false := beq_eq_false_iff_ne.2 hd
      clear hd
      go_enter Try.func28, Try.ntmps28
      go_wp2
      go_ret
      exact ⟨ret_i1 F.out.symm, rfl⟩
  · have hne : (a == 0) = false := beq_eq_false_iff_ne.2 h0
    by_cases hc : 3 ≤ a ∧ a ≤ 66 ∧ 1 ≤ d ∧ b = 0
    · have F := Lib.hid (markE_ok (m := ⟨a, d, b⟩) (.inr hc))
      obtain ⟨h1, h2, h3, rfl⟩ := hc
      clear h0
      go_enter Try.func28, Try.ntmps28
      go_wp2
      go_ret
      exact ⟨ret_i1 F.out.symm, rfl⟩
    · have F := Lib.hid (markE_no (m := ⟨a, d, b⟩) (by rintro (⟨h, _⟩ | h); exact h0 h; exact hc h))
      rcases (show a < 3 ∨ (3 ≤ a ∧ 66 < a) ∨ (3 ≤ a ∧ a ≤ 66 ∧ d < 1) ∨ (3 ≤ a ∧ a ≤ 66 ∧ 1 ≤ d ∧ b ≠ 0) by omega) with h | ⟨h, h'⟩ | ⟨h, h', h''⟩ | ⟨h, h', h'', hb⟩
      · clear hc h0
        go_enter Try.func28, Try.ntmps28
        go_wp2
        go_ret
        exact ⟨ret_i1 F.out.symm, rfl⟩
      · clear hc h0
        go_enter Try.func28, Try.ntmps28
        go_wp2
        go_ret
        exact ⟨ret_i1 F.out.symm, rfl⟩
      · clear hc h0
        go_enter Try.func28, Try.ntmps28
        go_wp2
        go_ret
        exact ⟨ret_i1 F.out.symm, rfl⟩
      · have hne2 : (b == 0) = false := beq_eq_false_iff_ne.2 hb
        clear hc h0 hb
        go_enter Try.func28, Try.ntmps28
        go_wp2
        go_ret
        exact ⟨ret_i1 F.out.symm, rfl⟩

set_option maxRecDepth 20000 in
set_option maxHeartbeats 1000000 in
theorem expand_any (A : Option Addr) (n c : Nat) (xs : List Mark) (w : World) (r : RowsIn w w.heap.size A n c Mark.cells 3 xs) (ok : ∀ z ∈ xs, Mark.ok z) (hn : n ≤ 140737488355328) :
    Calls Try.prog 20 #[.slice A n c] w fun e w' => e = .returned (.tuple #[.string (strOfNums (expF [] xs).1), .int .i64 (expF [] xs).2]) ∧ Below w.heap.size w w' := by
  have hlen := r.len
  obtain rfl := hlen
  go_enter Try.func20, Try.ntmps20
  go_wp2
  go_loopw [4, 10] (fun v4 v10 wr => ∃ (k : Nat) (O : List Int), k ≤ xs.length ∧ O.length ≤ 512 ∧ Hid (expF [] xs = expF O (xs.drop k)) ∧ v10 = .int .i64 k ∧ Owns wr w.heap.size 1 v4 O.length (O.map (Value.int .u8)) ∧ Below w.heap.size w wr) (fun _ v10 _ => xs.length - (intOf v10).toNat)
  case atStart => exact ⟨0, [], Nat.zero_le _, by simp, by simp [Hid], rfl, Owns.nil _ _ _, Below.refl _ _⟩
  case round =>
    obtain ⟨k, O, hk, hO, hE, rfl, hown, hb⟩ := hrel
    obtain ⟨AO, cO, rfl⟩ := hown.form
    have hsz := hb.size
    by_cases hlt : k < xs.length
    · obtain ⟨b, o, rfl, hbB, hc⟩ := (r.below hb).at_ k _ (List.getElem?_eq_getElem hlt)
      have hx : xs.drop k = xs[k] :: xs.drop (k + 1) := List.drop_eq_getElem_cons hlt
      have HD := Lib.hid hx
      have hok := ok xs[k] (List.getElem_mem hlt)
      clear hx
      generalize xs[k] = m at *
      obtain ⟨a, d, by_⟩ := m
      have hc0 := hc 0 _ rfl
      have hc1 := hc 1 _ rfl
      have hc2 := hc 2 _ rfl
      simp only [Nat.add_zero] at hc0
      obtain ⟨wa, wd, wb⟩ := hok
      have ha := wf_i64_bd wa
      have hd := wf_i64_bd wd
      have hby := wf_u8_bd wb
      clear hc wa wd wb
      by_cases he : markE ⟨a, d, by_⟩ = 0
      · rcases mark_cases he with ⟨rfl, rfl⟩ | ⟨h1, h2, h3, rfl⟩
        · have he' : (markE ⟨0, 0, by_⟩ != 0) = false := by rw [he]; rfl
          by_cases hfull : (O.length : Int) + 1 ≤ 512
          · have F : Hid (expF [] xs = expF (O ++ [by_]) (xs.drop (k + 1))) := by
              simp only [Hid]; rw [hE.out, HD.out, expF_go he (by simp only; omega) (by rw [more_byte]; simp; omega), more_byte]
            clear he hO
            go_wp2_with (first
              | (go_at_call 57; refine (check_any _ _ _ _).mono ?_; rintro e w' ⟨rfl, rfl⟩)
              | (at_builtin; refine wpList_add1 rfl rfl Try.underlying38 info_u8l rfl (Nat.le_refl 1) ((hown.alloc _).alloc _) rfl ?_ rfl ?_ rfl ?_ ?_ ?_ ?_; (simp; omega); simp; simp [Value.oneCell']; (unfold maxLen; omega); omega; intro A1 c1 w1 hown1 hleft1 hbk1; have hm0 : w1.cell? ⟨wr.heap.size, 0, none⟩ = some (.int .i64 0) := hleft1.cell (by simp) (hown.ne_of_le (Nat.le_refl _))))
            refine wp_loop_rounds 1 ?_
            rw [rounds_succ]
            go_wp2
            go_roundw
            case rel => exact ⟨k + 1, O ++ [by_], by omega, by simp; omega, F, by go_num, by simpa using hown1, hleft1.below (Nat.le_refl _) ((hb.alloc hsz _).alloc (by simp; omega) _)⟩
            case measure => simp [intOf]; omega
          · have F : Hid (expF [] xs = ([], 2)) := by
              simp only [Hid]; rw [hE.out, HD.out, expF_large he (by simp only; omega) (by rw [more_byte]; simp; omega)]
            clear he
            go_wp2_with (go_at_call 57; refine (check_any _ _ _ _).mono ?_; rintro e w' ⟨rfl, rfl⟩)
            go_ret2
            exact ⟨ret_s2 (by rw [F.out]; rfl) (by rw [F.out]), ((hb.alloc hsz _).alloc (by simp; omega) _)⟩
        · have he' : (markE ⟨a, d, 0⟩ != 0) = false := by rw [he]; rfl
          by_cases hdist : (O.length : Int) < d
          · have F : Hid (expF [] xs = ([], 8)) := by
              simp only [Hid]; rw [hE.out, HD.out, expF_dist he (by simp only; omega)]
            clear he
            go_wp2_with (go_at_call 57; refine (check_any _ _ _ _).mono ?_; rintro e w' ⟨rfl, rfl⟩)
            go_ret2
            exact ⟨ret_s2 (by rw [F.out]; rfl) (by rw [F.out]), ((hb.alloc hsz _).alloc (by simp; omega) _)⟩
          · by_cases hfull : (O.length : Int) + a ≤ 512
            · have F : Hid (expF [] xs = expF (O ++ copied O d.toNat a.toNat) (xs.drop (k + 1))) := by
                simp only [Hid]; rw [hE.out, HD.out, expF_go he (by simp only; omega) (by rw [more_copy _ _ _ _ (by omega), copied_length]; omega), more_copy _ _ _ _ (by omega)]
              have hcl := copied_length O d.toNat a.toNat
              clear he hO
              go_wp2_with (go_at_call 57; refine (check_any _ _ _ _).mono ?_; rintro e w' ⟨rfl, rfl⟩)
              obtain ⟨wo, rfl⟩ : ∃ wo : World, wo = wr := ⟨_, rfl⟩
              go_loopw [4, 41] (fun v4 v41 wi => ∃ j : Nat, (j : Int) ≤ a ∧ v41 = .int .i64 j ∧ Owns wi w.heap.size 1 v4 (O.length + j) ((O ++ copied O d.toNat j).map (Value.int .u8)) ∧ v4.ownBlock ≠ some wo.heap.size ∧ wo.heap.size < wi.heap.size ∧ wi.cell? ⟨wo.heap.size, 1, none⟩ = some (.int .i64 d) ∧ Below w.heap.size w wi) (fun _ v41 _ => (a - intOf v41).toNat)
              case atStart => exact ⟨0, by omega, rfl, by simpa [copied] using (hown.alloc _).alloc _, hown.ne_of_le (Nat.le_refl _), by simp; omega, by simp, (hb.alloc hsz _).alloc (by simp; omega) _⟩
              case round =>
                obtain ⟨j, hj, rfl, howni, hnei, hlti, hmi, hbi⟩ := hrel
                obtain ⟨AI, cI, rfl⟩ := howni.form
                by_cases hja : (j : Int) < a
                · obtain ⟨g, off, cap, hv, hgB, hgl, hgc, hgf⟩ := howni.at_ (j := O.length + j - d.toNat) (u := .int .u8 (O.getD (O.length - d.toNat + j % d.toNat) 0)) (by
                    rw [List.getElem?_map, copied_back O d.toNat j (by omega) (by omega)]; rfl)
                  injection hv with hv1 hv2 hv3
                  subst hv1
                  have hidx : O.length + j - d.toNat = ((O.length : Int) + (j : Int) - d).toNat := by omega
                  rw [hidx] at hgc
                  have hci : cI = cap := hv3
                  generalize hbv : O.getD (O.length - d.toNat + j % d.toNat) 0 = bv at *
                  have HBV := Lib.hid hbv
                  have hszi := hbi.size
                  clear hbv hidx hgf hci hv2 hv3
                  go_wp2_with (at_builtin; refine wpList_add1 rfl rfl Try.underlying38 info_u8l rfl (Nat.le_refl 1) howni rfl hszi rfl rfl rfl ?_ ?_ ?_ ?_; simp [Value.oneCell']; (unfold maxLen; omega); omega; intro A2 c2 w2 hown2 hleft2 hbk2)
                  go_roundw
                  case rel =>
                    refine ⟨j + 1, by omega, by go_num, ?_, ?_, ?_, hleft2.cell hmi hnei, hleft2.below (Nat.le_refl _) hbi⟩
                    · rw [copied_succ, HBV.out, show O.length + (j + 1) = O.length + j + 1 from rfl]
                      simpa using hown2
                    · rcases hbk2 with e | e
                      · rw [e]; exact hnei
                      · intro h; have := e _ h; omega
                    · have := hleft2.size; omega
                  case measure => simp [intOf]; omega
                · have hja' : j = a.toNat := by omega
                  subst hja'
                  go_wp2
                  go_roundw
                  case rel => exact ⟨k + 1, O ++ copied O d.toNat a.toNat, by omega, by simp [hcl]; omega, F, by go_num, by simpa [hcl] using howni, hbi⟩
                  case measure => simp [intOf]; omega
            · have F : Hid (expF [] xs = ([], 2)) := by
                simp only [Hid]; rw [hE.out, HD.out, expF_large he (by simp only; omega) (by rw [more_copy _ _ _ _ (by omega), copied_length]; omega)]
              clear he
              go_wp2_with (go_at_call 57; refine (check_any _ _ _ _).mono ?_; rintro e w' ⟨rfl, rfl⟩)
              go_ret2
              exact ⟨ret_s2 (by rw [F.out]; rfl) (by rw [F.out]), ((hb.alloc hsz _).alloc (by simp; omega) _)⟩
      · have hne : (markE ⟨a, d, by_⟩ != 0) = true := by rw [bne_iff_ne]; exact he
        have F : Hid (expF [] xs = ([], markE ⟨a, d, by_⟩)) := by simp only [Hid]; rw [hE.out, HD.out, expF, if_pos he]
        clear he
        go_wp2_with (go_at_call 57; refine (check_any _ _ _ _).mono ?_; rintro e w' ⟨rfl, rfl⟩)
        go_ret2
        exact ⟨ret_s2 (by rw [F.out]; rfl) (by rw [F.out]), ((hb.alloc hsz _).alloc (by simp; omega) _)⟩
    · have F : Hid (expF [] xs = (O, 0)) := by simp only [Hid]; rw [hE.out, List.drop_of_length_le (by omega), expF]
      go_wp2_with (refine wpList_text rfl rfl Try.underlying38 Try.underlying5 Try.underlying9 hown rfl ?_)
      go_ret2
      exact ⟨ret_s2 (by rw [F.out]) (by rw [F.out]), hb⟩

end Go.Proofs.Ytebgcemglicjiaa
