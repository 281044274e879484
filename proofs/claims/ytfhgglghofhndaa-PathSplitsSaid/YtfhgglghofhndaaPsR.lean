/- linenref.Path, walked. -/
import Derived.Test.YtfhgglghofhndaaPsW
namespace Go.Proofs.Ytfhgglghofhndaa
open Go.RowKit Go.PlainAid

theorem ownsRow_more {W : World} {base base' n : Nat} {e : TypeId} {v : Value} {xs : List Value} (h : W.ownsRow base e 1 v n xs) (hb : base' ≤ base) : W.ownsRow base' e 1 v n xs := by
  refine ⟨h.1, ?_⟩
  rcases h.2 with h2 | ⟨g, cap, cur, e1, e2, e3⟩
  · exact .inl h2
  · exact .inr ⟨g, cap, cur, e1, by omega, e3⟩
theorem clone_any (A : Option Addr) (n c : Nat) (xs : List ByteArray) (base : Nat) (w : World) (h : w.ownsRow base 9 1 (.slice A n c) n (xs.map Value.string)) (hn : n ≤ 8) (hb : base ≤ w.heap.size) :
    Calls Try.prog 73 #[.slice A n c] w fun e w' => ∃ v', e = .returned v' ∧ (w'.ownsRow base 9 1 v' n (xs.map Value.string) ∧ Below w.heap.size w w') := by
  have hl : xs.length = n := by have := h.1; simpa using this
  rcases h.2 with ⟨e1, h0⟩ | ⟨g, cap, cur, e1, e2, e3, e4, e5, e6, e7⟩
  · injection e1 with e1 _ e3
    subst e1; subst e3
    refine (Try.slices_Clone_string_nil n 0 w).mono ?_
    rintro e w' ⟨rfl, rfl⟩
    exact ⟨_, rfl, ⟨h.1, .inl ⟨rfl, h0⟩⟩, Below.refl _ _⟩
  · injection e1 with e1 _ e3
    subst e1; subst e3
    refine (Try.slices_Clone_string g 0 n c xs w (by omega) (by omega) (fun j hj => ?_)).mono ?_
    · have h1 : (cur.toList.take n)[j]? = some (Value.string (xs[j]'hj)) := by
        rw [Nat.mul_one] at e7
        rw [e7, List.getElem?_map, List.getElem?_eq_getElem hj]; rfl
      rw [List.getElem?_take, if_pos (by omega)] at h1
      rw [Nat.zero_add, row_cell e3 j]
      have h2 : cur[j]? = some (Value.string (xs[j]'hj)) := by simpa using h1
      rw [h2, List.getD_eq_getElem?_getD, List.getElem?_eq_getElem hj]; rfl
    · rintro e w' ⟨v', rfl, h1, _, h3⟩
      rw [List.take_of_length_le (by omega)] at h1
      exact ⟨v', rfl, ownsRow_more h1 hb, h3⟩
theorem pcs_step {l acc : List UInt8} {i : Nat} {c : UInt8} (h : l[i]? = some c) (hc : c ≠ 47) : pcs acc (l.drop i) = pcs (acc ++ [c]) (l.drop (i + 1)) := by rw [drop_at h, pcs_more hc]
theorem pcs_brk {l acc : List UInt8} {i : Nat} (h : i = l.length ∨ l[i]? = some 47) : pcs acc (l.drop i) = if acc = [] then pcs [] (l.drop (i + 1)) else mkS acc :: pcs [] (l.drop (i + 1)) := by
  rcases h with rfl | h
  · rw [List.drop_length, List.drop_of_length_le (by omega), pcs]
    simp [pcs]
  · rw [drop_at h, pcs, if_pos rfl]
/-- linenref.Path's state. -/
structure PrS (s : ByteArray) (w : World) (i : Nat) (acc : List UInt8) (out : List ByteArray) (v : Value) (wr : World) : Prop where
  go : psV s = pGo out (pcs acc ((bl s).drop i))
  le : i ≤ s.size + 1
  last : i = s.size + 1 → acc = []
  acl : acc.length ≤ i
  len : out.length ≤ 8
  own : wr.ownsRow w.heap.size 9 1 v out.length (out.map Value.string)
  below : Below w.heap.size w wr
theorem ownsRow_form {W : World} {base n : Nat} {e : TypeId} {v : Value} {xs : List Value} (h : W.ownsRow base e 1 v n xs) : ∃ A c, v = .slice A n c ∧ n ≤ c := by
  rcases h.2 with ⟨e, h0⟩ | ⟨g, cap, cur, e, _, _, h, _⟩
  · exact ⟨none, 0, by rw [e, h0], by omega⟩
  · exact ⟨_, _, e, h⟩
set_option maxRecDepth 20000 in
set_option maxHeartbeats 2000000 in
theorem rpath_any (s : ByteArray) (w : World) : Calls Try.prog 38 #[.string s] w (PsPost s w) := by
  by_cases h1 : 200 < s.size
  · have F := Lib.hid (ps_large h1)
    have i1 : 200 < (s.size : Int) := by omega
    clear h1
    go_enter Try.func38, Try.ntmps38
    go_wp2
    go_ret2
    exact psPost_bad F.out (Below.refl _ _)
  · have i1 : ¬ 200 < (s.size : Int) := by omega
    by_cases h0 : s.size = 0
    · have F := Lib.hid (ps_name h1 (.inl h0))
      obtain rfl : s = ⟨#[]⟩ := size_zero h0
      clear h1 h0 i1
      go_enter Try.func38, Try.ntmps38
      go_wp2
      go_ret2
      exact psPost_bad F.out (Below.refl _ _)
    · have e0 := emp_ne h0
      have e1 := emp_ne2 h0
      have e2 := emp_ne3 h0
      have hg := get_bt s
      have hpos : 0 < s.size := by omega
      by_cases h2 : bt s 0 = 47
      · have F := Lib.hid (ps_go h1 h0 h2)
        have h2b : (bt s 0 != 47) = false := by rw [h2]; decide
        have HS : Hid (s.size ≤ 200) := by simp only [Hid]; omega
        clear h1 h0
        go_enter Try.func38, Try.ntmps38
        go_wp2
        go_loopw [4, 5, 6] (fun v4 v5 v6 wr => ∃ (i : Nat) (acc : List UInt8) (out : List ByteArray), v6 = .int .i64 i ∧ v5 = .string (mkS acc) ∧ Hid (PrS s w i acc out v4 wr)) (fun _ _ v6 _ => s.size + 1 - (intOf v6).toNat)
        case atStart => exact ⟨1, [], [], rfl, rfl, { go := F.out, le := by omega, last := fun _ => rfl, acl := Nat.zero_le _, len := by decide, own := ⟨rfl, .inl ⟨rfl, rfl⟩⟩, below := Below.refl _ _ }⟩
        case round =>
          obtain ⟨i, acc, out, rfl, rfl, HR⟩ := hrel
          obtain ⟨wq, rfl⟩ : ∃ z : World, z = wr := ⟨_, rfl⟩
          obtain ⟨A, c, rfl, hoc⟩ := ownsRow_form HR.out.own
          have hile := HR.out.le
          have hi200 : (i : Int) ≤ 201 := by have := HS.out; omega
          by_cases hlt : i ≤ s.size
          · have hil : (i : Int) ≤ (s.size : Int) := by omega
            have hacl := HR.out.acl
            by_cases hm : i < s.size ∧ bt s i ≠ 47
            · obtain ⟨hlt2, hne⟩ := hm
              have hli : (i : Int) < (s.size : Int) := by omega
              have hbn : (bt s i != 47) = true := bne_iff_ne.2 hne
              obtain ⟨c8, hc8⟩ : ∃ c8, (bl s)[i]? = some c8 := ⟨_, List.getElem?_eq_getElem (by rw [bl_len]; exact hlt2)⟩
              have hc47 : c8 ≠ 47 := by
                intro e
                have e2 : (bl s)[i]? = some (s[i]'hlt2) := by rw [List.getElem?_eq_getElem (by rw [bl_len]; exact hlt2)]; rfl
                rw [hc8] at e2
                injection e2 with e2
                apply hne
                rw [← get_bt s i hlt2, ← e2, e]; rfl
              have hex : s.extract i (i + 1) = mkS [c8] := by
                rw [ext_mk, drop_at hc8, show i + 1 - i = 1 by omega]; rfl
              have hcat := cat_mk (P := Try.prog) acc (mkS [c8]) (by rw [mk_size]; simp; omega)
              rw [bl_mk] at hcat
              have HF : Hid (PrS s w (i + 1) (acc ++ [c8]) out (.slice A out.length c) wq) := { go := by rw [HR.out.go, pcs_step hc8 hc47], le := by omega, last := fun h => by omega, acl := by simp; omega, len := HR.out.len, own := HR.out.own, below := HR.out.below }
              have HLT : Hid (i < s.size + 1) := by simp only [Hid]; omega
              clear hne hc8 hc47 hile hacl hlt
              generalize hS1 : mkS (acc ++ [c8]) = S1 at *
              have HS1 := Lib.hid hS1
              clear hS1
              generalize mkS acc = S0 at *
              generalize mkS [c8] = SC at *
              go_wp2
              go_roundw
              case rel => exact ⟨i + 1, acc ++ [c8], out, by go_num, by rw [HS1.out], HF.out⟩
              case measure => (have := HLT.out; simp [intOf]; try omega)
            · have hbrk := pcs_brk (acc := acc) (l := bl s) (i := i) (by
                by_cases hlt2 : i < s.size
                · right
                  have hb : bt s i = 47 := by
                    rcases Decidable.em (bt s i = 47) with h | h
                    · exact h
                    · exact absurd ⟨hlt2, h⟩ hm
                  have e2 : (bl s)[i]? = some (s[i]'hlt2) := by rw [List.getElem?_eq_getElem (by rw [bl_len]; exact hlt2)]; rfl
                  rw [e2]
                  rw [← get_bt s i hlt2] at hb
                  congr 1
                  exact UInt8.toNat_inj.1 (by show _ = 47; omega)
                · left; rw [bl_len]; omega)
              have hgo := HR.out.go
              rw [hbrk] at hgo
              have HLT : Hid (i < s.size + 1) := by simp only [Hid]; omega
              have hcase : (¬ (i : Int) < (s.size : Int)) ∨ ((i : Int) < (s.size : Int) ∧ i < s.size ∧ (bt s i != 47) = false) := by
                by_cases hlt2 : i < s.size
                · right
                  refine ⟨by omega, hlt2, ?_⟩
                  rcases Decidable.em (bt s i = 47) with h | h
                  · rw [h]; decide
                  · exact absurd ⟨hlt2, h⟩ hm
                · left; omega
              have hnx : ∀ (out' : List ByteArray) (v' : Value) (w' : World), psV s = pGo out' (pcs [] ((bl s).drop (i + 1))) → out'.length ≤ 8 → w'.ownsRow w.heap.size 9 1 v' out'.length (out'.map Value.string) → Below w.heap.size w w' → PrS s w (i + 1) [] out' v' w' := fun out' v' w' h1 h2 h3 h4 => { go := h1, le := by omega, last := fun _ => rfl, acl := Nat.zero_le _, len := h2, own := h3, below := h4 }
              have HNX := Lib.hid hnx
              clear hnx hbrk hm hlt hile
              by_cases ha : acc = []
              · subst ha
                rw [if_pos rfl] at hgo
                have HF := Lib.hid (HNX.out _ _ _ hgo HR.out.len HR.out.own HR.out.below)
                have em : mkS [] = (⟨#[]⟩ : ByteArray) := rfl
                rw [em]
                clear hgo HNX
                rcases hcase with k1 | ⟨k1, k2, k3⟩
                all_goals
                  go_wp2
                  go_roundw
                  case rel => exact ⟨i + 1, [], out, by go_num, rfl, HF.out⟩
                  case measure => (have := HLT.out; simp [intOf]; try omega)
              · rw [if_neg ha] at hgo
                obtain ⟨x, hx⟩ : ∃ x, x = mkS acc := ⟨_, rfl⟩
                rw [← hx] at hgo ⊢
                have hx0 : x.size ≠ 0 := by rw [hx, mk_size]; exact fun h => ha (List.eq_nil_of_length_eq_zero h)
                have y0 := emp_ne hx0
                have y1 := emp_ne2 hx0
                have y2 := emp_ne3 hx0
                have y0' : (x.toList == []) = false := beq_eq_false_iff_ne.2 y1
                have hlen := HR.out.len
                have HOWN := Lib.hid HR.out.own
                have HBW := Lib.hid HR.out.below
                have hl8 : (out.length : Int) ≤ 8 := by omega
                have hocI : (out.length : Int) ≤ (c : Int) := by omega
                clear ha hx hx0
                by_cases x1 : x = ⟨#[46]⟩
                · subst x1
                  rw [pgo_dot] at hgo
                  have HF := Lib.hid (HNX.out _ _ _ hgo HR.out.len HR.out.own HR.out.below)
                  clear hgo HNX y0 y1 y2 y0'
                  rcases hcase with k1 | ⟨k1, k2, k3⟩
                  all_goals
                    go_wp2
                    go_roundw
                    case rel => exact ⟨i + 1, [], out, by go_num, rfl, HF.out⟩
                    case measure => (have := HLT.out; simp [intOf]; try omega)
                · obtain ⟨n1, n1'⟩ := str_ne46 x1
                  by_cases x2 : x = ⟨#[46, 46]⟩
                  · subst x2
                    rw [pgo_up] at hgo
                    have HF := Lib.hid (HNX.out _ _ _ hgo (by rw [List.length_dropLast]; omega) (ownsRow_take HOWN.out rfl) HBW.out)
                    clear hgo HNX y0 y1 y2 y0'
                    by_cases hz : out.length = 0
                    · have hz1 : ¬ (0 : Int) < (out.length : Int) := by omega
                      obtain rfl := List.eq_nil_of_length_eq_zero hz
                      have HF' : Hid (PrS s w (i + 1) [] [] (.slice A 0 c) wq) := HF.out
                      clear hz
                      rcases hcase with k1 | ⟨k1, k2, k3⟩
                      all_goals
                        go_wp2
                        go_roundw
                        case rel => exact ⟨i + 1, [], [], by go_num, rfl, HF'.out⟩
                        case measure => (have := HLT.out; simp [intOf]; try omega)
                    · have hz1 : (0 : Int) < (out.length : Int) := by omega
                      have hz2 : ((out.length : Int) - 1).toNat = out.length - 1 := by omega
                      have hz3 : (0 : Int) ≤ (out.length : Int) - 1 := by omega
                      have hz4 : (out.length : Int) - 1 ≤ (c : Int) := by omega
                      clear hz
                      rcases hcase with k1 | ⟨k1, k2, k3⟩
                      all_goals
                        go_wp2
                        go_roundw
                        case rel => exact ⟨i + 1, [], out.dropLast, by go_num, rfl, HF.out⟩
                        case measure => (have := HLT.out; simp [intOf]; try omega)
                  · obtain ⟨n2, n2'⟩ := str_ne4646 x2
                    have HNM := Lib.hid (rname_any x wq)
                    by_cases hnm : nameE x = 0
                    · rw [hnm] at HNM
                      by_cases h8 : 8 ≤ out.length
                      · rw [pgo_full x1 x2 hnm h8] at hgo
                        have HG := Lib.hid hgo
                        have h8i : 8 ≤ (out.length : Int) := by omega
                        clear hgo HNX h8 hnm
                        rcases hcase with k1 | ⟨k1, k2, k3⟩
                        all_goals
                          go_wp2_with (go_at_call 28; refine HNM.out.mono ?_; rintro e w' ⟨rfl, hw'⟩; rw [hw']; clear hw')
                          go_ret2
                          exact psPost_bad HG.out HBW.out
                      · rw [pgo_add x1 x2 hnm h8] at hgo
                        have h8i : ¬ 8 ≤ (out.length : Int) := by omega
                        have H8 : Hid (out.length < 8) := by simp only [Hid]; omega
                        have HNX2 := Lib.hid (fun v' w' h3 h4 => HNX.out (out ++ [x]) v' w' hgo (by rw [List.length_append]; simp; omega) h3 h4)
                        have HCL := Lib.hid (clone_any A out.length c out w.heap.size wq HOWN.out (by omega) HBW.out.size)
                        obtain ⟨i0, hi, hz0, hz1, hz2⟩ := info_parts info_strP
                        clear hgo HNX h8 hnm
                        rcases hcase with k1 | ⟨k1, k2, k3⟩
                        all_goals
                          go_wp2_with (first
                            | (go_at_call 28; refine HNM.out.mono ?_; rintro e w' ⟨rfl, hw'⟩; rw [hw']; clear hw')
                            | (go_at_call 73; refine HCL.out.mono ?_; rintro e w4 ⟨v4, rfl, ho4, hb4⟩; have HO4 := Lib.hid ho4; have HB4 := Lib.hid (HBW.out.trans (hb4.mono HBW.out.size)); clear ho4 hb4)
                            | (at_builtin; refine wpList_append_own _ rfl _ _ 22 rfl w.heap.size 9 i0 (.string ⟨#[]⟩) 1 16 Try.underlying22 hi hz0 hz1 hz2 rfl (by decide) _ _ _ rfl (HO4.out.alloc _) ⟨w4.heap.size, 0, none⟩ 1 1 [.string x] rfl rfl one_cell (by simp [Value.oneCell']) (by have := H8.out; unfold maxLen; omega) (by have := H8.out; omega) (by have := HB4.out.size; simp; omega) ?_; intro v5 w5 hown5 hgrow5 _; have HO5 := Lib.hid hown5; have HG5 := Lib.hid hgrow5; clear hown5 hgrow5))
                          have HF : Hid (PrS s w (i + 1) [] (out ++ [x]) v5 w5) := by
                            refine HNX2.out v5 w5 ?_ ?_
                            · rw [List.length_append, List.map_append]; exact HO5.out
                            · exact (HB4.out.alloc HB4.out.size _).grown HG5.out (by have := HB4.out.size; simp; omega) (fun k e => own_ge HO4.out k e)
                          go_roundw
                          case rel => exact ⟨i + 1, [], out ++ [x], by go_num, rfl, HF.out⟩
                          case measure => (have := HLT.out; simp [intOf]; try omega)
                    · have he : nameE x = 11 := (name_two x).resolve_left hnm
                      rw [he] at HNM
                      rw [pgo_bad x1 x2 hnm] at hgo
                      have HG := Lib.hid hgo
                      clear hgo HNX hnm he
                      rcases hcase with k1 | ⟨k1, k2, k3⟩
                      all_goals
                        go_wp2_with (go_at_call 28; refine HNM.out.mono ?_; rintro e w' ⟨rfl, hw'⟩; rw [hw']; clear hw')
                        go_ret2
                        exact psPost_bad HG.out HBW.out
          · obtain rfl : i = s.size + 1 := by omega
            have hil : ¬ ((s.size + 1 : Nat) : Int) ≤ (s.size : Int) := by omega
            have hv : psV s = (0, out) := by
              rw [HR.out.go, HR.out.last rfl, List.drop_of_length_le (by rw [bl_len]; omega), pcs_nil]; rfl
            have HV := Lib.hid hv
            clear hv hile
            go_wp2
            go_ret2
            exact ⟨A, out.length, c, by rw [HV.out]; rfl, by rw [HV.out]; exact own_strsF (Owns.of_row HR.out.own), HR.out.below⟩
      · have F := Lib.hid (ps_name h1 (.inr h2))
        have h2b : (bt s 0 != 47) = true := bne_iff_ne.2 h2
        clear h1 h0
        go_enter Try.func38, Try.ntmps38
        go_wp2
        go_ret2
        exact psPost_bad F.out (Below.refl _ _)
end Go.Proofs.Ytfhgglghofhndaa
