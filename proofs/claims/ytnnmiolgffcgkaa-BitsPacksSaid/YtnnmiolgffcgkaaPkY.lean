/- linenref.Pack, walked. -/
import Derived.Test.YtnnmiolgffcgkaaPkX
namespace Go.Proofs.Ytnnmiolgffcgkaa
open Go.RowKit Go.PlainAid

theorem snoc_i64 {L : List Int} {x : Int} : L.map (Value.int .i64) ++ (#[Value.int .i64 x] : Array Value).toList = (L ++ [x]).map (Value.int .i64) := by simp

theorem flat_intsP (xs : List Int) : xs.flatMap (fun z => [Value.int .i64 z]) = xs.map (Value.int .i64) := by
  induction xs with
  | nil => rfl
  | cons x r ih => rw [List.flatMap_cons, ih]; rfl
theorem own_intsP {w : World} {base n c : Nat} {A : Option Addr} {xs : List Int} (h : Owns w base 1 (.slice A n c) n (xs.map (Value.int .i64))) : RowsIn w w.heap.size A n c (fun z => [.int .i64 z]) 1 xs := by
  rw [← flat_intsP] at h; exact h.rows (enc := fun z => [Value.int .i64 z]) (k := 1) (fun _ => rfl) Nat.one_pos
set_option maxRecDepth 20000 in
set_option maxHeartbeats 2000000 in
theorem packr_any (A : Option Addr) (n c : Nat) (l : List Piece) (w : World) (r : RowsIn w w.heap.size A n c Piece.cells 2 l) (hok : ∀ z ∈ l, Piece.ok z) (hs : c * 16 ≤ 140737488351232) :
    Calls Try.prog 16 #[.slice A n c] w (PkPost l w) := by
  have hn := r.len
  subst hn
  have htop : l.length ≤ 8796093021952 := by have h1 := r.le; omega
  obtain ⟨J, hJ, hg, hb, he⟩ := pk_first l
  have HG := Lib.hid hg
  have HB := Lib.hid hb
  have HE := Lib.hid he
  have HOK := Lib.hid hok
  have R := Lib.hid r
  clear hg hb he hok r
  go_enter Try.func16, Try.ntmps16
  go_wp2
  go_loopw [4, 6, 13] (fun v4 _ v13 wr => ∃ i : Nat, i ≤ J ∧ v13 = .int .i64 i ∧ v4 = .int .i64 (pkW (l.take i)) ∧ pkW (l.take i) ≤ 64 * i ∧ Hid (Below w.heap.size w wr)) (fun _ _ v13 _ => l.length - (intOf v13).toNat)
  case atStart => exact ⟨0, Nat.zero_le _, rfl, by simp [pkW], by simp [pkW], Below.refl _ _⟩
  case round =>
    obtain ⟨i, hi, rfl, rfl, ht, HBW⟩ := hrel
    obtain ⟨wq, rfl⟩ : ∃ z : World, z = wr := ⟨_, rfl⟩
    by_cases hlt : i < J
    · obtain ⟨p, e1, hw, hf⟩ := HG.out i hlt
      have i1 := decide_eq_true (show i < l.length by omega)
      have i1i : (i : Int) < (l.length : Int) := by omega
      obtain ⟨b, o, rfl, hbB, k0, k1⟩ := pieceCells (R.out.below HBW.out) e1
      have HT := Lib.hid (pkW_take e1)
      obtain ⟨v0, v1, _, _⟩ := pieceVal (HOK.out p (List.mem_of_getElem? e1))
      have hf' : p.Val < 2 ^ p.Width.toNat := hf
      obtain ⟨hw0, hw1⟩ := hw
      clear hf
      generalize p.Val = V at *
      generalize p.Width = X at *
      obtain ⟨x, rfl⟩ := Int.eq_ofNat_of_zero_le hw0
      rw [Int.toNat_natCast] at hf'
      have hdec := decide_eq_true hf'
      have HBX := Lib.hid HBW.out.size
      have HN : Hid (pkW (l.take i) + x ≤ 64 * (i + 1)) := by simp only [Hid]; omega
      have d1 := decide_eq_false (show ¬ (x : Int) < 0 by omega)
      have d2 := decide_eq_false (show ¬ (64 : Int) < (x : Int) by omega)
      have HB2 : Hid (Below w.heap.size w (wq.alloc (.cells #[.int .u64 V, .int .i64 (x : Int)] 77))) := HBW.out.alloc (HBW.out.size) _
      have HSB := Lib.hid HB2.out.size
      rw [Int.toNat_natCast] at HT
      generalize pkW (l.take i) = T at *
      have HF := Lib.hid (fits_any V x (wq.alloc (.cells #[.int .u64 V, .int .i64 (x : Int)] 77)) v0 v1 (by omega))
      rw [hdec] at HF
      clear e1 hf' hdec
      go_wp2_with (go_at_call 59; refine HF.out.mono ?_; rintro e w6 ⟨rfl, hb6⟩; obtain ⟨_, k6, _⟩ := kept2 hb6; have HB6 := Lib.hid (HB2.out.trans (hb6.mono HSB.out)))
      refine ⟨⟨i + 1, by omega, by go_num, ?_, ?_, HB6.out⟩, ?_⟩
      · rw [HT.out]; go_num
      · rw [HT.out]; exact HN.out
      · simp [intOf]; omega
    · obtain rfl : i = J := by omega
      by_cases hend : i < l.length
      · obtain ⟨p, e1, hbad⟩ := HB.out hend
        have i1 := decide_eq_true hend
        have i1i : (i : Int) < (l.length : Int) := by omega
        obtain ⟨b, o, rfl, hbB, k0, k1⟩ := pieceCells (R.out.below HBW.out) e1
        obtain ⟨v0, v1, _, _⟩ := pieceVal (HOK.out p (List.mem_of_getElem? e1))
        have HB2 : Hid (Below w.heap.size w (wq.alloc (.cells #[.int .u64 p.Val, .int .i64 p.Width] 77))) := HBW.out.alloc (HBW.out.size) _
        have HSB := Lib.hid HB2.out.size
        rcases hbad with ⟨hw, hp⟩ | ⟨hw, hf, hp⟩
        · have F := Lib.hid (pkR_bad hp (by decide))
          have hw' : p.Width < 0 ∨ (0 ≤ p.Width ∧ 64 < p.Width) := by unfold PWide at hw; omega
          clear hw hp e1
          generalize p.Val = V at *
          generalize p.Width = X at *
          rcases hw' with h | ⟨h, h'⟩
          · have d1 := decide_eq_true h
            go_wp2
            go_ret2
            exact ⟨by rw [F.out]; rfl, HB2.out⟩
          · have d1 := decide_eq_false (show ¬ X < 0 by omega)
            have d2 := decide_eq_true h'
            go_wp2
            go_ret2
            exact ⟨by rw [F.out]; rfl, HB2.out⟩
        · have F := Lib.hid (pkR_bad hp (by decide))
          obtain ⟨hw0, hw1⟩ := hw
          have hf' : ¬ p.Val < 2 ^ p.Width.toNat := hf
          clear hf hp e1
          generalize p.Val = V at *
          generalize p.Width = X at *
          obtain ⟨x, rfl⟩ := Int.eq_ofNat_of_zero_le hw0
          rw [Int.toNat_natCast] at hf'
          have hdec := decide_eq_false hf'
          have HF := Lib.hid (fits_any V x (wq.alloc (.cells #[.int .u64 V, .int .i64 (x : Int)] 77)) v0 v1 (by omega))
          rw [hdec] at HF
          have d1 := decide_eq_false (show ¬ (x : Int) < 0 by omega)
          have d2 := decide_eq_false (show ¬ (64 : Int) < (x : Int) by omega)
          clear hf' hdec
          go_wp2_with (go_at_call 59; refine HF.out.mono ?_; rintro e w6 ⟨rfl, hb6⟩; obtain ⟨_, k6, _⟩ := kept2 hb6; have HB6 := Lib.hid (HB2.out.trans (hb6.mono HSB.out)))
          go_ret2
          exact ⟨by rw [F.out]; rfl, HB6.out⟩
      · have hE := HE.out (by omega)
        have hie : i = l.length := by omega
        have hTW : pkW (l.take i) = pkW l := by rw [List.take_of_length_le (by omega)]
        rw [hTW] at ht ⊢
        have i1 := decide_eq_false hend
        have i1i : ¬ (i : Int) < (l.length : Int) := by omega
        by_cases hbig : 65536 < pkW l
        · have F := Lib.hid (pkR_large hE hbig)
          have d1 := decide_eq_true (show (65536 : Int) < (pkW l : Int) by omega)
          have d2 := decide_eq_true hbig
          generalize pkW l = T at *
          clear hE hie hTW
          go_wp2
          go_ret2
          exact ⟨by rw [F.out]; rfl, HBW.out⟩
        · have F := Lib.hid (pkR_ok hE hbig)
          have d1 := decide_eq_false (show ¬ (65536 : Int) < (pkW l : Int) by omega)
          have d2 := decide_eq_false hbig
          have HBIG : Hid (pkW l ≤ 65536) := by simp only [Hid]; omega
          have HTK : Hid (pkB (l.take l.length) = pkB l) := by simp only [Hid]; rw [List.take_length]
          have HLEN : Hid (∀ k, (pkB (l.take k)).length ≤ pkW l) := fun k => by rw [pkB_len]; exact pkW_mono l k
          have HIE := Lib.hid hie
          have HSZ := Lib.hid HBW.out.size
          generalize hTT : pkW l = T at *
          have HTT := Lib.hid hTT
          clear hE hie hTW hTT
          go_wp2
          go_loopw [7, 9, 10, 37] (fun v7 _ _ v37 wr => ∃ (k : Nat) (A' : Option Addr) (c' : Nat), k ≤ l.length ∧ v37 = .int .i64 k ∧ v7 = .slice A' (pkB (l.take k)).length c' ∧ Hid (Owns wr w.heap.size 1 (.slice A' (pkB (l.take k)).length c') (pkB (l.take k)).length ((pkB (l.take k)).map (Value.int .i64))) ∧ Hid (Below w.heap.size w wr)) (fun _ _ _ v37 _ => l.length - (intOf v37).toNat)
          case atStart => exact ⟨0, none, 0, Nat.zero_le _, rfl, rfl, Owns.nil _ _ _, HBW.out⟩
          case round =>
            obtain ⟨k, A', c', hk, rfl, rfl, HO, HBS⟩ := hrel
            obtain ⟨wz, rfl⟩ : ∃ z : World, z = wr := ⟨_, rfl⟩
            by_cases hlt : k < l.length
            · obtain ⟨p, e1, hw, hf⟩ := HG.out k (by have := HIE.out; omega)
              have j1 := decide_eq_true hlt
              have j1i : (k : Int) < (l.length : Int) := by omega
              obtain ⟨b, o, rfl, hbB, m0, m1⟩ := pieceCells (R.out.below HBS.out) e1
              obtain ⟨v0, v1, _, _⟩ := pieceVal (HOK.out p (List.mem_of_getElem? e1))
              have HPT := Lib.hid (pkB_take e1)
              have HLK := Lib.hid (HLEN.out (k + 1))
              obtain ⟨hw0, hw1⟩ := hw
              clear hf
              generalize p.Val = V at *
              generalize p.Width = X at *
              obtain ⟨x, rfl⟩ := Int.eq_ofNat_of_zero_le hw0
              rw [Int.toNat_natCast] at HPT
              have HOA := Lib.hid (HO.out.alloc (.cells #[.int .u64 V, .int .i64 (x : Int)] 77))
              have HBA := Lib.hid (HBS.out.alloc HBS.out.size (.cells #[.int .u64 V, .int .i64 (x : Int)] 77))
              rw [HPT.out] at HLK
              generalize pkB (l.take k) = P at *
              have HP0 : Hid (P ++ pbits V 0 = P) := by simp [Hid, pbits]
              have HLX : Hid (P.length + x ≤ 65536) := by
                have h1 := HLK.out; rw [List.length_append, pbits_len] at h1
                have h2 := HBIG.out; have h3 := HTT.out
                simp only [Hid]; omega
              clear e1 HLK hw0 HO HBS
              go_wp2
              go_loopw [7, 10, 45] (fun v7 v10 v45 wi => ∃ (j : Nat) (A2 : Option Addr) (c2 : Nat) (u : Int), j ≤ x ∧ v45 = .int .i64 j ∧ v10 = .int .u64 u ∧ Hid (u = V / 2 ^ j) ∧ 0 ≤ u ∧ u < 18446744073709551616 ∧ v7 = .slice A2 (P ++ pbits V j).length c2 ∧ Hid (Owns wi w.heap.size 1 (.slice A2 (P ++ pbits V j).length c2) (P ++ pbits V j).length ((P ++ pbits V j).map (Value.int .i64))) ∧ Hid (Below w.heap.size w wi)) (fun _ _ v45 _ => x - (intOf v45).toNat)
              case atStart => exact ⟨0, A', c', V, Nat.zero_le _, rfl, rfl, by simp [Hid], v0, v1, by rw [HP0.out], by rw [HP0.out]; exact HOA.out, HBA.out⟩
              case round =>
                clear HOA HBA
                obtain ⟨j, A2, c2, u, hj, rfl, rfl, HU, hu0, hu1, rfl, HOI, HBI⟩ := hrel
                obtain ⟨wy, rfl⟩ : ∃ z : World, z = wr := ⟨_, rfl⟩
                by_cases hjx : j < x
                · have y1 : (j : Int) < (x : Int) := by omega
                  have ht1 : u.tdiv 2 = u / 2 := Int.tdiv_eq_ediv_of_nonneg hu0
                  have ht2 : u.tmod 2 = u % 2 := Int.tmod_eq_emod_of_nonneg hu0
                  have HN : Hid (u / 2 = V / 2 ^ (j + 1)) := by show _ = _; rw [HU.out, div_pow_pow V j 1 |>.symm]; rfl
                  have HSN : Hid (P ++ pbits V (j + 1) = (P ++ pbits V j) ++ [u % 2]) := by show _ = _; rw [pbits_snoc, HU.out, List.append_assoc]
                  have hsz := HBI.out.size
                  have HL2 : Hid ((P ++ pbits V j).length + 1 ≤ 65536) := by
                    have h1 := HLX.out
                    show _ ≤ _
                    rw [List.length_append, pbits_len]; omega
                  generalize P ++ pbits V j = Q at *
                  have hq := HL2.out
                  go_wp2_with (at_builtin; refine wpList_add1 rfl rfl Try.underlying32 info_i64c rfl (Nat.le_refl 1) HOI.out rfl hsz rfl rfl rfl ?_ ?_ ?_ ?_; simp [Value.oneCell']; (unfold maxLen; omega); omega; intro A3 c3 w3 hown3 hl3 hbk3; have HO3 := Lib.hid hown3; have HB3 := Lib.hid (hl3.below (Nat.le_refl _) HBI.out); clear hown3 hl3 hbk3)
                  go_roundw
                  case rel => exact ⟨j + 1, A3, c3, u / 2, by omega, by go_num, rfl, HN.out, by omega, by omega, by rw [HSN.out, List.length_append]; rfl, by rw [HSN.out, ← snoc_i64, List.length_append]; exact HO3.out, HB3.out⟩
                  case measure => (simp [intOf]; try omega)
                · obtain rfl : j = x := by omega
                  have y1 : ¬ (j : Int) < (j : Int) := by omega
                  rw [← HPT.out] at HOI ⊢
                  go_wp2
                  go_roundw
                  case rel => exact ⟨k + 1, A2, c2, by omega, by go_num, rfl, HOI.out, HBI.out⟩
                  case measure => (simp [intOf]; try omega)
            · obtain rfl : k = l.length := by omega
              have j1 := decide_eq_false (Nat.lt_irrefl l.length)
              rw [HTK.out] at HO ⊢
              have HTX := Lib.hid (text_any A' (pkB l).length c' (pkB l) wz (own_intsP HO.out) (pkB_bits l) (by rw [pkB_len, HTT.out]; exact HBIG.out))
              have HBT := Lib.hid (fun (w' : World) (h : Below wz.heap.size wz w') => HBS.out.trans (h.mono HBS.out.size))
              clear HO HBS
              generalize (pkB l).length = q at *
              go_wp2_with (go_at_call 60; refine HTX.out.mono ?_; rintro e w' ⟨rfl, hb2⟩)
              go_ret2
              exact ⟨by rw [F.out]; rfl, HBT.out _ hb2⟩
end Go.Proofs.Ytnnmiolgffcgkaa
