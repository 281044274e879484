/- huff.Lens, walked. -/
import Derived.Test.YtoncakcfibahaaaHmD
import Derived.Test.YtoncakcfibahaaaHmF
import Derived.Test.YtoncakcfibahaaaCostF
namespace Go.Proofs.Ytoncakcfibahaaa
open Go.RowKit

theorem own_one (w : World) (v : Value) (t : TypeId) : Owns (w.alloc (.cells #[v] t)) w.heap.size 1 (.slice (some ⟨w.heap.size, 0, none⟩) 1 1) 1 [v] := by
  have hh := heap_alloc_new w (.cells #[v] t)
  refine ⟨rfl, .inr ⟨w.heap.size, 0, 1, rfl, Nat.le_refl _, by simp, Nat.le_refl _, by unfold maxLen; omega, fun j u hu => ?_, fun j hj => ?_⟩⟩
  · rw [Nat.zero_add, cell_of_row _ _ _ _ _ _ hh]; simpa using hu
  · obtain rfl : j = 0 := by omega
    exact ⟨by rw [cell_of_row _ _ _ _ _ _ hh]; rfl, frozen_of_row _ _ _ _ _ hh⟩
theorem by_any (w : World) : Calls Try.prog 11 #[.func (.func 12) #[] #[]] w fun e w' => e = .returned (cmpV w.heap.size) ∧ w' = w.alloc (.cells #[.func (.func 12) #[] #[]] 38) := by
  unfold cmpV
  go_enter Try.func11, Try.ntmps11
  go_wp2
  go_ret
  exact ⟨rfl, rfl⟩
theorem cl_no {xs : List Int} {most : Int} (h : freqE xs ≠ 0) : lenE xs most = freqE xs ∧ lenE xs most ≠ 0 := by unfold lenE; rw [if_pos h]; exact ⟨rfl, h⟩
theorem cl_most {xs : List Int} {most : Int} (h : freqE xs = 0) (hm : most < 1 ∨ 15 < most) : lenE xs most = 1 := by unfold lenE; rw [if_neg (by omega), if_pos hm]
theorem cl_over {xs : List Int} {m : Nat} (h : freqE xs = 0) (hm : 1 ≤ m) (hm2 : m ≤ 15) (ho : 2 ^ m < (Ht.posL xs).length) : lenE xs (m : Int) = 6 := by
  unfold lenE; rw [if_neg (by omega), if_neg (by omega), Int.toNat_natCast, if_pos (by exact_mod_cast ho)]
theorem cl_ok {xs : List Int} {m : Nat} (h : freqE xs = 0) (hm : 1 ≤ m) (hm2 : m ≤ 15) (ho : (Ht.posL xs).length ≤ 2 ^ m) : lenE xs (m : Int) = 0 := by
  unfold lenE; rw [if_neg (by omega), if_neg (by omega), Int.toNat_natCast, if_neg (by
    have : ((Ht.posL xs).length : Int) ≤ 2 ^ m := by exact_mod_cast ho
    omega)]
set_option maxRecDepth 20000 in
set_option maxHeartbeats 2000000 in
theorem lens_any (A : Option Addr) (n c : Nat) (xs : List Int) (most : Int) (w : World) (r : RowsIn w w.heap.size A n c (fun z => [.int .i64 z]) 1 xs) :
    Calls Try.prog 4 #[.slice A n c, .int .i64 most] w (LensPost xs most w) := by
  have hlen := r.len
  obtain rfl := hlen
  have HCK := Lib.hid (hcheck_any A xs.length c xs w.heap.size w r)
  by_cases hF : freqE xs = 0
  · rw [hF] at HCK
    by_cases hm : most < 1 ∨ 15 < most
    · have F := Lib.hid (cl_most (most := most) hF hm)
      have FH := Lib.hid hF
      clear hF
      rcases hm with hm | hm
      · go_enter Try.func4, Try.ntmps4
        go_wp2_with (go_at_call 9; refine HCK.out.mono ?_; rintro e w' ⟨rfl, rfl⟩)
        go_ret2
        exact .inl ⟨by rw [F.out]; decide, by rw [F.out] <;> rfl, Below.refl _ _⟩
      · have hm1 : ¬ most < 1 := by omega
        go_enter Try.func4, Try.ntmps4
        go_wp2_with (go_at_call 9; refine HCK.out.mono ?_; rintro e w' ⟨rfl, rfl⟩)
        go_ret2
        exact .inl ⟨by rw [F.out]; decide, by rw [F.out] <;> rfl, Below.refl _ _⟩
    · obtain ⟨m, rfl⟩ : ∃ m : Nat, most = m := ⟨most.toNat, by omega⟩
      obtain ⟨hL, hX⟩ := freqE_zero hF
      have hm1 : 1 ≤ m := by omega
      have hm2 : m ≤ 15 := by omega
      have i1 : ¬ (m : Int) < 1 := by omega
      have i2 : ¬ (15 : Int) < (m : Int) := by omega
      have HX := Lib.hid hX
      have HF := Lib.hid hF
      clear hX hF hm
      go_enter Try.func4, Try.ntmps4
      go_wp2_with (go_at_call 9; refine HCK.out.mono ?_; rintro e w' ⟨rfl, rfl⟩)
      go_loopw [7, 29] (fun u v wr => ∃ (k j : Nat) (D : Option Addr) (d : Nat) (qs : List (CoinV × Ht.Coin)), u = .slice D k d ∧ v = .int .i64 j ∧ j ≤ xs.length ∧ k ≤ j ∧ Hid (CoI w (coinsK xs j) k D d qs wr)) (fun _ v _ => xs.length - (intOf v).toNat)
      case atStart => exact ⟨0, 0, none, 0, [], rfl, rfl, Nat.zero_le _, Nat.zero_le _, ⟨Owns.nil _ _ _, fun p hp => by simp at hp, rfl, Below.refl _ _, fun q hq => by simp at hq⟩⟩
      case round =>
        obtain ⟨k, j, D, d, qs, rfl, rfl, hj, hk, HI⟩ := hrel
        have hqk : qs.length = k := by
          have h1 := HI.out.own.1
          rw [coin_flat, List.length_map] at h1; omega
        have hqk2 : qs.length ≤ j := by
          have h1 := congrArg List.length HI.out.eq
          rw [List.length_map] at h1
          have := coinsK_len xs j
          omega
        by_cases hlt : j < xs.length
        · have e1 := List.getElem?_eq_getElem hlt
          have hx := HX.out xs[j] (List.getElem_mem hlt)
          generalize xs[j] = x at *
          obtain ⟨b, o, rfl, hbB, hc⟩ := (r.below HI.out.below).one e1
          have i3 : (j : Int) < (xs.length : Int) := by omega
          by_cases hx0 : 0 < x
          · have HCN := Lib.hid (coinsK_yes e1 hx0)
            have hsz := HI.out.below.size
            have G2 : Hid (∀ u ∈ (#[.int .i64 x, .slice (some ⟨wr.heap.size, 0, none⟩) 1 1] : Array Value).toList, u.oneCell' = true) := by simp [Hid, Value.oneCell']
            have G3 : Hid (k + 1 ≤ maxLen ∧ (k + 1) * 32 ≤ 140737488355328) := by unfold maxLen Hid; omega
            have G4 : Hid (0 < 2) := by simp [Hid]
            have HE1 : Hid (Owns (wr.alloc (.cells #[.int .i64 j] 3)) wr.heap.size 1 (.slice (some ⟨wr.heap.size, 0, none⟩) 1 1) 1 ((([j] : List Nat).map (fun q : Nat => (q : Int))).map (Value.int .i64))) := own_one wr (.int .i64 j) 3
            obtain ⟨X, hX⟩ : ∃ X : Nat, x = X := ⟨x.toNat, by omega⟩
            subst hX
            have HB1 : Hid (Below wr.heap.size wr (wr.alloc (.cells #[.int .i64 j] 3))) := (Below.refl _ _).alloc (Nat.le_refl _) _
            generalize hU : (qs.map (·.1)).flatMap CoinV.cells = U at *
            have HO1 : Hid (Owns (wr.alloc (.cells #[.int .i64 j] 3)) w.heap.size 2 (.slice D k d) k U) := by rw [← hU]; exact HI.out.own.alloc _
            have HSZ : Hid (w.heap.size ≤ (wr.alloc (.cells #[.int .i64 j] 3)).heap.size) := Lib.hid (by simp; omega)
            have HU := Lib.hid hU
            clear e1 hU hqk hqk2
            go_wp2_with (at_builtin; refine wpList_add1 (size := 2) (bytes := 32) (base := w.heap.size) (H := wr.heap.size + 1) (news := #[.int .i64 X, .slice (some ⟨wr.heap.size, 0, none⟩) 1 1]) rfl rfl Try.underlying32 info_coin rfl G4.out HO1.out rfl HSZ.out rfl (World.size_alloc _ _) rfl G2.out G3.out.1 G3.out.2 ?_; intro A5 c5 w10 hown10 hl10 hn10)
            have hI2 := HI.out.step HB1.out (Nat.le_refl _) HE1.out (by rw [HU.out]; exact hown10) hl10 hn10
            have HI2 := Lib.hid hI2
            clear hI2 hown10 hl10 hn10
            go_roundw
            case rel => exact ⟨k + 1, j + 1, A5, c5, _, rfl, by go_num, by omega, by omega, by rw [HCN.out]; exact HI2⟩
            case measure => (simp [intOf]; omega)
          · have HCN := Lib.hid (coinsK_no e1 hx0)
            clear e1 hqk hqk2
            go_wp2
            go_roundw
            case rel => exact ⟨k, j + 1, D, d, qs, rfl, by go_num, by omega, by omega, by rw [HCN.out]; exact HI⟩
            case measure => (simp [intOf]; omega)
        · obtain rfl : j = xs.length := by omega
          have hkp : k = (Ht.posL xs).length := by
            have h1 := congrArg List.length HI.out.eq
            rw [List.length_map] at h1
            rw [← hqk, h1, coinsK_all]; simp [Ht.sing]
          have HKP := Lib.hid hkp
          obtain ⟨M, hM⟩ : ∃ M : Nat, M = 2 ^ m := ⟨_, rfl⟩
          have hMI : (2 : Int) ^ m = (M : Int) := by rw [hM]; push_cast; rfl
          have hMb : M ≤ 32768 := by rw [hM]; exact Nat.le_trans (Nat.pow_le_pow_right (by omega) hm2) (by decide)
          have HM := Lib.hid hM
          clear hqk hqk2 hkp hM
          by_cases hov : M < k
          · have F := Lib.hid (cl_over HF.out hm1 hm2 (by rw [← HKP.out, ← HM.out]; exact hov))
            have HB := Lib.hid HI.out.below
            go_wp2
            go_ret2
            exact .inl ⟨by rw [F.out]; decide, by rw [F.out] <;> rfl, HB.out⟩
          · have F := Lib.hid (cl_ok HF.out hm1 hm2 (by rw [← HKP.out, ← HM.out]; omega))
            have hmk := mkI_run xs.length hL
            have hO := out_made wr xs.length hL
            have HI1 : Hid (CoI w (coinsK xs xs.length) k D d qs (wr.alloc (.cells (madeCells #[Value.int .i64 0] xs.length) 3))) := Lib.hid HI.out.alloc
            have HO := Lib.hid (hO.more HI.out.below.size)
            have hwO : wr.heap.size < (wr.alloc (.cells (madeCells #[Value.int .i64 0] xs.length) 3)).heap.size := by simp
            have HAP : Hid (∀ q ∈ qs, ∀ a, q.1.A = some a → a.block ≠ wr.heap.size) := fun q hq a ha e => by have := (HI.out.apart q hq a ha).2.1; omega
            have HDN : Hid (∀ b, (Value.slice D k d).ownBlock = some b → b ≠ wr.heap.size) := fun b hb e => by have := (HI.out.own.lt b hb).2; omega
            clear hO HI
            go_upto_region 16 with fail
            clear hmk
            generalize wr.alloc (.cells (madeCells #[Value.int .i64 0] xs.length) 3) = w1 at *
            generalize wr.heap.size = wO at *
            obtain ⟨wq, rfl⟩ : ∃ z : World, z = wr := ⟨_, rfl⟩
            rcases (show k = 0 ∨ k = 1 ∨ 2 ≤ k by omega) with hk0 | hk1 | hk2
            · have F2 := Lib.hid (Ht.good_zero (xs := xs) (most := m) (by rw [← HKP.out]; exact hk0))
              subst hk0
              have HB := Lib.hid HI1.out.below
              go_wp2
              go_ret2
              exact .inr ⟨F.out, _, _, _, rfl, out_ints HO.out, F2.out, HB.out⟩
            · subst hk1
              obtain ⟨i, hi⟩ := List.length_eq_one_iff.1 HKP.out.symm
              have hq : qs.map (·.2) = [((xs.getD i 0).toNat, [i])] := by
                rw [HI1.out.eq, coinsK_all]; unfold Ht.sing; rw [hi]; rfl
              obtain ⟨q, rfl⟩ : ∃ q, qs = [q] := by
                have := congrArg List.length hq
                simp at this
                exact List.length_eq_one_iff.1 this
              obtain ⟨v, y⟩ := q
              have hy : y = ((xs.getD i 0).toNat, [i]) := by simpa using hq
              subst hy
              have hr1 := Owns.rows (enc := CoinV.cells) (k := 2) (fun _ => rfl) (by decide) HI1.out.own
              obtain ⟨b, o, rfl, hbB, cx0, cx1⟩ := coinCells hr1 (i := 0) (x := v) rfl
              have hrep := HI1.out.reps _ (List.mem_singleton_self _)
              have hvn := hrep.row.len
              simp only [List.length_map, List.length_cons, List.length_nil, Nat.zero_add] at hvn
              obtain ⟨b', o', hvA, hbB', hc'⟩ := hrep.row.one (i := 0) (x := (i : Int)) rfl
              obtain ⟨vw, vA, vn, vc⟩ := v
              simp only at hvA hvn cx0 cx1
              subst hvA
              subst hvn
              have hiN := (Ht.mem_pos.1 (show i ∈ Ht.posL xs by rw [hi]; simp)).1
              obtain ⟨co, cf, _⟩ := HO.out.cell hiN
              have F2 := Lib.hid (Ht.good_one (xs := xs) hm1 hi)
              have HO2 : Hid (OutRow (w1.setCell ⟨wO, i, none⟩ (.int .i64 ((1 : Nat) : Int))) w.heap.size wO xs.length (fun x => if x = i then 1 else 0)) := HO.out.set 1 (by simp) (fun y hy => by simp [hy])
              have HB : Hid (Below w.heap.size w (w1.setCell ⟨wO, i, none⟩ (.int .i64 ((1 : Nat) : Int)))) := HI1.out.below.setCell (by have := (HO.out.lt wO rfl).1; exact this) _
              have i3 : (i : Int) < (xs.length : Int) := by omega
              have i4 : (0 : Int) ≤ (i : Int) := by omega
              simp only [Nat.zero_mul, Nat.add_zero] at cx0 cx1 hc'
              clear hi hq hr1 hrep
              go_wp2
              go_ret2
              exact .inr ⟨F.out, _, _, _, rfl, out_ints HO2.out, F2.out, HB.out⟩
            · have hr1 := Owns.rows (enc := CoinV.cells) (k := 2) (fun _ => rfl) (by decide) HI1.out.own
              have hql := hr1.len
              obtain ⟨g, off, rfl⟩ : ∃ g off, D = some ⟨g, off, none⟩ := by
                obtain ⟨g, off, e, _⟩ := coinCells hr1 (i := 0) (x := (qs.map (·.1))[0]'(by omega)) (List.getElem?_eq_getElem _)
                exact ⟨g, off, e⟩
              have hgB : g < w1.heap.size := (HI1.out.own.lt g rfl).2
              have hne : g ≠ wO := HDN.out g rfl
              have hkd := hr1.le
              have hdm := hr1.top
              have HI2 : Hid (CoI w (coinsK xs xs.length) k (some ⟨g, off, none⟩) d qs (w1.alloc (.cells #[.func (.func 12) #[] #[]] 38))) := Lib.hid HI1.out.alloc
              have HO2 : Hid (OutRow (w1.alloc (.cells #[.func (.func 12) #[] #[]] 38)) w.heap.size wO xs.length (fun _ => 0)) := Lib.hid (HO.out.alloc _)
              have hcmp : CmpOk (w1.alloc (.cells #[.func (.func 12) #[] #[]] 38)) g w1.heap.size (qs.map (·.1)) := by
                refine ⟨?_, by omega, by simp, fun v hv => ?_⟩
                · rw [cell_of_row _ _ _ _ _ _ (heap_alloc_new w1 _)]; rfl
                · obtain ⟨q, hq, rfl⟩ := List.mem_map.1 hv
                  have h1 := (HI1.out.reps q hq).worth
                  have h2 := (sml_sing HX.out (List.Perm.refl (Ht.sing xs))).worth q.2 (by rw [← coinsK_all, ← HI1.out.eq]; exact List.mem_map.2 ⟨q, hq, rfl⟩)
                  omega
              have HSS := Lib.hid (sstb_any _ g off k d w1.heap.size (qs.map (·.1)) _ (row_of_own HI2.out.own) hcmp (by omega))
              have HBY := Lib.hid (by_any w1)
              have HSD : Hid (∀ w3, StbPost (w1.alloc (.cells #[.func (.func 12) #[] #[]] 38)) g off k (qs.map (·.1)) w3 → ∃ S ps, SrtD w xs wO g off k d S ps w3) := fun w3 hs => srt_done HI2.out HO2.out HAP.out hne hkd hdm hs
              have i3 : ¬ (k : Int) < 2 := by omega
              have i4 : ((k : Int) == 1) = false := beq_eq_false_iff_ne.2 (by omega)
              have hk3 : k ≤ 320 := by omega
              clear hr1 hql hgB hcmp HI1 HO hwO hkd hdm
              go_wp2_with (first
                | (go_at_call 11; refine HBY.out.mono ?_; rintro e w' ⟨rfl, rfl⟩)
                | (go_at_call 10; refine HSS.out.mono ?_; rintro e w3 ⟨rfl, hst⟩; have HST := Lib.hid (HSD.out w3 hst); clear hst))
              obtain ⟨S, ps, hsd⟩ := HST.out
              have HSRT := Lib.hid hsd
              have hSk : S.length = k := by rw [HSRT.out.perm.length_eq, HKP.out]; simp [Ht.sing]
              have HSK := Lib.hid hSk
              have HSML := Lib.hid (sml_lst (sml_sing HX.out HSRT.out.perm))
              clear hsd HST hSk HSD HSS HBY
              go_loopw [11, 73] (fun u v wr => ∃ (t : Nat) (D : Option Addr) (nl dl : Nat) (qs : List (CoinV × Ht.Coin)), u = .slice D nl dl ∧ v = .int .i64 t ∧ t ≤ m - 1 ∧ nl ≤ 640 ∧ Hid (LsI w3 S wO t D nl dl qs wr)) (fun _ v _ => m - 1 - (intOf v).toNat)
              case atStart => exact ⟨0, _, _, _, ps, rfl, rfl, Nat.zero_le _, by omega, HSRT.out.ls⟩
              case round =>
                obtain ⟨t, D, nl, dl, ql, rfl, rfl, ht, hnl, HL⟩ := hrel
                by_cases htm : t < m - 1
                · have hll := HL.out.rows.len
                  have hsm := HSML.out t
                  rw [← HL.out.eq] at hsm
                  have ht2 : 2 ^ t ≤ 32768 := Nat.le_trans (Nat.pow_le_pow_right (by omega) (show t ≤ 15 by omega)) (by decide)
                  have HP := Lib.hid (prs_any D nl dl ql _ _ wr HL.out.rows HL.out.reps hsm (by omega) (by omega) (by omega))
                  have HB := Lib.hid HL.out.below
                  have HMG : Hid (∀ (w5 : World) (D5 : Option Addr) (d5 : Nat) (q5 : List (CoinV × Ht.Coin)), Below wr.heap.size wr w5 → Owns w5 wr.heap.size 2 (.slice D5 (nl / 2) d5) (nl / 2) ((q5.map (·.1)).flatMap CoinV.cells) → Calls Try.prog 13 #[.slice (some ⟨g, off, none⟩) k d, .slice D5 (nl / 2) d5] w5 fun e w' => ∃ D d, e = .returned (.slice D (k + nl / 2) d) ∧ Owns w' w5.heap.size 2 (.slice D (k + nl / 2) d) (k + nl / 2) ((List.merge (ps.map (·.1)) (q5.map (·.1)) leV).flatMap CoinV.cells) ∧ Below w5.heap.size w5 w') := fun w5 D5 d5 q5 hb5 ho5 => by
                    have hb := HL.out.below.trans (hb5.mono HL.out.below.size)
                    exact mrg_any _ k d _ D5 (nl / 2) d5 _ w5 ((HSRT.out.ls.on hb).rows) (Owns.rows (enc := CoinV.cells) (k := 2) (fun _ => rfl) (by decide) ho5) (by omega)
                  have HST : Hid (∀ (w5 w6 : World) (q5 : List (CoinV × Ht.Coin)) (D6 : Option Addr) (n6 d6 : Nat), Below wr.heap.size wr w5 → CReps w5 w5.heap.size q5 → q5.map (·.2) = Ht.prs (ql.map (·.2)) → (∀ q ∈ q5, ∀ a, q.1.A = some a → wr.heap.size ≤ a.block) → Owns w6 w5.heap.size 2 (.slice D6 n6 d6) n6 ((List.merge (ps.map (·.1)) (q5.map (·.1)) leV).flatMap CoinV.cells) → Below w5.heap.size w5 w6 → ∃ ps6, LsI w3 S wO (t + 1) D6 n6 d6 ps6 w6) := fun w5 w6 q5 D6 n6 d6 a b c d' e f => HSRT.out.ls.step HL.out HSRT.out.lt a b c d' e f
                  have i5 : (t : Int) < (m : Int) - 1 := by omega
                  have i6 : 1 ≤ (m : Int) := by omega
                  clear hsm ht2 hll
                  go_wp2_with (first
                    | (go_at_call 14; refine HP.out.mono ?_; rintro e w5 ⟨D5, d5, q5, rfl, ho5, hr5, he5, ha5, hb5⟩; have HO5 := Lib.hid ho5; have HR5 := Lib.hid hr5; have HE5 := Lib.hid he5; have HA5 := Lib.hid ha5; have HB5 := Lib.hid hb5; clear ho5 hr5 he5 ha5 hb5)
                    | (go_at_call 13; refine (HMG.out _ _ _ _ HB5.out HO5.out).mono ?_; rintro e w6 ⟨D6, d6, rfl, ho6, hb6⟩; have HL6 := Lib.hid (HST.out _ _ _ _ _ _ HB5.out HR5.out HE5.out HA5.out ho6 hb6); clear ho6 hb6))
                  obtain ⟨ps6, hl6⟩ := HL6.out
                  go_roundw
                  case rel => exact ⟨t + 1, D6, k + nl / 2, d6, ps6, rfl, by go_num, by omega, by omega, hl6⟩
                  case measure => (simp [intOf]; omega)
                · obtain rfl : t = m - 1 := by omega
                  have i5 : ¬ ((m - 1 : Nat) : Int) < (m : Int) - 1 := by omega
                  obtain ⟨T, hT⟩ : ∃ T : Nat, T = 2 * k - 2 := ⟨_, rfl⟩
                  have hTI : 2 * (k : Int) - 2 = (T : Int) := by omega
                  have hen := Ht.lstP_enough (most := m) HSRT.out.perm HSRT.out.srt (by rw [HSK.out]; omega) hm1 (by rw [HSK.out, ← HM.out]; omega)
                  have hll := HL.out.rows.len
                  have hlc := HL.out.rows.le
                  have hle := congrArg List.length HL.out.eq
                  rw [List.length_map] at hll hle
                  have hTn : T ≤ nl := by rw [← hll, hle, hT]; rw [HSK.out] at hen; exact hen
                  have hTc : (T : Int) ≤ (dl : Int) := by omega
                  have hT0 : (0 : Int) ≤ (T : Int) := by omega
                  have hT640 : (T : Int) ≤ 640 := by omega
                  have HFN : Hid (FnI wr w.heap.size wO xs.length (fun _ => 0) wr) := Lib.hid ⟨Owns.fresh_below HSRT.out.out HL.out.below, World.grownBy.refl wr _, Nat.lt_of_lt_of_le HSRT.out.lt HL.out.below.size⟩
                  have F2 := Lib.hid (Ht.good_two (most := m) HSRT.out.perm HSRT.out.srt (by rw [← HKP.out]; exact hk2) hm1 hm2 (by rw [← HKP.out, ← HM.out]; omega)).1
                  have HTT := Lib.hid hT
                  have HLL := Lib.hid hll
                  have HBF : Hid (Below w.heap.size w wr) := HSRT.out.below.trans (HL.out.below.mono HSRT.out.below.size)
                  have HWO : Hid (w.heap.size ≤ wO) := (HSRT.out.out.lt wO rfl).1
                  have HMEM : Hid (∀ p ∈ ql, ∀ q ∈ p.2.2, q < xs.length) := fun p hp => Ht.lstP_mem S xs.length (mem_sing HSRT.out.perm) (m - 1) p.2 (by rw [← HL.out.eq]; exact List.mem_map.2 ⟨p, hp, rfl⟩)
                  have hp2 : 2 ^ (m - 1) ≤ 32768 := Nat.le_trans (Nat.pow_le_pow_right (by omega) (show m - 1 ≤ 15 by omega)) (by decide)
                  have HFM : Hid (∀ p ∈ ql, p.2.2.length ≤ 32768) := fun p hp => by
                    have := ((HSML.out (m - 1)).len p.2 (by rw [← HL.out.eq]; exact List.mem_map.2 ⟨p, hp, rfl⟩)).2
                    omega
                  have HFL : Hid (((ql.map (·.2)).flatMap (·.2)).length ≤ 640 * 32768) := by
                    have q1 := flat_le 32768 (ql.map (·.2)) (fun y hy => by obtain ⟨p, hp, rfl⟩ := List.mem_map.1 hy; exact HFM.out p hp)
                    rw [List.length_map] at q1
                    have q2 : ql.length * 32768 ≤ 640 * 32768 := Nat.mul_le_mul_right _ (by omega)
                    exact Nat.le_trans q1 q2
                  obtain ⟨w4, rfl⟩ : ∃ z : World, z = wr := ⟨_, rfl⟩
                  clear hp2 hen hll hlc hle hT
                  go_wp2
                  go_loopw [87] (fun v wr => ∃ t : Nat, t ≤ T ∧ v = .int .i64 t ∧ Hid (FnI w4 w.heap.size wO xs.length (cntT (ql.map (·.2)) t []) wr)) (fun v _ => T - (intOf v).toNat)
                  case atStart => exact ⟨0, Nat.zero_le _, rfl, by rw [cntT_zero]; exact HFN⟩
                  case round =>
                    obtain ⟨t, htT, rfl, HFI⟩ := hrel
                    by_cases hlt : t < T
                    · have htl : t < ql.length := by rw [HLL.out]; omega
                      have e1 := List.getElem?_eq_getElem htl
                      have hpm := List.getElem_mem htl
                      generalize ql[t] = p at *
                      obtain ⟨v, y⟩ := p
                      have hrow := HFI.out.rows HL.out.rows HL.out.ne
                      obtain ⟨lb, lo, rfl, hlb, cv0, cv1⟩ := coinCells hrow (i := t) (x := v) (by rw [List.getElem?_map, e1]; rfl)
                      have hrep := HFI.out.rows (HL.out.reps _ hpm).row (HL.out.apart _ hpm)
                      have HMM := Lib.hid (HMEM.out _ hpm)
                      have HNX := Lib.hid (cntT_next (l := ql.map (·.2)) (t := t) (y := y) (by rw [List.getElem?_map, e1]; rfl))
                      obtain ⟨vw, vA, vn, vc⟩ := v
                      simp only at hrep cv0 cv1 HMM
                      have hvn := hrep.len
                      rw [List.length_map] at hvn
                      have HVN := Lib.hid hvn
                      have HRP := Lib.hid (HL.out.reps _ hpm).row
                      have HYL : Hid (y.2.length ≤ 32768) := HFM.out _ hpm
                      have HAP2 := Lib.hid (HL.out.apart _ hpm)
                      have hvc : vn ≤ maxLen := Nat.le_trans hrep.le hrep.top
                      unfold maxLen at hvc
                      have i7 : (t : Int) < (T : Int) := by omega
                      have i8 : (0 : Int) ≤ (t : Int) := by omega
                      have HF1 : Hid (FnI w4 w.heap.size wO xs.length (cntT (ql.map (·.2)) t (y.2.take 0)) (wr.alloc (.cells #[.int .i64 vw, .slice vA vn vc] 34))) := Lib.hid (HFI.out.alloc _)
                      obtain ⟨wo, rfl⟩ : ∃ z : World, z = wr := ⟨_, rfl⟩
                      clear hrow hrep hvn e1 hpm htl HFI
                      go_wp2
                      go_loopw [94] (fun v wr => ∃ s : Nat, s ≤ vn ∧ v = .int .i64 s ∧ Hid (FnI w4 w.heap.size wO xs.length (cntT (ql.map (·.2)) t (y.2.take s)) wr)) (fun v _ => vn - (intOf v).toNat)
                      case atStart => exact ⟨0, Nat.zero_le _, rfl, HF1⟩
                      case round =>
                        obtain ⟨s, hs, rfl, HFS⟩ := hrel
                        by_cases hsv : s < vn
                        · have hsl : s < y.2.length := by rw [HVN.out]; exact hsv
                          have e2 := List.getElem?_eq_getElem hsl
                          have hiN := HMM.out _ (List.getElem_mem hsl)
                          have etk : y.2.take (s + 1) = y.2.take s ++ [y.2[s]] := List.take_succ_eq_append_getElem hsl
                          generalize y.2[s] = i at *
                          have hr5 := HFS.out.rows HRP.out HAP2.out
                          obtain ⟨sb, so, rfl, hsb, hcs⟩ := hr5.one (i := s) (x := (i : Int)) (by rw [List.getElem?_map, e2]; rfl)
                          obtain ⟨co, cf, hob⟩ := HFS.out.out.cell hiN
                          obtain ⟨c6, c7⟩ := cntT_snoc (l := ql.map (·.2)) (t := t) (s := y.2.take s) (i := i)
                          have HF2 : Hid (FnI w4 w.heap.size wO xs.length (cntT (ql.map (·.2)) t (y.2.take (s + 1))) (wr.setCell ⟨wO, i, none⟩ (.int .i64 ((cntT (ql.map (·.2)) t (y.2.take s) i + 1 : Nat) : Int)))) := by rw [etk]; exact HFS.out.set _ c6 c7
                          have hcb : cntT (ql.map (·.2)) t (y.2.take s) i ≤ 1000000000000000000 := by
                            have q1 := cntT_le (ql.map (·.2)) t (y.2.take s) i
                            have q2 := HFL.out
                            have q3 : (y.2.take s).length ≤ y.2.length := by rw [List.length_take]; omega
                            have q4 := HYL.out
                            omega
                          generalize cntT (ql.map (·.2)) t (y.2.take s) i = z at *
                          have i9 : (s : Int) < (vn : Int) := by omega
                          have i10 : (i : Int) < (xs.length : Int) := by omega
                          have i11 : (0 : Int) ≤ (i : Int) := by omega
                          have i12 : (z : Int) ≤ 1000000000000000000 := by omega
                          push_cast at HF2
                          clear e2 etk hr5 c6 c7 hsl
                          go_wp2
                          go_roundw
                          case rel => exact ⟨s + 1, by omega, by go_num, HF2⟩
                          case measure => (simp [intOf]; omega)
                        · obtain rfl : s = vn := by omega
                          have HF3 : Hid (FnI w4 w.heap.size wO xs.length (cntT (ql.map (·.2)) (t + 1) []) wr) := Lib.hid (by
                            rw [HNX.out]
                            have := HFS.out
                            rwa [List.take_of_length_le (by rw [HVN.out]; exact Nat.le_refl _)] at this)
                          go_wp2
                          go_roundw
                          case rel => exact ⟨t + 1, by omega, by go_num, HF3⟩
                          case measure => (simp [intOf]; omega)
                    · obtain rfl : t = T := by omega
                      have HFE := Lib.hid HFI.out.out
                      have HBE : Hid (Below w.heap.size w wr) := Lib.hid (HBF.out.grown HFI.out.grown HBF.out.size (fun b hb => by injection hb with hb; rw [← hb]; exact HWO.out))
                      have i7 : ¬ (t : Int) < (t : Int) := by omega
                      go_wp2
                      go_ret2
                      refine .inr ⟨F.out, _, _, _, rfl, out_ints HFE.out, ?_, HBE.out⟩
                      have h2 := F2.out
                      unfold Ht.outL at h2
                      unfold outI cntT
                      rw [HL.out.eq, HTT.out, ← HSK.out]
                      simpa using h2
  · have F := Lib.hid (cl_no (most := most) hF)
    have hE2 : (freqE xs != 0) = true := bne_iff_ne.2 hF
    clear hF
    generalize freqE xs = E at *
    go_enter Try.func4, Try.ntmps4
    go_wp2_with (go_at_call 9; refine HCK.out.mono ?_; rintro e w' ⟨rfl, rfl⟩)
    go_ret2
    exact .inl ⟨F.out.2, by rw [F.out.1] <;> rfl, Below.refl _ _⟩
end Go.Proofs.Ytoncakcfibahaaa
