/- glob.Match, walked. -/
import Derived.Test.YtgidfmdbaimcnaaDoorGbO
import Derived.Test.YtgidfmdbaimcnaaDoorHeld
namespace Go.Proofs.YtgidfmdbaimcnaaDoor
open Go.RowKit Go.Shelf Go.PlainAid

theorem parts_no (s : ByteArray) (hs : s.size ≤ 4096) (w : World) (hT : TabsR w) (h : ptsR (sgs s) = none) : Calls Tryd.prog 6 #[.string s] w fun e w' => e = .returned (.tuple #[.slice none 0 0, .bool false]) ∧ Below w.heap.size w w' := by
  refine (parts_any s hs w hT).mono ?_
  rintro e w' ⟨hb, (⟨_, rfl⟩ | ⟨pcs, D, d, h2, _⟩)⟩
  · exact ⟨rfl, hb⟩
  · rw [h] at h2; cases h2
theorem parts_yes (s : ByteArray) (hs : s.size ≤ 4096) (w : World) (hT : TabsR w) {pcs : List Pc} (h : ptsR (sgs s) = some pcs) : Calls Tryd.prog 6 #[.string s] w fun e w' => ∃ D d, e = .returned (.tuple #[.slice D pcs.length d, .bool true]) ∧ PtsAt spn w' w'.heap.size D pcs.length d pcs ∧ Below w.heap.size w w' := by
  refine (parts_any s hs w hT).mono ?_
  rintro e w' ⟨hb, (⟨h2, _⟩ | ⟨pcs', D, d, h2, rfl, h3⟩)⟩
  · rw [h] at h2; cases h2
  · rw [h] at h2; cases h2; exact ⟨D, d, rfl, h3, hb⟩
theorem pts_len : ∀ (f : Nat) (l : List Int) (pcs : List Pc), pts f l = some pcs → pcs.length ≤ l.length
  | 0, _, _, h => by simp [pts] at h
  | f + 1, l, pcs, h => by
    have go : ∀ (r : List Int) (x : Pc), r.length < l.length → (pts f r).map (x :: ·) = some pcs → pcs.length ≤ l.length := fun r x hr hm => by
      cases hq : pts f r with
      | none => rw [hq] at hm; cases hm
      | some q =>
        rw [hq] at hm
        injection hm with hm
        have := pts_len f r q hq
        rw [← hm, List.length_cons]; omega
    simp only [pts] at h
    split at h
    · injection h with h; rw [← h]; simp
    · cases hn : nx l with
      | none => rw [hn] at h; cases h
      | some y =>
        obtain ⟨c, pl, r⟩ := y
        rw [hn] at h
        have hl := (nx_len hn).1
        simp only at h
        split at h
        · exact go _ _ hl h
        split at h
        · exact go _ _ hl h
        split at h
        · exact go _ _ hl h
        split at h
        · cases hc : clsR [] (unbang r) with
          | none => rw [hc] at h; cases h
          | some z =>
            obtain ⟨sp, r2⟩ := z
            rw [hc] at h
            have h2 := (cls_len _ _ _ _ _ hc).1
            have h3 := unbang_len r
            exact go _ _ (by omega) h
        · exact go _ _ hl h
theorem msr_eq {L T a b c a' b' c' : Nat} (h1 : a = a') (h2 : b = b') (h3 : c = c') : msr L T a b c = msr L T a' b' c' := by rw [h1, h2, h3]
def MtPost (b : Bool) (z : Int) (w : World) (e : Ending) (w' : World) : Prop := e = .returned (.tuple #[.bool b, .int .i64 z]) ∧ Below w.heap.size w w'
set_option maxRecDepth 100000 in
set_option maxHeartbeats 2000000 in
theorem match_any (p s : ByteArray) (w : World) (hT : TabsR w) : Calls Tryd.prog 4 #[.string p, .string s] w (MtPost (gbV p s).1 (gbV p s).2 w) := by
  have h2 := tabs_size hT
  by_cases h1 : 40 < p.size
  · rw [show gbV p s = (false, 2) by unfold gbV; rw [if_pos (.inl h1)]]
    have k1 : (40 : Int) < (p.size : Int) := by omega
    clear h1 hT h2
    go_enter Tryd.func4, Tryd.ntmps4
    go_wp2
    go_ret2
    exact ⟨rfl, Below.refl _ _⟩
  have k1 : ¬ (40 : Int) < (p.size : Int) := by omega
  by_cases h3 : 40 < s.size
  · rw [show gbV p s = (false, 2) by unfold gbV; rw [if_pos (.inr h3)]]
    have k2 : (40 : Int) < (s.size : Int) := by omega
    clear h1 hT h2 h3
    go_enter Tryd.func4, Tryd.ntmps4
    go_wp2
    go_ret2
    exact ⟨rfl, Below.refl _ _⟩
  have k2 : ¬ (40 : Int) < (s.size : Int) := by omega
  cases hp : ptsR (sgs p) with
  | none =>
    rw [show gbV p s = (false, 4) by unfold gbV; rw [if_neg (by omega), hp]]
    have HP := Lib.hid (parts_no p (by omega) w hT hp)
    clear h1 h2 h3 hT hp
    go_enter Tryd.func4, Tryd.ntmps4
    go_wp2_with (go_at_call 6; refine HP.out.mono ?_; rintro e w1 ⟨rfl, h1⟩; have HB := Lib.hid h1; clear h1)
    go_ret2
    exact ⟨rfl, HB.out⟩
  | some pcs =>
    rw [show gbV p s = (mt pcs (sgs s), 0) by unfold gbV; rw [if_neg (by omega), hp]]
    have HP := Lib.hid (parts_yes p (by omega) w hT hp)
    have hlen := sgs_len _ s (Nat.le_refl _)
    have HL : Hid (∀ w1, Below w.heap.size w w1 → Calls Tryd.prog 7 #[.string s] w1 (LsPost s w1)) := fun w1 hb => list_any s (by omega) w1 (tabs_below hb h2 hT)
    unfold LsPost at HL
    obtain ⟨t, ht⟩ : ∃ t, sgs s = t := ⟨_, rfl⟩
    rw [ht] at HL hlen ⊢
    obtain ⟨T, hTl⟩ : ∃ T, t.length = T := ⟨_, rfl⟩
    obtain ⟨L, hLl⟩ : ∃ L, pcs.length = L := ⟨_, rfl⟩
    have hLs : L ≤ 4096 := by have e1 := pts_len _ _ _ hp; have e2 := (sgs_len _ p (Nat.le_refl _)).1; omega
    have hTs : T ≤ 40 := by omega
    rw [hLl] at HP
    rw [hTl] at HL
    have HTL := Lib.hid hTl
    have HLL := Lib.hid hLl
    clear ht hlen hTl hLl hp h1 h2 h3 hT
    go_enter Tryd.func4, Tryd.ntmps4
    go_wp2_with (first
      | (go_at_call 6; refine HP.out.mono ?_; rintro e w1 ⟨D, d, rfl, g1, g2⟩; have HPT := Lib.hid g1; have HB1 := Lib.hid g2; clear g1 g2)
      | (go_at_call 7; refine (HL.out _ HB1.out).mono ?_; rintro e w2 ⟨E, q, rfl, g1, _, g2⟩; have HTX := Lib.hid g1; have HPT2 := Lib.hid ((HPT.out.below g2).more g2.size); have HB2 := Lib.hid (HB1.out.trans (g2.mono HB1.out.size)); clear g1 g2))
    have I0 : Hid (Gr pcs t 0 0 0 0) := gr_start
    go_loopw [9, 10, 11, 12] (fun v9 v10 v11 v12 wr => ∃ i k st fr : Nat, v9 = .int .i64 i ∧ v10 = .int .i64 k ∧ v11 = .int .i64 ((st : Int) - 1) ∧ v12 = .int .i64 fr ∧ Hid (Gr pcs t i k st fr) ∧ Hid (Below w2.heap.size w2 wr)) (fun _ v10 v11 v12 _ => msr L T (intOf v10).toNat (intOf v11 + 1).toNat (intOf v12).toNat)
    case atStart => exact ⟨0, 0, 0, 0, rfl, rfl, rfl, rfl, I0, Below.refl _ _⟩
    case round =>
      obtain ⟨i, k, st, fr, rfl, rfl, rfl, rfl, HG, HW⟩ := hrel
      obtain ⟨wq, rfl⟩ : ∃ z : World, z = wr := ⟨_, rfl⟩
      have hi := HG.out.hi
      have hk := HG.out.hk
      rw [HLL.out] at hi
      rw [HTL.out] at hk
      by_cases hkT : k < T
      · have hkc : (k : Int) < (T : Int) := by omega
        obtain ⟨c, hc⟩ : ∃ c, t[k]? = some c := ⟨_, List.getElem?_eq_getElem (by have := HTL.out; omega)⟩
        obtain ⟨gt, ot, rfl, hgt, hct⟩ := (HTX.out.below HW.out).one hc
        by_cases hiL : i < L
        · have hic : (i : Int) < (L : Int) := by omega
          obtain ⟨pc, hpc⟩ : ∃ pc, pcs[i]? = some pc := ⟨_, List.getElem?_eq_getElem (by have := HLL.out; omega)⟩
          obtain ⟨gp, op, A, cA, rfl, hgp, c0, c1, c2, hsp⟩ := (HPT2.out.below HW.out).get hpc
          obtain ⟨ru, ng, sp⟩ := pc
          simp only at c0 c1 c2 hsp
          cases ru with
          | true =>
            have hG2 := gr_star HG.out hpc rfl
            have HG2 := Lib.hid hG2
            clear hc hpc hsp hG2
            go_wp2
            go_roundw
            case rel => exact ⟨i + 1, k, i + 1, k, by go_num, rfl, val_int (by omega), rfl, HG2, HW⟩
            case measure => exact Nat.lt_of_le_of_lt (Nat.le_of_eq (msr_eq (by simp [intOf]) (by simp [intOf]) (by simp [intOf]))) (Nat.lt_of_lt_of_le (msr_star (L := L) (T := T) (i := i) (k := k) (st := st) (fr := fr) hiL (by have := HG.out.si; omega)) (Nat.le_of_eq (msr_eq (by simp [intOf]) (by simp [intOf]) (by simp [intOf]))))
          | false =>
            have HTK : Hid (∀ W, Below wq.heap.size wq W → Calls Tryd.prog 8 #[.agg #[.bool false, .bool ng, .slice A sp.length cA], .int .i32 c] W fun e w' => e = .returned (.bool (hitP ⟨false, ng, sp⟩ c)) ∧ Below W.heap.size W w') := fun W hW => takes_any ⟨false, ng, sp⟩ A cA c W ((hsp.below (hW.mono HW.out.size)).more (Nat.le_trans HW.out.size hW.size))
            have hgp2 : gp < wq.heap.size := by have := HW.out.size; omega
            have hgt2 : gt < wq.heap.size := by have := HW.out.size; omega
            have hS : wq.cell? ⟨gp, op + i * 3, none⟩ = some (.bool false) ∧ wq.cell? ⟨gp, op + i * 3 + 1, none⟩ = some (.bool ng) ∧ wq.cell? ⟨gp, op + i * 3 + 2, none⟩ = some (.slice A sp.length cA) ∧ wq.cell? ⟨gt, ot + k, none⟩ = some (.int .i32 c) ∧ wq.heap.size ≤ wq.heap.size ∧ Below wq.heap.size wq wq := ⟨c0, c1, c2, hct, Nat.le_refl _, Below.refl _ _⟩
            have HPC := Lib.hid hpc
            have HC := Lib.hid hc
            have p0 : (0 : Int) ≤ (i : Int) := by omega
            have p1 : (0 : Int) ≤ (k : Int) := by omega
            cases hh : hitP ⟨false, ng, sp⟩ c with
            | true =>
              have HG2 := Lib.hid (gr_take HG.out hpc rfl hc hh)
              rw [hh] at HTK
              clear hc hpc hsp hh
              go_wp2
              go_region_held3 (fun W => W.cell? ⟨gp, op + i * 3, none⟩ = some (.bool false) ∧ W.cell? ⟨gp, op + i * 3 + 1, none⟩ = some (.bool ng) ∧ W.cell? ⟨gp, op + i * 3 + 2, none⟩ = some (.slice A sp.length cA) ∧ W.cell? ⟨gt, ot + k, none⟩ = some (.int .i32 c) ∧ wq.heap.size ≤ W.heap.size ∧ Below wq.heap.size wq W)
                (first | assumption | exact keepc4d (by assumption) | exact keepc4b hgp2 hgp2 hgp2 hgt2 (by assumption) (by assumption))
                ((go_at_call 8; refine (HTK.out _ (keepc4w (by assumption))).mono ?_; rintro e w' ⟨rfl, hb⟩))
              all_goals
                rename_i hHeld
                have HB := Lib.hid (keepc4w hHeld)
                clear hHeld hS
                go_wp2
                go_roundw
                case rel => exact ⟨i + 1, k + 1, st, fr, by go_num, by go_num, rfl, rfl, HG2, HW.out.trans (HB.out.mono HW.out.size)⟩
                case measure => exact Nat.lt_of_le_of_lt (Nat.le_of_eq (msr_eq (by simp [intOf]) (by simp [intOf]) (by simp [intOf]))) (Nat.lt_of_lt_of_le (msr_take (L := L) (T := T) (k := k) (st := st) (fr := fr) hkT) (Nat.le_of_eq (msr_eq (by simp [intOf]) (by simp [intOf]) (by simp [intOf]))))
            | false =>
              have hno := mt_no_hit (l := pcs) (t := t) hpc rfl hc hh
              have HNO := Lib.hid hno
              rw [hh] at HTK
              clear hc hpc hsp hh hno
              go_wp2
              go_region_held3 (fun W => W.cell? ⟨gp, op + i * 3, none⟩ = some (.bool false) ∧ W.cell? ⟨gp, op + i * 3 + 1, none⟩ = some (.bool ng) ∧ W.cell? ⟨gp, op + i * 3 + 2, none⟩ = some (.slice A sp.length cA) ∧ W.cell? ⟨gt, ot + k, none⟩ = some (.int .i32 c) ∧ wq.heap.size ≤ W.heap.size ∧ Below wq.heap.size wq W)
                (first | assumption | exact keepc4d (by assumption) | exact keepc4b hgp2 hgp2 hgp2 hgt2 (by assumption) (by assumption))
                ((go_at_call 8; refine (HTK.out _ (keepc4w (by assumption))).mono ?_; rintro e w' ⟨rfl, hb⟩))
              all_goals
                rename_i hHeld
                have HB := Lib.hid (keepc4w hHeld)
                clear hHeld hS
                by_cases hst : st = 0
                · have F : Hid (mt pcs t = false) := gr_none HG.out hst HNO.out
                  have q1 : ¬ (1 : Int) ≤ (st : Int) := by omega
                  have q2 : ¬ (0 : Int) ≤ (st : Int) - 1 := by omega
                  clear hst
                  go_wp2
                  go_ret2
                  exact ⟨by rw [F.out] <;> rfl, HB2.out.trans ((HW.out.trans (HB.out.mono HW.out.size)).mono HB2.out.size)⟩
                · have HG2 := Lib.hid (gr_back HG.out hst (by have := HTL.out; omega) HNO.out)
                  have hfk := HG.out.fk
                  have hsi := HG.out.si
                  have hfr : fr < T := by omega
                  have q1 : (1 : Int) ≤ (st : Int) := by omega
                  have q2 : (0 : Int) ≤ (st : Int) - 1 := by omega
                  have q3 : (st : Int) ≤ 4096 := by omega
                  have q4 : (fr : Int) ≤ 4096 := by omega
                  have q5 : wrap64 ((st : Int) - 1 + 1) = (st : Int) := by unfold wrap64; omega
                  clear hst hfk hsi
                  go_wp2
                  go_roundw
                  case rel => exact ⟨st, fr + 1, st, fr + 1, rfl, by go_num, rfl, by go_num, HG2, HW.out.trans (HB.out.mono HW.out.size)⟩
                  case measure => exact Nat.lt_of_le_of_lt (Nat.le_of_eq (msr_eq (by simp [intOf]) (by simp [intOf]) (by simp [intOf]))) (Nat.lt_of_lt_of_le (msr_back (L := L) (T := T) (k := k) (st := st) (fr := fr) hfr) (Nat.le_of_eq (msr_eq (by simp [intOf]) (by simp [intOf]) (by simp [intOf]))))
        · have hic : ¬ (i : Int) < (L : Int) := by omega
          have HNO : Hid (mt (pcs.drop i) (t.drop k) = false) := mt_no_end (by have := HLL.out; omega) (by have := HTL.out; omega)
          clear hc hct
          go_wp2
          go_quiet (fail)
          have HB : Hid (Below wq.heap.size wq (wq.drewN nq)) := below_drewN (Below.refl _ _) nq
          by_cases hst : st = 0
          · have F : Hid (mt pcs t = false) := gr_none HG.out hst HNO.out
            have q1 : ¬ (1 : Int) ≤ (st : Int) := by omega
            have q2 : ¬ (0 : Int) ≤ (st : Int) - 1 := by omega
            clear hst
            go_wp2
            go_ret2
            exact ⟨by rw [F.out] <;> rfl, HB2.out.trans ((HW.out.trans (HB.out.mono HW.out.size)).mono HB2.out.size)⟩
          · have HG2 := Lib.hid (gr_back HG.out hst (by have := HTL.out; omega) HNO.out)
            have hfk := HG.out.fk
            have hsi := HG.out.si
            have hfr : fr < T := by omega
            have q1 : (1 : Int) ≤ (st : Int) := by omega
            have q2 : (0 : Int) ≤ (st : Int) - 1 := by omega
            have q3 : (st : Int) ≤ 4096 := by omega
            have q4 : (fr : Int) ≤ 4096 := by omega
            have q5 : wrap64 ((st : Int) - 1 + 1) = (st : Int) := by unfold wrap64; omega
            clear hst hfk hsi
            go_wp2
            go_roundw
            case rel => exact ⟨st, fr + 1, st, fr + 1, rfl, by go_num, rfl, by go_num, HG2, HW.out.trans (HB.out.mono HW.out.size)⟩
            case measure => exact Nat.lt_of_le_of_lt (Nat.le_of_eq (msr_eq (by simp [intOf]) (by simp [intOf]) (by simp [intOf]))) (Nat.lt_of_lt_of_le (msr_back (L := L) (T := T) (k := k) (st := st) (fr := fr) hfr) (Nat.le_of_eq (msr_eq (by simp [intOf]) (by simp [intOf]) (by simp [intOf]))))
      · have hkc : ¬ (k : Int) < (T : Int) := by omega
        have hkk : k = T := by omega
        have HE : Hid (mt pcs t = mt (pcs.drop i) []) := gr_end HG.out (by have := HTL.out; omega)
        clear hkk
        go_wp2
        go_loopw [9] (fun v9 wr => ∃ i : Nat, v9 = .int .i64 i ∧ i ≤ L ∧ wr = wq ∧ Hid (mt pcs t = mt (pcs.drop i) [])) (fun v9 _ => L - (intOf v9).toNat)
        case atStart => exact ⟨i, rfl, hi, rfl, HE⟩
        case round =>
          obtain ⟨j, rfl, hj, rfl, HM⟩ := hrel
          by_cases hjL : j < L
          · have hjc : (j : Int) < (L : Int) := by omega
            obtain ⟨pc, hpc⟩ : ∃ pc, pcs[j]? = some pc := ⟨_, List.getElem?_eq_getElem (by have := HLL.out; omega)⟩
            obtain ⟨gp, op, A, cA, rfl, hgp, c0, _, _, _⟩ := (HPT2.out.below HW.out).get hpc
            obtain ⟨ru, ng, sp⟩ := pc
            simp only at c0
            cases ru with
            | true =>
              have HM2 : Hid (mt pcs t = mt (pcs.drop (j + 1)) []) := by show _ = _; rw [HM.out, mt_end_run hpc rfl]
              clear hpc
              go_wp2
              go_roundw
              case rel => exact ⟨j + 1, by go_num, by omega, trivial, HM2⟩
              case measure => (simp [intOf]; omega)
            | false =>
              have F : Hid (mt pcs t = false) := by show _ = _; rw [HM.out, mt_end_one hpc rfl]
              have hje : ((j : Int) == (L : Int)) = false := beq_eq_false_iff_ne.2 (by omega)
              clear hpc
              go_wp2
              go_ret2
              exact ⟨by rw [F.out] <;> rfl, HB2.out.trans (HW.out.mono HB2.out.size)⟩
          · have hjc : ¬ (j : Int) < (L : Int) := by omega
            have F : Hid (mt pcs t = true) := by show _ = _; rw [HM.out, mt_end_nil (by have := HLL.out; omega)]
            have hje : ((j : Int) == (L : Int)) = true := beq_iff_eq.2 (by omega)
            go_wp2
            go_ret2
            exact ⟨by rw [F.out] <;> rfl, HB2.out.trans (HW.out.mono HB2.out.size)⟩
end Go.Proofs.YtgidfmdbaimcnaaDoor
