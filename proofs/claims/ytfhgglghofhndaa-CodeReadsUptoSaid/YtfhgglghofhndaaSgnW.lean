/- linenref.sign, walked (printed by gen_sgn.py). -/
import Derived.Test.YtfhgglghofhndaaWrdW
import Derived.Test.YtfhgglghofhndaaSlc
namespace Go.Proofs.Ytfhgglghofhndaa
open Go.RowKit Go.PlainAid

def HitJ (l : List Int) (s : ByteArray) (a k j : Nat) : Prop := 0 < k ∧ l[j]? = some (k : Int) ∧ codeAt l j k = cN s a k
def MorJ (l : List Int) (s : ByteArray) (a k j : Nat) : Prop := ∃ x : Nat, l[j]? = some (x : Int) ∧ k < x ∧ codeAt l j x / 2 ^ (x - k) = cN s a k
theorem hit_J {l : List Int} {s : ByteArray} {a k : Nat} : Hit l (cN s a k) k ↔ ∃ j, HitJ l s a k j := by
  constructor
  · intro h
    obtain ⟨i, h1, h2⟩ := (hit_iff h.1).1 h
    exact ⟨i, by have := h.1; omega, h1, h2⟩
  · rintro ⟨i, h0, h1, h2⟩
    exact (hit_iff (by omega)).2 ⟨i, h1, h2⟩
theorem mor_J {l : List Int} {s : ByteArray} {a k : Nat} (h : canE l = 0) : Mor l (cN s a k) k ↔ ∃ j, MorJ l s a k j := by
  rw [mor_iff (fill_all h)]
  constructor
  · rintro ⟨i, x, h1, h2, h3⟩; exact ⟨i, x, h1, h2, h3⟩
  · rintro ⟨i, x, h1, h2, h3⟩; exact ⟨i, x, h1, h2, h3⟩
theorem bgn_hit {l : List Int} (h : canE l = 0) {s : ByteArray} {a k j : Nat} (hi : l[j]? = some (k : Int)) (h0 : 0 < k) (hf : a + k ≤ 8 * s.size) : Bgn ((tbL s).drop a) (wordAt l j) ↔ HitJ l s a k j := by
  have hw := wordAt_len hi
  have hb := begins_hit h (s := s) (a := a) (n := k) hi h0 rfl hf
  unfold Bgn HitJ
  rw [hw]
  have hl : k ≤ ((tbL s).drop a).length := by rw [List.length_drop, tbL_length]; omega
  exact ⟨fun k => ⟨h0, hi, hb.1 k.1.symm⟩, fun k => ⟨(hb.2 k.2.2).symm, hl⟩⟩
theorem bgn_mor {l : List Int} (h : canE l = 0) {s : ByteArray} {a k x j : Nat} (hi : l[j]? = some (x : Int)) (h0 : k < x) (hf : a + k ≤ 8 * s.size) : Bgn (wordAt l j) (((tbL s).drop a).take k) ↔ MorJ l s a k j := by
  have hw := wordAt_len hi
  have hb := begins_mor h (s := s) (a := a) (n := k) hi h0 hf
  have hl : (((tbL s).drop a).take k).length = k := by rw [List.length_take, List.length_drop, tbL_length]; omega
  unfold Bgn MorJ
  rw [hl, hw]
  constructor
  · rintro ⟨h1, _⟩; exact ⟨x, hi, h0, hb.1 h1⟩
  · rintro ⟨y, h1, h2, h3⟩
    rw [hi] at h1
    have e : x = y := by injection h1 with h1; omega
    subst e
    exact ⟨hb.2 h3, by omega⟩
theorem mor_at {l : List Int} {s : ByteArray} {a k x j : Nat} (hi : l[j]? = some (x : Int)) (h0 : ¬ k < x) : ¬ MorJ l s a k j := by
  rintro ⟨y, h1, h2, h3⟩
  rw [hi] at h1
  have e : x = y := by injection h1 with h1; omega
  omega
theorem hit_at {l : List Int} {s : ByteArray} {a k x j : Nat} (hi : l[j]? = some (x : Int)) (h0 : ¬ (x = k ∧ 0 < k)) : ¬ HitJ l s a k j := by
  rintro ⟨h1, h2, h3⟩
  rw [hi] at h2
  have e : x = k := by injection h2 with h2; omega
  exact h0 ⟨e, h1⟩
theorem WRow.word {b : Nat} {w : World} {l : List Int} (h : WRow b w l l.length) {j x : Nat} (hi : l[j]? = some (x : Int)) : ∃ A c, w.cell? ⟨b, j, none⟩ = some (.slice A x c) ∧ RowsIn w w.heap.size A x c (fun z => [.int .i64 z]) 1 (wordAt l j) := by
  have hj := (List.getElem?_eq_some_iff.1 hi).1
  obtain ⟨v, hc, ho⟩ := h.cell hj
  have e : wv l l.length j = wordAt l j := by unfold wv; rw [if_pos hj]
  rw [e, wordAt_len hi] at ho
  obtain ⟨A, c, rfl⟩ := ho.form
  exact ⟨A, c, hc, own_intsC ho⟩
/-- The inner loop's facts: none of the first i is the sign; whether one of them begins with these bits. -/
def SnI (l : List Int) (s : ByteArray) (a k i : Nat) (b : Bool) : Prop := (∀ j, j < i → ¬ HitJ l s a k j) ∧ (b = true ↔ ∃ j, j < i ∧ MorJ l s a k j)
theorem SnI.start (l : List Int) (s : ByteArray) (a k : Nat) : SnI l s a k 0 false := ⟨fun j h => by omega, by simp⟩
theorem SnI.next {l : List Int} {s : ByteArray} {a k i : Nat} {b : Bool} (h : SnI l s a k i b) (h1 : ¬ HitJ l s a k i) (b' : Bool) (h2 : b' = true ↔ b = true ∨ MorJ l s a k i) : SnI l s a k (i + 1) b' := by
  refine ⟨fun j hj => ?_, h2.trans ?_⟩
  · by_cases e : j = i
    · subst e; exact h1
    · exact h.1 j (by omega)
  · rw [h.2]
    constructor
    · rintro (⟨j, h3, h4⟩ | h3)
      · exact ⟨j, by omega, h4⟩
      · exact ⟨i, by omega, h3⟩
    · rintro ⟨j, h3, h4⟩
      by_cases e : j = i
      · subst e; exact .inr h4
      · exact .inl ⟨j, by omega, h4⟩
theorem SnI.done {l : List Int} {s : ByteArray} {a k : Nat} {b : Bool} (hc : canE l = 0) (h : SnI l s a k l.length b) : ¬ Hit l (cN s a k) k ∧ (b = true ↔ Mor l (cN s a k) k) := by
  refine ⟨fun hh => ?_, h.2.trans ?_⟩
  · obtain ⟨j, hj⟩ := hit_J.1 hh
    exact h.1 j (List.getElem?_eq_some_iff.1 hj.2.1).1 hj
  · rw [mor_J hc]
    constructor
    · rintro ⟨j, _, h4⟩; exact ⟨j, h4⟩
    · rintro ⟨j, h4⟩
      obtain ⟨x, h5, h6⟩ := h4
      exact ⟨j, (List.getElem?_eq_some_iff.1 h5).1, x, h5, h6⟩
def SgPost (l : List Int) (s : ByteArray) (a : Nat) (w : World) (e : Ending) (w' : World) : Prop := (∃ q, w' = w.drewN q) ∧ ((∃ x k : Nat, e = .returned (.tuple #[.int .i64 x, .int .i64 k, .int .i64 0]) ∧ one l s a = ((x : Int), ((a + k : Nat) : Int), 0)) ∨ ∃ z : Int, z ≠ 0 ∧ e = .returned (.tuple #[.int .i64 0, .int .i64 0, .int .i64 z]) ∧ one l s a = (0, 0, z))

set_option maxRecDepth 20000 in
set_option maxHeartbeats 2000000 in
theorem sg_any (l : List Int) (s : ByteArray) (a bw : Nat) (AB : Option Addr) (cB M : Nat) (w : World) (hW : WRow bw w l l.length) (rB : RowsIn w w.heap.size AB M cB (fun z => [.int .i64 z]) 1 ((tbL s).drop a)) (hcan : canE l = 0) (ha : a ≤ 8 * s.size) :
    Calls Try.prog 85 #[.slice (some ⟨bw, 0, none⟩) l.length l.length, .slice AB M cB] w (SgPost l s a w) := by
  have hM : M = 8 * s.size - a := by have := rB.len; rw [List.length_drop, tbL_length] at this; omega
  have hMc := rB.le
  have hl320 := can_320 hcan
  have HC := Lib.hid hcan
  have HFA := Lib.hid (fill_all hcan)
  have HWR := Lib.hid hW
  have HRB := Lib.hid rB
  have HM := Lib.hid hM
  clear hcan hW rB hM
  go_enter Try.func85, Try.ntmps85
  go_wp2
  go_loopw [7, 8, 9, 10, 15] (fun v7 _ _ _ _ wr => ∃ k q : Nat, k ≤ 15 ∧ a + k ≤ 8 * s.size ∧ v7 = .int .i64 k ∧ Hid (wr = w.drewN q) ∧ Hid (one l s a = oneR l s a (16 - k) k)) (fun v7 _ _ _ _ _ => 16 - (intOf v7).toNat)
  case atStart => exact ⟨0, 0, by omega, by omega, rfl, rfl, rfl⟩
  case round =>
    obtain ⟨k, q0, hk, hak, rfl, HW0, HN⟩ := hrel
    obtain ⟨f, hf⟩ : ∃ f, 16 - k = f + 1 := ⟨15 - k, by omega⟩
    rw [hf] at HN
    have HF := Lib.hid hf
    clear hf
    have hkM : k ≤ M := by have := HM.out; omega
    have hkc : k ≤ cB := by omega
    obtain ⟨wo, rfl⟩ : ∃ wo : World, wo = wr := ⟨_, rfl⟩
    go_wp2
    go_loopw [8, 9, 10, 15] (fun v8 _ _ v15 wi => ∃ (i q : Nat) (b : Bool), i ≤ l.length ∧ v15 = .int .i64 i ∧ v8 = .bool b ∧ Hid (wi = w.drewN q) ∧ Hid (SnI l s a k i b)) (fun _ _ _ v15 _ => l.length - (intOf v15).toNat)
    case atStart => exact ⟨0, q0, false, Nat.zero_le _, rfl, rfl, HW0.out, SnI.start _ _ _ _⟩
    case round =>
      obtain ⟨i, q, b, hi, rfl, rfl, HW, HI⟩ := hrel
      by_cases hlt : i < l.length
      · have e1 := List.getElem?_eq_getElem hlt
        obtain ⟨x, hxe⟩ : ∃ x : Nat, l[i] = (x : Int) := ⟨l[i].toNat, by have := (HFA.out _ (List.getElem_mem hlt)).1; omega⟩
        have hx15 := (HFA.out _ (List.getElem_mem hlt)).2
        rw [hxe] at e1 hx15
        have i1 := decide_eq_true (show (i : Int) < (l.length : Int) by omega)
        obtain ⟨Aj, cj, hcell, rj⟩ := HWR.out.word e1
        have hcell2 : wr.cell? ⟨bw, i, none⟩ = some (.slice Aj x cj) := by rw [HW.out]; exact hcell
        have HRJ : Hid (RowsIn wr w.heap.size Aj x cj (fun z => [.int .i64 z]) 1 (wordAt l i)) := rj.keep (w' := wr) (fun p _ => by rw [HW.out]; rfl)
        have HRB2 : Hid (RowsIn wr w.heap.size AB M cB (fun z => [.int .i64 z]) 1 ((tbL s).drop a)) := HRB.out.keep (w' := wr) (fun p _ => by rw [HW.out]; rfl)
        have HE1 := Lib.hid e1
        clear e1 hxe hcell rj
        by_cases hxk : x = k ∧ 0 < k
        · obtain ⟨rfl, hx0⟩ := hxk
          have HB1 := Lib.hid (bgn_any _ _ AB M cB _ Aj x cj _ wr HRB2.out HRJ.out)
          have HH := Lib.hid (bgn_hit HC.out HE1.out hx0 hak)
          have HMN := Lib.hid (mor_at (s := s) (a := a) HE1.out (Nat.lt_irrefl x))
          have g1 := decide_eq_true hx0
          have g2 := decide_eq_false (Nat.lt_irrefl x)
          have g3 := decide_eq_false (Int.lt_irrefl (x : Int))
          have g4 := decide_eq_true (show (0 : Int) < (x : Int) by omega)
          clear HRJ HRB2
          by_cases hh : HitJ l s a x i
          · have F : Hid (one l s a = ((i : Int), ((a + x : Nat) : Int), 0)) := by
              simp only [Hid]; rw [HN.out, oneR_hit (hit_J.2 ⟨i, hh⟩), sgn_eq (by omega) hh.2.1 hh.2.2]
            have HHH := Lib.hid hh
            clear hh
            go_wp2_with (go_at_call 104; refine HB1.out.mono ?_; rintro e w' ⟨bb, q2, rfl, hb, rfl⟩; obtain rfl : bb = true := hb.2 (HH.out.2 HHH.out); clear hb)
            go_ret3
            exact ⟨⟨q + q2, by rw [HW.out, World.drewN_drewN]⟩, .inl ⟨i, x, rfl, F.out⟩⟩
          · have F : Hid (SnI l s a x (i + 1) b) := HI.out.next hh b (by simp [HMN.out])
            have HHH := Lib.hid hh
            clear hh
            rcases b with _ | _
            all_goals
              go_wp2_with (go_at_call 104; refine HB1.out.mono ?_; rintro e w' ⟨bb, q2, rfl, hb, rfl⟩; obtain rfl : bb = false := one_no (hb.trans HH.out) HHH.out; clear hb)
              go_roundw
              case rel => exact ⟨i + 1, q + q2, _, by omega, by go_num, rfl, by simp only [Hid]; rw [HW.out, World.drewN_drewN], F.out⟩
              case measure => (simp [intOf]; try omega)
        · have HHN := Lib.hid (hit_at (s := s) (a := a) HE1.out hxk)
          have hz : (x = 0) ∨ (0 < x ∧ x ≠ k) := by omega
          rcases b with _ | _
          · by_cases hkx : k < x
            · have HPRE : Hid (RowsIn wr w.heap.size AB k cB (fun z => [.int .i64 z]) 1 (((tbL s).drop a).take k)) := HRB2.out.pre hkM
              have HB1 := Lib.hid (bgn_any _ _ Aj x cj _ AB k cB _ wr HRJ.out HPRE.out)
              have HH := Lib.hid (bgn_mor HC.out HE1.out hkx hak)
              have g1 := decide_eq_true (show 0 < x by omega)
              have g4 := decide_eq_true (show (0 : Int) < (x : Int) by omega)
              have g2 := decide_eq_true hkx
              have g3 := decide_eq_true (show (k : Int) < (x : Int) by omega)
              have g5 : ((x : Int) == (k : Int)) = false := beq_eq_false_iff_ne.2 (by omega)
              have g6 : (x == k) = false := beq_eq_false_iff_ne.2 (by omega)
              have g7 : (k : Int) ≤ (M : Int) := by omega
              have g8 : (k : Int) ≤ (cB : Int) := by omega
              clear HRJ HRB2 hxk hz
              by_cases hh : MorJ l s a k i
              · have F : Hid (SnI l s a k (i + 1) true) := HI.out.next HHN.out true (by simp [hh])
                have HHH := Lib.hid hh
                clear hh
                go_wp2_with (go_at_call 104; refine HB1.out.mono ?_; rintro e w' ⟨bb, q2, rfl, hb, rfl⟩; obtain rfl : bb = true := hb.2 (HH.out.2 HHH.out); clear hb)
                go_roundw
                case rel => exact ⟨i + 1, q + q2, _, by omega, by go_num, rfl, by simp only [Hid]; rw [HW.out, World.drewN_drewN], F.out⟩
                case measure => (simp [intOf]; try omega)
              · have F : Hid (SnI l s a k (i + 1) false) := HI.out.next HHN.out false (by simp [hh])
                have HHH := Lib.hid hh
                clear hh
                go_wp2_with (go_at_call 104; refine HB1.out.mono ?_; rintro e w' ⟨bb, q2, rfl, hb, rfl⟩; obtain rfl : bb = false := one_no (hb.trans HH.out) HHH.out; clear hb)
                go_roundw
                case rel => exact ⟨i + 1, q + q2, _, by omega, by go_num, rfl, by simp only [Hid]; rw [HW.out, World.drewN_drewN], F.out⟩
                case measure => (simp [intOf]; try omega)
            · have F : Hid (SnI l s a k (i + 1) false) := HI.out.next HHN.out false (by simp [mor_at HE1.out hkx])
              have g2 := decide_eq_false hkx
              have g3 := decide_eq_false (show ¬ (k : Int) < (x : Int) by omega)
              clear HRJ HRB2 hxk
              rcases hz with hz | ⟨hz1, hz2⟩
              · have g1 := decide_eq_false (show ¬ 0 < x by omega)
                have g4 := decide_eq_false (show ¬ (0 : Int) < (x : Int) by omega)
                clear hz
                go_wp2
                go_roundw
                case rel => exact ⟨i + 1, q, _, by omega, by go_num, rfl, HW.out, F.out⟩
                case measure => (simp [intOf]; try omega)
              · have g1 := decide_eq_true hz1
                have g4 := decide_eq_true (show (0 : Int) < (x : Int) by omega)
                have g5 : ((x : Int) == (k : Int)) = false := beq_eq_false_iff_ne.2 (by omega)
                have g6 : (x == k) = false := beq_eq_false_iff_ne.2 (by omega)
                clear hz1 hz2
                go_wp2
                go_roundw
                case rel => exact ⟨i + 1, q, _, by omega, by go_num, rfl, HW.out, F.out⟩
                case measure => (simp [intOf]; try omega)
          · have F : Hid (SnI l s a k (i + 1) true) := HI.out.next HHN.out true (by simp)
            clear HRJ HRB2 hxk
            rcases hz with hz | ⟨hz1, hz2⟩
            · have g1 := decide_eq_false (show ¬ 0 < x by omega)
              have g4 := decide_eq_false (show ¬ (0 : Int) < (x : Int) by omega)
              clear hz
              go_wp2
              go_roundw
              case rel => exact ⟨i + 1, q, _, by omega, by go_num, rfl, HW.out, F.out⟩
              case measure => (simp [intOf]; try omega)
            · have g1 := decide_eq_true hz1
              have g4 := decide_eq_true (show (0 : Int) < (x : Int) by omega)
              have g5 : ((x : Int) == (k : Int)) = false := beq_eq_false_iff_ne.2 (by omega)
              have g6 : (x == k) = false := beq_eq_false_iff_ne.2 (by omega)
              clear hz1 hz2
              go_wp2
              go_roundw
              case rel => exact ⟨i + 1, q, _, by omega, by go_num, rfl, HW.out, F.out⟩
              case measure => (simp [intOf]; try omega)
      · obtain rfl : i = l.length := by omega
        have i1 := decide_eq_false (show ¬ (l.length : Int) < (l.length : Int) by omega)
        have HD := Lib.hid (HI.out.done HC.out)
        clear HI
        rcases b with _ | _
        · have F : Hid (one l s a = (0, 0, 7)) := by
            simp only [Hid]; rw [HN.out, oneR_none HD.out.1 (fun h => by have := HD.out.2.2 h; cases this)]
          clear HD
          go_wp2
          go_ret3
          exact ⟨⟨q, HW.out⟩, .inr ⟨7, by decide, rfl, F.out⟩⟩
        · have hm := HD.out.2.1 rfl
          by_cases hsh : k = M
          · have F : Hid (one l s a = (0, 0, 3)) := by
              simp only [Hid]; rw [HN.out, oneR_short HD.out.1 hm (by have := HM.out; omega)]
            have g5 : ((k : Int) == (M : Int)) = true := beq_iff_eq.2 (by omega)
            have g6 : (k == M) = true := beq_iff_eq.2 hsh
            clear HD hm hsh
            go_wp2
            go_ret3
            exact ⟨⟨q, HW.out⟩, .inr ⟨3, by decide, rfl, F.out⟩⟩
          · have F : Hid (one l s a = oneR l s a (16 - (k + 1)) (k + 1)) := by
              simp only [Hid]; rw [HN.out, oneR_on HD.out.1 hm (by have := HM.out; omega), show 16 - (k + 1) = f by have := HF.out; omega]
            have HK15 := Lib.hid (mor_lt hm)
            have g5 : ((k : Int) == (M : Int)) = false := beq_eq_false_iff_ne.2 (by omega)
            have g6 : (k == M) = false := beq_eq_false_iff_ne.2 hsh
            have hk2 : a + (k + 1) ≤ 8 * s.size := by have := HM.out; omega
            clear HD hm hsh
            go_wp2
            refine ⟨⟨k + 1, q, by have := HK15.out; omega, hk2, by go_num, HW.out, F.out⟩, ?_⟩
            have := HK15.out
            simp [intOf]; omega
end Go.Proofs.Ytfhgglghofhndaa
