/- slices' rotation of a row of coins, walked. -/
import Derived.Test.YtoncakcfibahaaaHsA
namespace Go.Proofs.Ytoncakcfibahaaa
open Go.RowKit

theorem swp_app (P X M Y Q : List CoinV) (h : X.length = Y.length) : swp (P ++ (X ++ (M ++ (Y ++ Q)))) P.length (P.length + X.length + M.length) X.length = P ++ (Y ++ (M ++ (X ++ Q))) := by
  apply List.ext_getElem?
  intro r
  have hg : ∀ (U V W : List CoinV) (i : Nat), U.length ≤ i → i < U.length + V.length → (U ++ (V ++ W))[i]? = V[i - U.length]? := fun U V W i h1 h2 => by
    rw [List.getElem?_append_right h1, List.getElem?_append_left (by omega)]
  by_cases h1 : r < P.length
  · rw [swp_out _ _ _ _ _ (by omega) (by omega), List.getElem?_append_left h1, List.getElem?_append_left h1]
  · by_cases h2 : r < P.length + X.length
    · obtain ⟨k, rfl⟩ : ∃ k, r = P.length + k := ⟨r - P.length, by omega⟩
      rw [swp_i _ _ _ _ k (by omega) (by simp; omega) (by omega)]
      rw [hg P Y _ _ (by omega) (by omega)]
      rw [show P ++ (X ++ (M ++ (Y ++ Q))) = (P ++ X ++ M) ++ (Y ++ Q) by simp, hg _ Y Q _ (by simp; omega) (by simp; omega)]
      congr 1; simp; omega
    · by_cases h3 : r < P.length + X.length + M.length
      · rw [swp_out _ _ _ _ _ (by omega) (by omega)]
        rw [show P ++ (X ++ (M ++ (Y ++ Q))) = (P ++ X) ++ (M ++ (Y ++ Q)) by simp, hg _ M _ _ (by simp; omega) (by simp; omega)]
        rw [show P ++ (Y ++ (M ++ (X ++ Q))) = (P ++ Y) ++ (M ++ (X ++ Q)) by simp, hg _ M _ _ (by simp; omega) (by simp; omega)]
        simp [h]
      · by_cases h4 : r < P.length + X.length + M.length + X.length
        · obtain ⟨k, rfl⟩ : ∃ k, r = P.length + X.length + M.length + k := ⟨r - (P.length + X.length + M.length), by omega⟩
          rw [swp_j _ _ _ _ k (by omega) (by simp; omega) (by omega)]
          rw [hg P X _ _ (by omega) (by omega)]
          rw [show P ++ (Y ++ (M ++ (X ++ Q))) = (P ++ Y ++ M) ++ (X ++ Q) by simp, hg _ X Q _ (by simp; omega) (by simp; omega)]
          congr 1; simp; omega
        · rw [swp_out _ _ _ _ _ (by omega) (by omega)]
          rw [show P ++ (X ++ (M ++ (Y ++ Q))) = (P ++ X ++ M ++ Y) ++ Q by simp, List.getElem?_append_right (by simp; omega)]
          rw [show P ++ (Y ++ (M ++ (X ++ Q))) = (P ++ Y ++ M ++ X) ++ Q by simp, List.getElem?_append_right (by simp; omega)]
          congr 1; simp; omega
/-- Where the rotation stands: what is still to change places is X and Y. -/
structure RotI (w0 : World) (b o n m : Nat) (T : List CoinV) (P X Y Q : List CoinV) (w : World) : Prop where
  row : Row w0 b o n (P ++ (X ++ (Y ++ Q))) w
  at_ : P.length + X.length = m
  x0 : 0 < X.length
  y0 : 0 < Y.length
  eq : P ++ (Y ++ (X ++ Q)) = T
theorem RotI.len {w0 : World} {b o n m : Nat} {T P X Y Q : List CoinV} {w : World} (h : RotI w0 b o n m T P X Y Q w) : P.length + X.length + Y.length + Q.length = n := by
  have := h.row.len; simp at this; omega
theorem rot_gt {w0 : World} {b o n m : Nat} {T P X Y Q : List CoinV} {w w' : World} (h : RotI w0 b o n m T P X Y Q w) (hlt : Y.length < X.length)
    (hr : Row w0 b o n (swp (P ++ (X ++ (Y ++ Q))) (m - X.length) m Y.length) w') : RotI w0 b o n m T (P ++ Y) (X.drop Y.length) (X.take Y.length) Q w' := by
  have hx : X = X.take Y.length ++ X.drop Y.length := (List.take_append_drop _ _).symm
  have hl : (X.take Y.length).length = Y.length := by rw [List.length_take]; omega
  have hd : (X.drop Y.length).length = X.length - Y.length := by rw [List.length_drop]
  have hm := h.at_
  have e := swp_app P (X.take Y.length) (X.drop Y.length) Y Q hl
  rw [hl, hd] at e
  have e1 : P ++ (X.take Y.length ++ (X.drop Y.length ++ (Y ++ Q))) = P ++ (X ++ (Y ++ Q)) := by rw [← List.append_assoc (X.take Y.length), List.take_append_drop]
  rw [e1, show P.length + Y.length + (X.length - Y.length) = m by omega, show P.length = m - X.length by omega] at e
  rw [e] at hr
  refine ⟨by simpa using hr, by simp [hd]; omega, by omega, by have := h.y0; omega, ?_⟩
  rw [← h.eq]
  simp only [List.append_assoc]
  rw [← List.append_assoc (X.take Y.length), List.take_append_drop]
theorem rot_lt {w0 : World} {b o n m : Nat} {T P X Y Q : List CoinV} {w w' : World} (h : RotI w0 b o n m T P X Y Q w) (hlt : X.length < Y.length)
    (hr : Row w0 b o n (swp (P ++ (X ++ (Y ++ Q))) (m - X.length) (m + Y.length - X.length) X.length) w') : RotI w0 b o n m T P (Y.drop (Y.length - X.length)) (Y.take (Y.length - X.length)) (X ++ Q) w' := by
  have hl : (Y.take (Y.length - X.length)).length = Y.length - X.length := by rw [List.length_take]; omega
  have hd : (Y.drop (Y.length - X.length)).length = X.length := by rw [List.length_drop]; omega
  have hm := h.at_
  have e := swp_app P X (Y.take (Y.length - X.length)) (Y.drop (Y.length - X.length)) Q hd.symm
  rw [hl] at e
  have e1 : P ++ (X ++ (Y.take (Y.length - X.length) ++ (Y.drop (Y.length - X.length) ++ Q))) = P ++ (X ++ (Y ++ Q)) := by rw [← List.append_assoc (Y.take _), List.take_append_drop]
  rw [e1, show P.length + X.length + (Y.length - X.length) = m + Y.length - X.length by omega, show P.length = m - X.length by omega] at e
  rw [e] at hr
  refine ⟨by simpa using hr, by rw [hd]; exact hm, by rw [hd]; exact h.x0, by omega, ?_⟩
  rw [← h.eq, ← List.append_assoc (Y.take _), List.take_append_drop]
theorem rot_end {w0 : World} {b o n m : Nat} {T P X Y Q : List CoinV} {w w' : World} (h : RotI w0 b o n m T P X Y Q w) (he : X.length = Y.length)
    (hr : Row w0 b o n (swp (P ++ (X ++ (Y ++ Q))) (m - X.length) m X.length) w') : Row w0 b o n T w' := by
  have hm := h.at_
  have e := swp_app P X [] Y Q he
  simp only [List.nil_append, List.length_nil, Nat.add_zero] at e
  rw [hm, show P.length = m - X.length by omega] at e
  rw [e, h.eq] at hr
  exact hr
set_option maxRecDepth 20000 in
set_option maxHeartbeats 400000 in
theorem rot_any (w0 : World) (b o n c a m z : Nat) (P A B Q : List CoinV) (cmp : Value) (w : World) (h : Row w0 b o n (P ++ (A ++ (B ++ Q))) w) (ha : a = P.length) (hm : m = P.length + A.length) (hz : z = m + B.length) (hA : 0 < A.length) (hB : 0 < B.length) (hn : n ≤ 100000) :
    Calls Try.prog 21 #[.slice (some ⟨b, o, none⟩) n c, .int .i64 a, .int .i64 m, .int .i64 z, cmp] w fun e w' => e = .returned (.tuple #[]) ∧ Row w0 b o n (P ++ (B ++ (A ++ Q))) w' := by
  have h0 : RotI w0 b o n m (P ++ (B ++ (A ++ Q))) P A B Q w := ⟨h, hm.symm, hA, hB, rfl⟩
  have hzn := h0.len
  generalize (P ++ (B ++ (A ++ Q))) = T at *
  have ham : (a : Int) ≤ (m : Int) := by omega
  have hmz : (m : Int) ≤ (z : Int) := by omega
  have hzn2 : (z : Int) ≤ 100000 := by omega
  have eA : ((m : Int) - (a : Int)) = ((A.length : Nat) : Int) := by omega
  have eB : ((z : Int) - (m : Int)) = ((B.length : Nat) : Int) := by omega
  have EA := Lib.hid eA
  have EB := Lib.hid eB
  have H0 := Lib.hid h0
  clear eA eB h0 h ha hm hz hzn
  go_enter Try.func21, Try.ntmps21
  go_wp2
  go_loopw [10, 11] (fun u v wr => ∃ P X Y Q, u = .int .i64 ((X.length : Nat) : Int) ∧ v = .int .i64 ((Y.length : Nat) : Int) ∧ RotI w0 b o n m T P X Y Q wr) (fun u v _ => (intOf u).toNat + (intOf v).toNat)
  case atStart => exact ⟨P, A, B, Q, by rw [EA.out], by rw [EB.out], H0.out⟩
  case round =>
    obtain ⟨P, X, Y, Q, rfl, rfl, hr⟩ := hrel
    have hl := hr.len
    have hm := hr.at_
    have hx0 := hr.x0
    have hy0 := hr.y0
    have hrow := hr.row
    have HR := Lib.hid hr
    have b1 : (m : Int) ≤ 100000 := by omega
    have b2 : (X.length : Int) ≤ (m : Int) := by omega
    have b3 : (m : Int) + (Y.length : Int) ≤ 100000 := by omega
    rcases Nat.lt_trichotomy X.length Y.length with hlt | heq | hgt
    · have e1 : ((m : Int) - (X.length : Int)) = ((m - X.length : Nat) : Int) := by omega
      have e2 : ((m : Int) + (Y.length : Int) - (X.length : Int)) = ((m + Y.length - X.length : Nat) : Int) := by omega
      have e3 : ((Y.length : Int) - (X.length : Int)) = (((Y.take (Y.length - X.length)).length : Nat) : Int) := by simp; omega
      have e4 : (Y.drop (Y.length - X.length)).length = X.length := by rw [List.length_drop]; omega
      obtain ⟨p, hp⟩ : ∃ p, p = m - X.length := ⟨_, rfl⟩
      obtain ⟨q, hq⟩ : ∃ q, q = m + Y.length - X.length := ⟨_, rfl⟩
      rw [← hp] at e1
      rw [← hq] at e2
      have hs := swapr_any w0 b o n c p q X.length (P ++ (X ++ (Y ++ Q))) cmp wr hrow (by omega) (by omega) hn
      have hlt' : (X.length : Int) < (Y.length : Int) := by omega
      have hne : ¬ X.length = Y.length := by omega
      have HP := Lib.hid hp
      have HQ := Lib.hid hq
      have E3 := Lib.hid e3
      have E4 := Lib.hid e4
      clear hr hp hq hrow hm hl e3 e4
      go_wp2_with (go_at_call 22; refine hs.mono ?_; rintro e w' ⟨rfl, hrw⟩)
      go_roundw
      case rel => exact ⟨P, _, _, _, by rw [E4.out], by rw [← E3.out], rot_lt HR.out hlt (by rw [← HP.out, ← HQ.out]; exact hrw)⟩
      case measure => simp [intOf]; omega
    · have e1 : ((m : Int) - (X.length : Int)) = ((m - X.length : Nat) : Int) := by omega
      obtain ⟨p, hp⟩ : ∃ p, p = m - X.length := ⟨_, rfl⟩
      rw [← hp] at e1
      have hs := swapr_any w0 b o n c p m X.length (P ++ (X ++ (Y ++ Q))) cmp wr hrow (by omega) (by omega) hn
      have HP := Lib.hid hp
      have HE := Lib.hid heq
      have heq' : ((X.length : Int) == (Y.length : Int)) = true := by rw [heq]; simp
      clear hr hp hrow hm hl
      rw [← heq] at hy0 b3 ⊢
      clear heq heq'
      go_wp2_with (go_at_call 22; refine hs.mono ?_; rintro e w' ⟨rfl, hrw⟩)
      go_end0
      exact ⟨rfl, rot_end HR.out HE.out (by rw [← HP.out]; exact hrw)⟩
    · have e1 : ((m : Int) - (X.length : Int)) = ((m - X.length : Nat) : Int) := by omega
      have e3 : ((X.length : Int) - (Y.length : Int)) = (((X.drop Y.length).length : Nat) : Int) := by simp; omega
      have e4 : (X.take Y.length).length = Y.length := by rw [List.length_take]; omega
      obtain ⟨p, hp⟩ : ∃ p, p = m - X.length := ⟨_, rfl⟩
      rw [← hp] at e1
      have hs := swapr_any w0 b o n c p m Y.length (P ++ (X ++ (Y ++ Q))) cmp wr hrow (by omega) (by omega) hn
      have hgt' : (Y.length : Int) < (X.length : Int) := by omega
      have hne : ¬ X.length = Y.length := by omega
      have HP := Lib.hid hp
      have E3 := Lib.hid e3
      have E4 := Lib.hid e4
      clear hr hp hrow hm hl e3 e4
      go_wp2_with (go_at_call 22; refine hs.mono ?_; rintro e w' ⟨rfl, hrw⟩)
      go_roundw
      case rel => exact ⟨_, _, _, Q, by rw [← E3.out], by rw [E4.out], rot_gt HR.out hgt (by rw [← HP.out]; exact hrw)⟩
      case measure => simp [intOf]; omega
end Go.Proofs.Ytoncakcfibahaaa
