/- A range over a string of whatever bytes: one step; what a decoded sign covers. -/
import Derived.Test.YtnnmiolgffcgkaaDirP
import Derived.Test.YtnnmiolgffcgkaaAnyW
namespace Go.Proofs.Ytnnmiolgffcgkaa
open Go.RowKit Go.PlainAid

section
variable {P : Program}
theorem next_step {W : World} {b pos : Nat} {s : ByteArray} (h : W.heap[b]? = some (.stringIter s pos)) (hp : pos < s.size) :
    ∃ W2, (∀ ty, (Instr.next (.pointer (some ⟨b, 0, none⟩)) true ty).run P W = .ok (.tuple #[.bool true, .int .i64 pos, .int .i32 (Utf8.decode s pos).1]) W2) ∧ W2.heap[b]? = some (.stringIter s (pos + (Utf8.decode s pos).2)) ∧ ∀ B, B ≤ b → Below B W W2 := by
  have hb : b < W.heap.size := by
    rcases Nat.lt_or_ge b W.heap.size with h' | h'
    · exact h'
    · rw [Array.getElem?_eq_none h'] at h; cases h
  refine ⟨{ W with heap := W.heap.setIfInBounds b (.stringIter s (pos + (Utf8.decode s pos).2)) }, fun ty => ?_, ?_, fun B hB => ?_⟩
  · simp [Instr.next, getObj, setObj, Sem.run_bind, Sem.run, h, Result.andThen, hp, goInt]
  · simp [hb]
  · exact ⟨rfl, rfl, rfl, by simp, fun k hk => by simp [show b ≠ k by omega]⟩
theorem next_over {W : World} {b pos : Nat} {s : ByteArray} (h : W.heap[b]? = some (.stringIter s pos)) (hp : ¬ pos < s.size) (ty : TypeId) :
    (Instr.next (.pointer (some ⟨b, 0, none⟩)) true ty).run P W = .ok (.tuple #[.bool false]) W := by
  simp [Instr.next, getObj, Sem.run, h, hp]
end
theorem get_bang (s : ByteArray) (k : Nat) (h : k < s.size) : (s.get! k).toNat = bt s k := by
  rw [← get_bt s k h]
  have : s.get! k = s[k]'h := get_at s k h
  rw [this]
/-- The bytes of a sign that is no ASCII. -/
theorem decode_cover (s : ByteArray) (pos : Nat) (h : pos < s.size) (ha : 128 ≤ bt s pos) : pos + (Utf8.decode s pos).2 ≤ s.size ∧ ∀ j, pos ≤ j → j < pos + (Utf8.decode s pos).2 → 128 ≤ bt s j := by
  have key : (Utf8.decode s pos).2 = 1 ∨ (pos + (Utf8.decode s pos).2 ≤ s.size ∧ ∀ k, 1 ≤ k → k < (Utf8.decode s pos).2 → (s.get! (pos + k)).toNat / 64 = 2) := by
    have h0 : ¬ (s.get! (pos + 0)).toNat < 128 := by have := get_bang s (pos + 0) h; simp only [Nat.add_zero] at *; omega
    simp only [Utf8.decode, h0, if_false]
    split
    · rename_i hc
      simp at hc
      split
      · right; refine ⟨by omega, fun k h1 h2 => ?_⟩
        have : k = 1 := by omega
        subst this; exact hc.2.2
      · left; rfl
    · split
      · rename_i hc
        simp at hc
        split
        · right; refine ⟨by omega, fun k h1 h2 => ?_⟩
          rcases (show k = 1 ∨ k = 2 by omega) with rfl | rfl
          · exact hc.1.2.2
          · exact hc.2.2
        · left; rfl
      · split
        · rename_i hc
          simp at hc
          split
          · right; refine ⟨by omega, fun k h1 h2 => ?_⟩
            rcases (show k = 1 ∨ k = 2 ∨ k = 3 by omega) with rfl | rfl | rfl
            · exact hc.1.1.2.2
            · exact hc.1.2.2
            · exact hc.2.2
          · left; rfl
        · left; rfl
  rcases key with e | ⟨e1, e2⟩
  · rw [e]
    refine ⟨by omega, fun j h1 h2 => ?_⟩
    have : j = pos := by omega
    rw [this]; exact ha
  · refine ⟨e1, fun j h1 h2 => ?_⟩
    by_cases hj : j = pos
    · rw [hj]; exact ha
    · have := e2 (j - pos) (by omega) (by omega)
      rw [show pos + (j - pos) = j by omega] at this
      rw [← get_bang s j (by omega)]
      omega

/-- strings.IndexAny in a short text. -/
def IaPost (s : ByteArray) (w : World) (e : Ending) (w' : World) : Prop := ∃ k : Int, e = .returned (.int .i64 k) ∧ decide (0 ≤ k) = Lib.containsAny s.data.toList [47, 0] ∧ Below w.heap.size w w'
theorem any_no {s : ByteArray} (h : ∀ j, j < s.size → bt s j ≠ 0 ∧ bt s j ≠ 47) : Lib.containsAny s.data.toList [47, 0] = false := by
  cases e : Lib.containsAny s.data.toList [47, 0] with
  | false => rfl
  | true =>
    obtain ⟨i, hi, hx⟩ := (any_iff s).1 e
    have := h i hi
    rcases hx with hx | hx
    · exact absurd hx this.1
    · exact absurd hx this.2
theorem any_hit {s : ByteArray} {i : Nat} (hi : i < s.size) (h : bt s i = 0 ∨ bt s i = 47) : Lib.containsAny s.data.toList [47, 0] = true := (any_iff s).2 ⟨i, hi, h⟩
set_option maxRecDepth 100000 in
set_option maxHeartbeats 2000000 in
theorem iany_short (s : ByteArray) (h8 : s.size ≤ 8) (w : World) : Calls Try.prog 112 #[.string s, .string sl0] w (IaPost s w) := by
  have HS : Hid (∀ (n : Int) W, Calls Try.prog 124 #[.int .i64 n] W fun e w' => e = .returned (.bool (decide (8 < n))) ∧ w' = W) := fun n W => Try.strings_shouldUseASCIISet n W
  have h8i : decide ((8 : Int) < (s.size : Int)) = false := decide_eq_false (by omega)
  have h8j : ¬ (8 : Int) < (s.size : Int) := by omega
  go_enter Try.func112, Try.ntmps112
  go_wp2_with (go_at_call 124; refine (HS.out _ _).mono ?_; rintro e w' ⟨rfl, hw'⟩; rw [hw', h8i]; clear hw')
  go_loopw [9, 10] (fun _ _ wr => ∃ i : Nat, i ≤ s.size ∧ Hid (Below w.heap.size w wr ∧ wr.heap[w.heap.size]? = some (.stringIter s i) ∧ ∀ j, j < i → bt s j ≠ 0 ∧ bt s j ≠ 47)) (fun _ _ wr => s.size - wr.iterPos w.heap.size)
  case atStart => exact ⟨0, Nat.zero_le _, below_iter _ _ _, World.iter_heap _ _ _, fun j hj => absurd hj (Nat.not_lt_zero _)⟩
  case round =>
    obtain ⟨i, hi, HR⟩ := hrel
    obtain ⟨wq, rfl⟩ : ∃ z : World, z = wr := ⟨_, rfl⟩
    have hR := HR.out
    by_cases hlt : i < s.size
    · obtain ⟨w2, hnx, hit, hbl⟩ := next_step (P := Try.prog) hR.2.1 hlt
      have HIT := Lib.hid hit
      have HB2 := Lib.hid (hR.1.trans (hbl w.heap.size (Nat.le_refl _)))
      have hb0 := bt_nonneg s i
      have hb1 := bt_le s i
      by_cases hlo : bt s i < 128
      · have hd : Utf8.decode s i = ((bt s i).toNat, 1) := by
          have hx := get_bt s i hlt
          rw [decode_ascii s i hlt (by omega)]
          congr 1
          omega
        have hdz : (((bt s i).toNat : Nat) : Int) = bt s i := by omega
        have HIR : Hid (∀ W, Calls Try.prog 123 #[.string sl0, .int .i32 (bt s i)] W fun e w' => e = .returned (.int .i64 (Lib.indexByte [47, 0] (bt s i).toNat.toUInt8)) ∧ w' = W) := fun W => Try.strings_IndexRune_ascii sl0 (bt s i) W hb0 (by omega)
        rw [hd] at hnx HIT
        simp only [hdz] at hnx
        have HA := Lib.hid hR.2.2
        clear hR hbl hit hd hdz
        by_cases hh : bt s i = 0 ∨ bt s i = 47
        · have HH := Lib.hid (any_hit hlt hh)
          obtain ⟨k, hk, hk0⟩ : ∃ k : Int, Lib.indexByte [47, 0] (bt s i).toNat.toUInt8 = k ∧ 0 ≤ k := by
            refine ⟨_, rfl, ?_⟩
            rcases hh with h | h <;> rw [h] <;> decide
          rw [hk] at HIR
          clear hk hh
          generalize bt s i = x at *
          go_wp2_with (go_at_call 123; refine (HIR.out _).mono ?_; rintro e w' ⟨rfl, hw'⟩; rw [hw']; clear hw')
          go_ret
          exact ⟨i, rfl, by rw [HH.out]; exact decide_eq_true (by omega), HB2.out⟩
        · have hk : Lib.indexByte [47, 0] (bt s i).toNat.toUInt8 = -1 := by
            unfold Lib.indexByte
            have h1 : ¬ (47 : UInt8) = (bt s i).toNat.toUInt8 := fun e => hh (.inr (by have := congrArg UInt8.toNat e; simp at this; omega))
            have h2 : ¬ (0 : UInt8) = (bt s i).toNat.toUInt8 := fun e => hh (.inl (by have := congrArg UInt8.toNat e; simp at this; omega))
            simp [h1, h2, Lib.indexByte]
          rw [hk] at HIR
          have HN : Hid (∀ j, j < i + 1 → bt s j ≠ 0 ∧ bt s j ≠ 47) := fun j hj => by
            by_cases e : j = i
            · rw [e]; exact not_or.1 hh
            · exact HA.out j (by omega)
          have HP : Hid (wq.iterPos w.heap.size = i) := by simp [Hid, World.iterPos, HR.out.2.1]
          have HP2 : Hid (w2.iterPos w.heap.size = i + 1) := by simp [Hid, World.iterPos, HIT.out]
          clear hk hh
          generalize bt s i = x at *
          go_wp2_with (go_at_call 123; refine (HIR.out _).mono ?_; rintro e w' ⟨rfl, hw'⟩; rw [hw']; clear hw')
          go_roundw
          case rel => exact ⟨i + 1, by omega, HB2.out, HIT.out, HN.out⟩
          case measure => rw [HP.out, HP2.out]; omega
      · obtain ⟨d1, d2⟩ := decode_cover s i hlt (by omega)
        have d3 := decode_high s i hlt (by have := get_bt s i hlt; omega)
        have d4 := decode_le s i
        obtain ⟨r, n, hrn⟩ : ∃ r n, Utf8.decode s i = (r, n) := ⟨_, _, rfl⟩
        rw [hrn] at hnx HIT d1 d2 d3 d4
        simp only at hnx HIT d1 d2 d3 d4
        have HIR : Hid (∀ W, Calls Try.prog 123 #[.string sl0, .int .i32 (r : Int)] W fun e w' => e = .returned (.int .i64 (-1)) ∧ Below W.heap.size W w') := fun W => irune_none (r : Int) (by omega) (by omega) W
        have HN : Hid (∀ j, j < i + n → bt s j ≠ 0 ∧ bt s j ≠ 47) := fun j hj => by
          by_cases e : j < i
          · exact hR.2.2 j e
          · have := d2 j (by omega) hj
            exact ⟨by omega, by omega⟩
        have HP : Hid (wq.iterPos w.heap.size = i) := by simp [Hid, World.iterPos, HR.out.2.1]
        have HI2 : Hid (w.heap.size < w2.heap.size) := by
          have := (hbl 0 (Nat.zero_le _)).size
          have h3 : w.heap.size < wq.heap.size := by
            rcases Nat.lt_or_ge w.heap.size wq.heap.size with h' | h'
            · exact h'
            · have := hR.2.1; rw [Array.getElem?_eq_none h'] at this; cases this
          show _ < _
          omega
        have HD := Lib.hid d1
        have HD2 := Lib.hid d3.2
        clear hR hbl hit hrn d1 d2 d3 d4 hlo hb0 hb1
        go_wp2_with (go_at_call 123; refine (HIR.out _).mono ?_; rintro e w3 ⟨rfl, hb3⟩)
        have HIT3 : Hid (w3.heap[w.heap.size]? = some (.stringIter s (i + n))) := (hb3.block _ HI2.out).trans HIT.out
        have HP2 : Hid (w3.iterPos w.heap.size = i + n) := by simp [Hid, World.iterPos, HIT3.out]
        have HB3 := Lib.hid (HB2.out.trans (hb3.mono HB2.out.size))
        go_roundw
        case rel => exact ⟨i + n, HD.out, HB3.out, HIT3.out, HN.out⟩
        case measure => (rw [HP.out, HP2.out]; have := HD2.out; omega)
    · obtain rfl : i = s.size := by omega
      have hnx := next_over (P := Try.prog) hR.2.1 hlt
      have HA := Lib.hid (any_no hR.2.2)
      clear hR
      go_wp2
      go_ret
      exact ⟨-1, rfl, by rw [HA.out]; rfl, HR.out.1⟩
theorem zero_set : ∀ w, (zeroValue 170).run Try.prog w = .ok (.agg (Array.replicate 256 (.bool false))) w := fun w => by
  have h : (Try.prog.info? 170).map (fun i => (i.zero, i.size)) = some (some (.agg (Array.replicate 256 (.bool false))), 256) := by kernel_rfl
  exact (zero_of_info h).1 w
theorem iany_all (s : ByteArray) (h : s.size ≤ 12) (w : World) : Calls Try.prog 112 #[.string s, .string sl0] w (IaPost s w) := by
  by_cases h8 : s.size ≤ 8
  · exact iany_short s h8 w
  · refine (Try.strings_IndexAny_long zero_set s sl0 w (by decide) (by omega) (by omega) (by decide) (fun j b hb => ?_)).mono ?_
    · match j, hb with
      | 0, hb => simp at hb; subst hb; decide
      | 1, hb => simp at hb; subst hb; decide
    · rintro e w' ⟨rfl, rfl⟩
      exact ⟨_, rfl, rfl, ((Below.refl _ _).alloc (Nat.le_refl _) _).alloc (by simp) _⟩
set_option maxRecDepth 100000 in
set_option maxHeartbeats 1000000 in
theorem cany_any (s : ByteArray) (h : s.size ≤ 12) (w : World) : Calls Try.prog 92 #[.string s, .string sl0] w fun e w' => e = .returned (.bool (Lib.containsAny s.data.toList [47, 0])) ∧ Below w.heap.size w w' := by
  have HI := Lib.hid (iany_all s h w)
  unfold IaPost at HI
  clear h
  generalize Lib.containsAny s.data.toList [47, 0] = c at *
  go_enter Try.func92, Try.ntmps92
  go_wp2_with (go_at_call 112; refine HI.out.mono ?_; rintro e w' ⟨k, rfl, hk, hb⟩)
  go_ret
  exact ⟨rfl, hb⟩
end Go.Proofs.Ytnnmiolgffcgkaa
