/- linenref.Sized, SameData and the closure of FileCut, walked. -/
import Derived.Test.YtfhgglghofhndaaFwhW
import Derived.Test.YtfhgglghofhndaaFcutP
import Derived.Test.YtfhgglghofhndaaEqyStr
namespace Go.Proofs.Ytfhgglghofhndaa
open Go.RowKit Go.PlainAid

set_option maxRecDepth 20000 in
theorem rsized_any (W : List UInt8) (n : Nat) (hn : n ≤ 8192) (hW : W.length ≤ 8192) (w : World) :
    Calls Try.prog 56 #[.string (mkS W), .int .i64 n] w fun e w' => e = .returned (.string (mkS (szd W n))) ∧ w' = w := by
  have hz : (mkS W).size = W.length := mk_size W
  by_cases h : n ≤ W.length
  · have F : Hid (mkS (szd W n) = (mkS W).extract 0 n) := by
      simp only [Hid]; rw [mk_extract]; unfold szd
      rw [show n - W.length = 0 by omega]; simp [zer]
    have i1 : (n : Int) ≤ ((mkS W).size : Int) := by rw [hz]; omega
    clear h hz
    generalize mkS W = S at *
    go_enter Try.func56, Try.ntmps56
    go_wp2
    go_ret
    exact ⟨by rw [F.out] <;> rfl, rfl⟩
  · have hcat := cat_mk (P := Try.prog) W (mkS (zer (n - W.length))) (by rw [mk_size, zer_len]; omega)
    rw [bl_mk] at hcat
    have F : Hid (szd W n = W ++ zer (n - W.length)) := by simp only [Hid]; unfold szd; rw [List.take_of_length_le (by omega)]
    have HZ := Lib.hid (zeros_any (n - W.length) (by omega))
    have i1 : ¬ (n : Int) ≤ ((mkS W).size : Int) := by rw [hz]; omega
    have i2 : (n : Int) - ((mkS W).size : Int) = ((n - W.length : Nat) : Int) := by rw [hz]; omega
    have hn' : (n : Int) ≤ 8192 := by omega
    have hs : ((mkS W).size : Int) ≤ 8192 := by rw [hz]; omega
    clear h hz
    rw [← F.out] at hcat
    generalize szd W n = R at *
    generalize hmk : mkS W = S at *
    clear hmk
    generalize n - W.length = D at *
    go_enter Try.func56, Try.ntmps56
    go_wp2_with (go_at_call 87; refine (HZ.out _).mono ?_; rintro e w' ⟨rfl, hw'⟩; rw [hw']; clear hw')
    go_ret
    exact ⟨rfl, rfl⟩

set_option maxRecDepth 20000 in
theorem samedata_any (z : Int) (A : Option Addr) (n c : Nat) (xs : List ByteArray) (A' : Option Addr) (n' c' : Nat) (w : World) (r : RowsIn w w.heap.size A n c (fun z => [.string z]) 1 xs) (r' : RowsIn w w.heap.size A' n' c' (fun z => [.string z]) 1 xs) :
    Calls Try.prog 19 #[.agg #[.int .i64 z, .slice A n c], .agg #[.int .i64 z, .slice A' n' c']] w fun e w' => e = .returned (.bool true) ∧ Below w.heap.size w w' := by
  have HW : Hid (Below w.heap.size w ((w.alloc (.cells #[.int .i64 z, .slice A n c] 24)).alloc (.cells #[.int .i64 z, .slice A' n' c'] 24))) := ((Below.refl _ _).alloc (Nat.le_refl _) _).alloc (by simp) _
  have HB : Hid (∀ W, Below w.heap.size w W → Calls Try.prog 39 #[.slice A n c, .slice A' n' c'] W fun e w' => e = .returned (.bool true) ∧ Below W.heap.size W w') := fun W hb => eqyStr A n c xs A' n' c' _ _ W (r.below hb) (r'.below hb)
  clear r r'
  go_enter Try.func19, Try.ntmps19
  go_wp2_with (go_at_call 39; refine (HB.out _ HW.out).mono ?_; rintro e w' ⟨rfl, hb⟩)
  go_ret
  exact ⟨rfl, HW.out.trans (hb.mono HW.out.size)⟩

/-- Which clusters of a cut file are holes. -/
def cutH (ps : List ByteArray) (i : Nat) : Bool := match ps[i]? with
  | none => true
  | some p => p.size == 0
set_option maxRecDepth 20000 in
theorem cuthole_any (M : Nat) (z : Int) (A : Option Addr) (n c : Nat) (ps : List ByteArray) (B : Nat) (i : Nat) (w : World) (hm : w.cell? ⟨M, 1, none⟩ = some (.slice A n c)) (r : RowsIn w B A n c (fun z => [.string z]) 1 ps) :
    Calls Try.prog 57 #[.int .i64 i, .pointer (some ⟨M, 0, none⟩)] w fun e w' => e = .returned (.bool (cutH ps i)) ∧ w' = w := by
  have hn := r.len
  subst hn
  by_cases hlt : i < ps.length
  · obtain ⟨p, e1⟩ : ∃ p, ps[i]? = some p := ⟨_, List.getElem?_eq_getElem hlt⟩
    obtain ⟨b, o, rfl, hbB, hc⟩ := r.one e1
    have i1 : (i : Int) < (ps.length : Int) := by omega
    have i2 : ¬ (ps.length : Int) ≤ (i : Int) := by omega
    have F : Hid (cutH ps i = (p.size == 0)) := by simp only [Hid, cutH, e1]
    clear e1 hlt
    by_cases hp : p.size = 0
    · obtain rfl : p = ⟨#[]⟩ := by
        have := size_zero hp; exact this
      go_enter Try.func57, Try.ntmps57
      go_wp2
      go_ret
      exact ⟨by rw [F.out] <;> rfl, rfl⟩
    · have hne := emp_ne hp
      have hne2 := emp_ne2 hp
      have hne3 := emp_ne3 hp
      have F2 : Hid ((p.size == 0) = false) := by simp only [Hid]; simpa using hp
      go_enter Try.func57, Try.ntmps57
      go_wp2
      go_ret
      exact ⟨by rw [F.out, F2.out] <;> rfl, rfl⟩
  · have F : Hid (cutH ps i = true) := by simp only [Hid, cutH]; rw [List.getElem?_eq_none (by omega)]
    have i2 : (ps.length : Int) ≤ (i : Int) := by omega
    go_enter Try.func57, Try.ntmps57
    go_wp2
    go_ret
    exact ⟨by rw [F.out] <;> rfl, rfl⟩
end Go.Proofs.Ytfhgglghofhndaa
