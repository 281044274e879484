/- path.Under and slices.Equal of whatever two lists of strings, walked. -/
import Derived.Test.YtfhgglghofhndaaPjP
import Derived.Test.YtfhgglghofhndaaShelf
import Derived.Test.YtfhgglghofhndaaKit
import Derived.Test.YtfhgglghofhndaaBlk
import Derived.Deep.QuietTactic
import Derived.BigQuiet
import Derived.WalkLawsBesides
namespace Go.Proofs.Ytfhgglghofhndaa
open Go.RowKit

/-- slices.Equal. -/
theorem eqs_any (A : Option Addr) (n c : Nat) (xs : List ByteArray) (A' : Option Addr) (n' c' : Nat) (ys : List ByteArray) (w : World) (r : RowsIn w w.heap.size A n c (fun z => [.string z]) 1 xs) (r' : RowsIn w w.heap.size A' n' c' (fun z => [.string z]) 1 ys) :
    Calls Try.prog 39 #[.slice A n c, .slice A' n' c'] w fun e w' => e = .returned (.bool (decide (xs = ys))) ∧ Below w.heap.size w w' := by
  have hn := r.len
  have hn' := r'.len
  subst hn
  subst hn'
  have ht1 : xs.length ≤ 9223372036854775807 := by have h1 := r.le; have h2 := r.top; unfold maxLen at h2; omega
  have ht2 : ys.length ≤ 9223372036854775807 := by have h1 := r'.le; have h2 := r'.top; unfold maxLen at h2; omega
  by_cases hl : xs.length = ys.length
  · by_cases h0 : xs.length = 0
    · rw [List.eq_nil_of_length_eq_zero h0, List.eq_nil_of_length_eq_zero (by omega : ys.length = 0)]
      refine (Try.slices_Equal_string_empty A A' c 0 c' w (by omega)).mono ?_
      rintro e w' ⟨rfl, rfl⟩
      exact ⟨by simp, Below.refl _ _⟩
    · obtain ⟨b, o, rfl, _, _⟩ := r.one (List.getElem?_eq_getElem (show 0 < xs.length by omega))
      obtain ⟨b', o', rfl, _, _⟩ := r'.one (List.getElem?_eq_getElem (show 0 < ys.length by omega))
      refine (Try.slices_Equal_string b o xs.length c b' o' ys.length c' xs ys w (Nat.le_refl _) (Nat.le_refl _) ht1 ht2 (fun j hj => ?_) (fun j hj => ?_)).mono ?_
      · obtain ⟨_, _, he, _, h⟩ := r.one (List.getElem?_eq_getElem hj)
        cases he
        rw [List.getD_eq_getElem?_getD, List.getElem?_eq_getElem hj]; exact h
      · obtain ⟨_, _, he, _, h⟩ := r'.one (List.getElem?_eq_getElem hj)
        cases he
        rw [List.getD_eq_getElem?_getD, List.getElem?_eq_getElem hj]; exact h
      · rintro e w' ⟨rfl, q, rfl⟩
        exact ⟨by rw [List.take_length, List.take_length], below_drewN (Below.refl _ _) q⟩
  · refine (Try.slices_Equal_string_lens A A' xs.length c ys.length c' w hl).mono ?_
    rintro e w' ⟨rfl, rfl⟩
    exact ⟨by rw [decide_eq_false (fun h => hl (by rw [h]))], Below.refl _ _⟩

theorem und_short {l m : List ByteArray} (h : ¬ l.length ≤ m.length) : undB l m = false := by unfold undB; rw [decide_eq_false h]; rfl
theorem und_no {l m : List ByteArray} {i : Nat} {x y : ByteArray} (h1 : l[i]? = some x) (h2 : m[i]? = some y) (hxy : x ≠ y) : undB l m = false := by
  unfold undB
  rw [decide_eq_false (p := m.take l.length = l), Bool.and_false]
  intro h
  have hi := (List.getElem?_eq_some_iff.1 h1).1
  have h3 := congrArg (fun z => z[i]?) h
  simp only [List.getElem?_take, if_pos hi, h1, h2] at h3
  exact hxy (by cases h3; rfl)
theorem und_yes {l m : List ByteArray} (h : l.length ≤ m.length) (h2 : ∀ j, j < l.length → l[j]? = m[j]?) : undB l m = true := by
  unfold undB
  rw [decide_eq_true h, decide_eq_true]; rfl
  apply List.ext_getElem?
  intro j
  rw [List.getElem?_take]
  by_cases hj : j < l.length
  · rw [if_pos hj]; exact (h2 j hj).symm
  · rw [if_neg hj, List.getElem?_eq_none (by omega)]

set_option maxRecDepth 20000 in
set_option maxHeartbeats 1000000 in
theorem under_any (A : Option Addr) (n c : Nat) (xs : List ByteArray) (A' : Option Addr) (n' c' : Nat) (ys : List ByteArray) (w : World) (r : RowsIn w w.heap.size A n c (fun z => [.string z]) 1 xs) (r' : RowsIn w w.heap.size A' n' c' (fun z => [.string z]) 1 ys) :
    Calls Try.prog 42 #[.slice A n c, .slice A' n' c'] w fun e w' => e = .returned (.bool (undB xs ys)) ∧ Below w.heap.size w w' := by
  have hn := r.len
  have hn' := r'.len
  subst hn
  subst hn'
  have ht1 : (xs.length : Int) ≤ 9223372036854775807 := by have h1 := r.le; have h2 := r.top; unfold maxLen at h2; omega
  have ht2 : (ys.length : Int) ≤ 9223372036854775807 := by have h1 := r'.le; have h2 := r'.top; unfold maxLen at h2; omega
  by_cases hl : xs.length ≤ ys.length
  · have hli : ¬ (ys.length : Int) < (xs.length : Int) := by omega
    have HL := Lib.hid hl
    clear hl
    go_enter Try.func42, Try.ntmps42
    go_wp2
    go_loopw [13] (fun v13 wr => ∃ i : Nat, i ≤ xs.length ∧ v13 = .int .i64 i ∧ Hid ((∀ j, j < i → xs[j]? = ys[j]?) ∧ Below w.heap.size w wr)) (fun v13 _ => xs.length - (intOf v13).toNat)
    case atStart => exact ⟨0, Nat.zero_le _, rfl, fun j h => absurd h (Nat.not_lt_zero _), Below.refl _ _⟩
    case round =>
      obtain ⟨i, hi, rfl, HR⟩ := hrel
      obtain ⟨wq, rfl⟩ : ∃ z : World, z = wr := ⟨_, rfl⟩
      by_cases hlt : i < xs.length
      · have hil : (i : Int) < (xs.length : Int) := by omega
        have hil2 : (i : Int) < (ys.length : Int) := by have := HL.out; omega
        obtain ⟨x, e1⟩ : ∃ x, xs[i]? = some x := ⟨_, List.getElem?_eq_getElem hlt⟩
        obtain ⟨y, e2⟩ : ∃ y, ys[i]? = some y := ⟨_, List.getElem?_eq_getElem (by have := HL.out; omega)⟩
        obtain ⟨b, o, rfl, hbB, k0⟩ := (r.below HR.out.2).one e1
        obtain ⟨b', o', rfl, hbB', k0'⟩ := (r'.below HR.out.2).one e2
        by_cases hxy : x = y
        · subst hxy
          have HN : Hid (∀ j, j < i + 1 → xs[j]? = ys[j]?) := fun j hj => by
            by_cases e : j = i
            · rw [e, e1, e2]
            · exact HR.out.1 j (by omega)
          clear e1 e2
          go_upto_region 6 with fail
          go_quiet (fail)
          have HB2 := Lib.hid (below_drewN HR.out.2 nq)
          go_wp2
          go_roundw
          case rel => exact ⟨i + 1, by omega, by go_num, HN.out, HB2.out⟩
          case measure => (simp [intOf]; try omega)
        · have F := Lib.hid (und_no e1 e2 hxy)
          have c1 := str_ne hxy
          have c2 : ¬ x.toList = y.toList := beq_eq_false_iff_ne.1 c1
          clear e1 e2
          go_upto_region 6 with fail
          go_quiet (fail)
          have HB2 := Lib.hid (below_drewN HR.out.2 nq)
          go_wp2
          go_ret
          exact ⟨by rw [F.out]; rfl, HB2.out⟩
      · obtain rfl : i = xs.length := by omega
        have F := Lib.hid (und_yes HL.out HR.out.1)
        go_wp2
        go_ret
        exact ⟨by rw [F.out]; rfl, HR.out.2⟩
  · have hli : (ys.length : Int) < (xs.length : Int) := by omega
    have F := Lib.hid (und_short hl)
    rw [F.out]
    clear hl
    go_enter Try.func42, Try.ntmps42
    go_wp2
    go_ret
    exact ⟨rfl, Below.refl _ _⟩
end Go.Proofs.Ytfhgglghofhndaa
