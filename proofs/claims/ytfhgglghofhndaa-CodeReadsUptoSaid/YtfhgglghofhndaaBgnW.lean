/- linenref.Begins, walked. -/
import Derived.Test.YtfhgglghofhndaaCrdW
namespace Go.Proofs.Ytfhgglghofhndaa
open Go.RowKit Go.PlainAid

/-- ys begins xs. -/
def Bgn (xs ys : List Int) : Prop := xs.take ys.length = ys ∧ ys.length ≤ xs.length
theorem bgn_all {xs ys : List Int} (hl : ys.length ≤ xs.length) (h : ∀ i, i < ys.length → xs[i]? = ys[i]?) : Bgn xs ys := by
  refine ⟨?_, hl⟩
  apply List.ext_getElem?
  intro i
  by_cases hi : i < ys.length
  · rw [List.getElem?_take, if_pos hi]; exact h i hi
  · rw [List.getElem?_eq_none (by rw [List.length_take]; omega), List.getElem?_eq_none (by omega)]
theorem bgn_no {xs ys : List Int} {i : Nat} (hi : i < ys.length) (h : xs[i]? ≠ ys[i]?) : ¬ Bgn xs ys := fun hb => by
  apply h
  have := hb.1
  conv => rhs; rw [← this]
  rw [List.getElem?_take, if_pos hi]

set_option maxRecDepth 20000 in
set_option maxHeartbeats 1000000 in
theorem bgn_any (B B' : Nat) (A : Option Addr) (n c : Nat) (xs : List Int) (A' : Option Addr) (n' c' : Nat) (ys : List Int) (w : World) (r : RowsIn w B A n c (fun z => [.int .i64 z]) 1 xs) (r' : RowsIn w B' A' n' c' (fun z => [.int .i64 z]) 1 ys) :
    Calls Try.prog 104 #[.slice A n c, .slice A' n' c'] w fun e w' => ∃ (b : Bool) (q : Nat), e = .returned (.bool b) ∧ (b = true ↔ Bgn xs ys) ∧ w' = w.drewN q := by
  have hn := r.len
  have hn' := r'.len
  subst hn
  subst hn'
  have htop : (xs.length : Int) ≤ 9223372036854775807 := by have h1 := r.le; have h2 := r.top; unfold maxLen at h2; omega
  have htop' : (ys.length : Int) ≤ 9223372036854775807 := by have h1 := r'.le; have h2 := r'.top; unfold maxLen at h2; omega
  by_cases hl : ys.length ≤ xs.length
  · have d1 := decide_eq_false (show ¬ xs.length < ys.length by omega)
    go_enter Try.func104, Try.ntmps104
    go_wp2
    go_loopw [5, 13] (fun _ v13 wr => ∃ i q : Nat, i ≤ ys.length ∧ v13 = .int .i64 i ∧ Hid (wr = w.drewN q ∧ ∀ j, j < i → xs[j]? = ys[j]?)) (fun _ v13 _ => ys.length - (intOf v13).toNat)
    case atStart => exact ⟨0, 0, Nat.zero_le _, rfl, rfl, fun j h => by omega⟩
    case round =>
      obtain ⟨i, q, hi, rfl, HI⟩ := hrel
      by_cases hlt : i < ys.length
      · have hil := decide_eq_true (show (i : Int) < (ys.length : Int) by omega)
        have e1 := List.getElem?_eq_getElem (l := xs) (i := i) (by omega)
        have e2 := List.getElem?_eq_getElem hlt
        have i1 : (i : Int) < (ys.length : Int) := by omega
        have i2 : (i : Int) < (xs.length : Int) := by omega
        obtain ⟨b, o, rfl, hbB, hc⟩ := (r.keep (w' := wr) (fun p _ => by rw [HI.out.1]; rfl)).one e1
        obtain ⟨b', o', rfl, hbB', hc'⟩ := (r'.keep (w' := wr) (fun p _ => by rw [HI.out.1]; rfl)).one e2
        by_cases hne : xs[i] = ys[i]
        · have HE : Hid (∀ j, j < i + 1 → xs[j]? = ys[j]?) := fun j hj => by
            by_cases e : j = i
            · subst e; rw [e1, e2, hne]
            · exact HI.out.2 j (by omega)
          have hne' : (xs[i] != ys[i]) = false := bne_eq_false_iff_eq.2 hne
          generalize xs[i] = x at *
          generalize ys[i] = y at *
          clear e1 e2 hne
          go_wp2
          go_quiet (fail)
          go_wp2
          go_roundw
          case rel => exact ⟨i + 1, q + nq, by omega, by go_num, by rw [HI.out.1, World.drewN_drewN], HE.out⟩
          case measure => simp [intOf]; omega
        · have F : ¬ Bgn xs ys := bgn_no hlt (by rw [e1, e2]; exact fun k => hne (by injection k))
          have hne' : (xs[i] != ys[i]) = true := bne_iff_ne.2 hne
          generalize xs[i] = x at *
          generalize ys[i] = y at *
          clear e1 e2 hne
          go_wp2
          go_quiet (fail)
          go_wp2
          go_ret
          exact ⟨false, q + nq, rfl, by simp [F], by rw [HI.out.1, World.drewN_drewN]⟩
      · have F : Bgn xs ys := bgn_all hl fun j hj => HI.out.2 j (by omega)
        have hil := decide_eq_false (show ¬ (i : Int) < (ys.length : Int) by omega)
        go_wp2
        go_ret
        exact ⟨true, q, rfl, by simp [F], HI.out.1⟩
  · have d1 := decide_eq_true (show xs.length < ys.length by omega)
    have F : ¬ Bgn xs ys := fun h => hl h.2
    clear hl
    go_enter Try.func104, Try.ntmps104
    go_wp2
    go_ret
    exact ⟨false, 0, rfl, by simp [F], rfl⟩
end Go.Proofs.Ytfhgglghofhndaa
