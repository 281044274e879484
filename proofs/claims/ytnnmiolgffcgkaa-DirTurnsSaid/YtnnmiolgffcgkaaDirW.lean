/- linenref.Name, Ent and Dir, walked. -/
import Derived.Test.YtnnmiolgffcgkaaDirP
import Derived.Test.YtnnmiolgffcgkaaBlk
import Derived.Test.YtnnmiolgffcgkaaHeld
import Derived.WalkLawsBesides
namespace Go.Proofs.Ytnnmiolgffcgkaa
open Go.RowKit Go.PlainAid

theorem str_ne46 {s : ByteArray} (h : s ≠ ⟨#[46]⟩) : (s.toList == [46]) = false ∧ ¬ s.toList = [46] := by
  have e : ((⟨#[46]⟩ : ByteArray).toList) = [46] := by rw [Go.Lib.toList_data]
  have := str_ne h
  rw [e] at this
  exact ⟨this, beq_eq_false_iff_ne.1 this⟩
theorem str_ne4646 {s : ByteArray} (h : s ≠ ⟨#[46, 46]⟩) : (s.toList == [46, 46]) = false ∧ ¬ s.toList = [46, 46] := by
  have e : ((⟨#[46, 46]⟩ : ByteArray).toList) = [46, 46] := by rw [Go.Lib.toList_data]
  have := str_ne h
  rw [e] at this
  exact ⟨this, beq_eq_false_iff_ne.1 this⟩
theorem emp_neD {t : ByteArray} (h : t.size ≠ 0) : (t.toList == (⟨#[]⟩ : ByteArray).toList) = false := str_ne fun e => h (by rw [e]; rfl)

set_option maxRecDepth 20000 in
set_option maxHeartbeats 1000000 in
theorem rname_any (s : ByteArray) (w : World) :
    Calls Try.prog 54 #[.string s] w fun e w' => e = .returned (.int .i64 (nameE s)) ∧ w' = w := by
  by_cases h1 : s.size < 1
  · have F := Lib.hid (name_bad (s := s) fun h => by have := h.1; omega)
    have i1 : (s.size : Int) < 1 := by omega
    rw [F.out]
    clear h1
    go_enter Try.func54, Try.ntmps54
    go_wp2
    go_ret
    exact ⟨rfl, rfl⟩
  · have i1 : ¬ (s.size : Int) < 1 := by omega
    by_cases h2 : 12 < s.size
    · have F := Lib.hid (name_bad (s := s) fun h => by have := h.2.1; omega)
      have i2 : 12 < (s.size : Int) := by omega
      rw [F.out]
      clear h1 h2
      go_enter Try.func54, Try.ntmps54
      go_wp2
      go_ret
      exact ⟨rfl, rfl⟩
    · have i2 : ¬ 12 < (s.size : Int) := by omega
      by_cases h3 : s = ⟨#[46]⟩
      · have F := Lib.hid (name_bad (s := s) fun h => h.2.2.1 h3)
        rw [F.out]
        subst h3
        clear h1 h2 i1 i2
        go_enter Try.func54, Try.ntmps54
        go_wp2
        go_ret
        exact ⟨rfl, rfl⟩
      · obtain ⟨e1, e1'⟩ := str_ne46 h3
        by_cases h4 : s = ⟨#[46, 46]⟩
        · have F := Lib.hid (name_bad (s := s) fun h => h.2.2.2.1 h4)
          rw [F.out]
          subst h4
          clear h1 h2 h3 i1 i2 e1 e1'
          go_enter Try.func54, Try.ntmps54
          go_wp2
          go_ret
          exact ⟨rfl, rfl⟩
        · obtain ⟨e2, e2'⟩ := str_ne4646 h4
          have H := Lib.hid (show 1 ≤ s.size ∧ s.size ≤ 12 ∧ s ≠ ⟨#[46]⟩ ∧ s ≠ ⟨#[46, 46]⟩ from ⟨by omega, by omega, h3, h4⟩)
          have hg := get_bt s
          clear h1 h2 h3 h4
          go_enter Try.func54, Try.ntmps54
          go_wp2
          go_loopw [22] (fun v22 wr => ∃ i : Nat, i ≤ s.size ∧ v22 = .int .i64 i ∧ wr = w ∧ Hid (∀ j, j < i → bt s j ≠ 0 ∧ bt s j ≠ 47)) (fun v22 _ => s.size - (intOf v22).toNat)
          case atStart => exact ⟨0, Nat.zero_le _, rfl, rfl, fun j h => absurd h (Nat.not_lt_zero _)⟩
          case round =>
            obtain ⟨i, hi, rfl, rfl, HA⟩ := hrel
            by_cases hlt : i < s.size
            · have hil : (i : Int) < (s.size : Int) := by omega
              by_cases b0 : bt s i = 0
              · have F := Lib.hid (name_bad (s := s) fun h => (h.2.2.2.2 i hlt).1 b0)
                have c0 : (bt s i == 0) = true := beq_iff_eq.2 b0
                go_wp2
                go_ret
                exact ⟨by rw [F.out]; rfl, rfl⟩
              · by_cases b1 : bt s i = 47
                · have F := Lib.hid (name_bad (s := s) fun h => (h.2.2.2.2 i hlt).2 b1)
                  have c0 : (bt s i == 0) = false := beq_eq_false_iff_ne.2 b0
                  have c1 : (bt s i == 47) = true := beq_iff_eq.2 b1
                  go_wp2
                  go_ret
                  exact ⟨by rw [F.out]; rfl, rfl⟩
                · have HN : Hid (∀ j, j < i + 1 → bt s j ≠ 0 ∧ bt s j ≠ 47) := fun j hj => by
                    by_cases e : j = i
                    · rw [e]; exact ⟨b0, b1⟩
                    · exact HA.out j (by omega)
                  have c0 : (bt s i == 0) = false := beq_eq_false_iff_ne.2 b0
                  have c1 : (bt s i == 47) = false := beq_eq_false_iff_ne.2 b1
                  go_wp2
                  go_roundw
                  case rel => exact ⟨i + 1, by omega, by go_num, trivial, HN⟩
                  case measure => (simp [intOf]; try omega)
            · obtain rfl : i = s.size := by omega
              have F := Lib.hid (name_ok (s := s) ⟨H.out.1, H.out.2.1, H.out.2.2.1, H.out.2.2.2, HA.out⟩)
              go_wp2
              go_ret
              exact ⟨by rw [F.out]; rfl, rfl⟩

end Go.Proofs.Ytnnmiolgffcgkaa
