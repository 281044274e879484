/- dir.Good, dir.fit and linenref.Ent, walked. -/
import Derived.Test.YtnnmiolgffcgkaaDirW
import Derived.Test.YtnnmiolgffcgkaaAnyP
namespace Go.Proofs.Ytnnmiolgffcgkaa
open Go.RowKit Go.PlainAid

set_option maxRecDepth 20000 in
set_option maxHeartbeats 1000000 in
theorem good_any (s : ByteArray) (w : World) :
    Calls Try.prog 53 #[.string s] w fun e w' => e = .returned (.int .i64 (nameE s)) ∧ Below w.heap.size w w' := by
  by_cases h1 : s.size = 0
  · have F := Lib.hid (name_bad (s := s) fun h => by have := h.1; omega)
    rw [F.out]
    obtain rfl : s = ⟨#[]⟩ := size_zero h1
    clear h1
    go_enter Try.func53, Try.ntmps53
    go_wp2
    go_ret
    exact ⟨rfl, Below.refl _ _⟩
  · have e0 := emp_neD h1
    have e0' : (s.toList == []) = false := by have h := e0; rw [Go.Lib.toList_data ⟨#[]⟩] at h; exact h
    have e0'' : ¬ s.toList = [] := beq_eq_false_iff_ne.1 e0'
    have e0''' : s.toList.isEmpty = false := by
      cases hl : s.toList with
      | nil => exact absurd hl e0''
      | cons => rfl
    by_cases h3 : s = ⟨#[46]⟩
    · have F := Lib.hid (name_bad (s := s) fun h => h.2.2.1 h3)
      rw [F.out]
      subst h3
      clear h1 e0 e0' e0'' e0'''
      go_enter Try.func53, Try.ntmps53
      go_wp2
      go_ret
      exact ⟨rfl, Below.refl _ _⟩
    · obtain ⟨e1, e1'⟩ := str_ne46 h3
      by_cases h4 : s = ⟨#[46, 46]⟩
      · have F := Lib.hid (name_bad (s := s) fun h => h.2.2.2.1 h4)
        rw [F.out]
        subst h4
        clear h1 h3 e0 e0' e0'' e0''' e1 e1'
        go_enter Try.func53, Try.ntmps53
        go_wp2
        go_ret
        exact ⟨rfl, Below.refl _ _⟩
      · obtain ⟨e2, e2'⟩ := str_ne4646 h4
        by_cases h2 : 12 < s.size
        · have F := Lib.hid (name_bad (s := s) fun h => by have := h.2.1; omega)
          have i2 : 12 < (s.size : Int) := by omega
          rw [F.out]
          clear h1 h2 h3 h4
          go_enter Try.func53, Try.ntmps53
          go_wp2
          go_ret
          exact ⟨rfl, Below.refl _ _⟩
        · have i2 : ¬ 12 < (s.size : Int) := by omega
          have HC := Lib.hid (cany_any s (by omega) w)
          cases hc : Lib.containsAny s.data.toList [47, 0] with
          | true =>
            obtain ⟨i, hi, hx⟩ := (any_iff s).1 hc
            have F := Lib.hid (name_bad (s := s) fun h => by have := h.2.2.2.2 i hi; rcases hx with hx | hx <;> simp_all)
            rw [hc] at HC
            rw [F.out]
            clear h1 h2 h3 h4 hc hx
            go_enter Try.func53, Try.ntmps53
            go_wp2_with (go_at_call 92; refine HC.out.mono ?_; rintro e w' ⟨rfl, hb⟩)
            go_ret
            exact ⟨rfl, hb⟩
          | false =>
            have F := Lib.hid (name_ok (s := s) ⟨by omega, by omega, h3, h4, fun i hi => by
              constructor
              · intro h; rw [any_hit hi (.inl h)] at hc; cases hc
              · intro h; rw [any_hit hi (.inr h)] at hc; cases hc⟩)
            rw [hc] at HC
            rw [F.out]
            clear h1 h2 h3 h4 hc
            go_enter Try.func53, Try.ntmps53
            go_wp2_with (go_at_call 92; refine HC.out.mono ?_; rintro e w' ⟨rfl, hb⟩)
            go_ret
            exact ⟨rfl, hb⟩

theorem box_ent {w w' : World} {n : ByteArray} {k : Int} (hb : Below (w.alloc (.cells #[.string n, .int .i64 k] 44)).heap.size (w.alloc (.cells #[.string n, .int .i64 k] 44)) w') :
    w'.cell? ⟨w.heap.size, 0, none⟩ = some (.string n) ∧ w'.cell? ⟨w.heap.size, 1, none⟩ = some (.int .i64 k) ∧ Below w.heap.size w w' := by
  obtain ⟨a, b, _⟩ := kept2 hb
  exact ⟨a, b, ((Below.refl _ _).alloc (Nat.le_refl _) _).trans (hb.mono (by simp))⟩
set_option maxRecDepth 20000 in
set_option maxHeartbeats 1000000 in
theorem fit_any (x : EntD) (w : World) :
    Calls Try.prog 74 #[.agg #[.string x.Name, .int .i64 x.Ino]] w fun e w' => e = .returned (.int .i64 (entE x)) ∧ Below w.heap.size w w' := by
  obtain ⟨wa, hwa⟩ : ∃ wa, wa = w.alloc (.cells #[.string x.Name, .int .i64 x.Ino] 44) := ⟨_, rfl⟩
  have HG := Lib.hid (good_any x.Name wa)
  have HB : Hid (∀ w', Below wa.heap.size wa w' → w'.cell? ⟨w.heap.size, 0, none⟩ = some (.string x.Name) ∧ w'.cell? ⟨w.heap.size, 1, none⟩ = some (.int .i64 x.Ino) ∧ Below w.heap.size w w') := fun w' h => by rw [hwa] at h; exact box_ent h
  obtain ⟨k0, k1, _⟩ := HB.out wa (Below.refl _ _)
  have HWA := Lib.hid hwa
  clear hwa
  by_cases hn : nameE x.Name = 0
  · have h1 := ent_arg (x := x) hn
    have h2 := ent_ok (x := x) hn
    rw [hn] at HG
    by_cases hi : x.Ino < 0 ∨ 47 < x.Ino
    · have F := Lib.hid (h1 hi)
      rw [F.out]
      rcases (show x.Ino < 0 ∨ (¬ x.Ino < 0 ∧ 48 ≤ x.Ino) by omega) with i1 | ⟨i1, i2⟩
      all_goals
        clear hi h1 h2 hn
        generalize x.Ino = I at *
        generalize x.Name = N at *
        go_enter Try.func74, Try.ntmps74
        go_wp2_with (go_at_call 53; rw [← HWA.out]; refine HG.out.mono ?_; rintro e w' ⟨rfl, hb⟩; obtain ⟨c0, c1, hb1⟩ := HB.out _ hb)
        go_ret
        exact ⟨rfl, hb1⟩
    · have F := Lib.hid (h2 hi)
      have i1 : ¬ x.Ino < 0 := by omega
      have i2 : ¬ 48 ≤ x.Ino := by omega
      rw [F.out]
      clear hi h1 h2 hn
      generalize x.Ino = I at *
      generalize x.Name = N at *
      go_enter Try.func74, Try.ntmps74
      go_wp2_with (go_at_call 53; rw [← HWA.out]; refine HG.out.mono ?_; rintro e w' ⟨rfl, hb⟩; obtain ⟨c0, c1, hb1⟩ := HB.out _ hb)
      go_ret
      exact ⟨rfl, hb1⟩
  · have F := Lib.hid (ent_name (x := x) hn)
    have he : nameE x.Name = 11 := (name_two x.Name).resolve_left hn
    rw [he] at HG
    rw [F.out]
    clear he hn
    generalize x.Ino = I at *
    generalize x.Name = N at *
    go_enter Try.func74, Try.ntmps74
    go_wp2_with (go_at_call 53; rw [← HWA.out]; refine HG.out.mono ?_; rintro e w' ⟨rfl, hb⟩; obtain ⟨c0, c1, hb1⟩ := HB.out _ hb)
    go_ret
    exact ⟨rfl, hb1⟩
set_option maxRecDepth 20000 in
set_option maxHeartbeats 1000000 in
theorem rent_any (x : EntD) (w : World) :
    Calls Try.prog 77 #[.agg #[.string x.Name, .int .i64 x.Ino]] w fun e w' => e = .returned (.int .i64 (entE x)) ∧ Below w.heap.size w w' := by
  obtain ⟨wa, hwa⟩ : ∃ wa, wa = w.alloc (.cells #[.string x.Name, .int .i64 x.Ino] 44) := ⟨_, rfl⟩
  have HG := Lib.hid (rname_any x.Name wa)
  have HB : Hid (∀ w', Below wa.heap.size wa w' → w'.cell? ⟨w.heap.size, 0, none⟩ = some (.string x.Name) ∧ w'.cell? ⟨w.heap.size, 1, none⟩ = some (.int .i64 x.Ino) ∧ Below w.heap.size w w') := fun w' h => by rw [hwa] at h; exact box_ent h
  obtain ⟨k0, k1, hbw⟩ := HB.out wa (Below.refl _ _)
  have HWA := Lib.hid hwa
  clear hwa
  by_cases hn : nameE x.Name = 0
  · have h1 := ent_arg (x := x) hn
    have h2 := ent_ok (x := x) hn
    rw [hn] at HG
    by_cases hi : x.Ino < 0 ∨ 47 < x.Ino
    · have F := Lib.hid (h1 hi)
      rw [F.out]
      rcases (show x.Ino < 0 ∨ (¬ x.Ino < 0 ∧ 47 < x.Ino) by omega) with i1 | ⟨i1, i2⟩
      all_goals
        clear hi h1 h2 hn
        generalize x.Ino = I at *
        generalize x.Name = N at *
        go_enter Try.func77, Try.ntmps77
        go_wp2_with (go_at_call 54; rw [← HWA.out]; refine HG.out.mono ?_; rintro e w' ⟨rfl, hw'⟩; rw [hw']; clear hw')
        go_ret
        exact ⟨rfl, hbw⟩
    · have F := Lib.hid (h2 hi)
      have i1 : ¬ x.Ino < 0 := by omega
      have i2 : ¬ 47 < x.Ino := by omega
      rw [F.out]
      clear hi h1 h2 hn
      generalize x.Ino = I at *
      generalize x.Name = N at *
      go_enter Try.func77, Try.ntmps77
      go_wp2_with (go_at_call 54; rw [← HWA.out]; refine HG.out.mono ?_; rintro e w' ⟨rfl, hw'⟩; rw [hw']; clear hw')
      go_ret
      exact ⟨rfl, hbw⟩
  · have F := Lib.hid (ent_name (x := x) hn)
    have he : nameE x.Name = 11 := (name_two x.Name).resolve_left hn
    rw [he] at HG
    rw [F.out]
    clear he hn
    generalize x.Ino = I at *
    generalize x.Name = N at *
    go_enter Try.func77, Try.ntmps77
    go_wp2_with (go_at_call 54; rw [← HWA.out]; refine HG.out.mono ?_; rintro e w' ⟨rfl, hw'⟩; rw [hw']; clear hw')
    go_ret
    exact ⟨rfl, hbw⟩
end Go.Proofs.Ytnnmiolgffcgkaa
