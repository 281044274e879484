/- dir.Check and linenref.Dir, walked. -/
import Derived.Test.YtnnmiolgffcgkaaDirV
namespace Go.Proofs.Ytnnmiolgffcgkaa
open Go.RowKit Go.PlainAid

theorem entCells {w : World} {B n c : Nat} {A : Option Addr} {l : List EntD} (r : RowsIn w B A n c EntD.cells 2 l) {i : Nat} {p : EntD} (h : l[i]? = some p) : ∃ b o, A = some ⟨b, o, none⟩ ∧ b < B ∧ w.cell? ⟨b, o + i * 2, none⟩ = some (.string p.Name) ∧ w.cell? ⟨b, o + i * 2 + 1, none⟩ = some (.int .i64 p.Ino) := by
  obtain ⟨b, o, e, hb, hc⟩ := r.at_ i p h
  exact ⟨b, o, e, hb, hc 0 _ rfl, hc 1 _ rfl⟩

set_option maxRecDepth 20000 in
set_option maxHeartbeats 1000000 in
theorem rdir_any (A : Option Addr) (n c : Nat) (xs : List EntD) (w : World) (r : RowsIn w w.heap.size A n c EntD.cells 2 xs) :
    Calls Try.prog 56 #[.slice A n c] w fun e w' => e = .returned (.int .i64 (dirE xs)) ∧ Below w.heap.size w w' := by
  have hn := r.len
  subst hn
  have htop : (xs.length : Int) ≤ 9223372036854775807 := by have h1 := r.le; have h2 := r.top; unfold maxLen at h2; omega
  by_cases hl : 24 < xs.length
  · have F := Lib.hid (dir_large hl)
    have hli : 24 < (xs.length : Int) := by omega
    rw [F.out]
    go_enter Try.func56, Try.ntmps56
    go_wp2
    go_ret
    exact ⟨rfl, Below.refl _ _⟩
  · have D := Lib.hid (dir_go hl)
    have hli : ¬ 24 < (xs.length : Int) := by omega
    clear hl
    go_enter Try.func56, Try.ntmps56
    go_wp2
    go_loopw [3, 12] (fun v3 v12 wr => ∃ (i : Nat) (last : ByteArray), i ≤ xs.length ∧ v12 = .int .i64 i ∧ v3 = .string last ∧ Hid (dirE xs = dirGo last (xs.drop i) ∧ Below w.heap.size w wr)) (fun _ v12 _ => xs.length - (intOf v12).toNat)
    case atStart => exact ⟨0, ⟨#[]⟩, Nat.zero_le _, rfl, rfl, D.out, Below.refl _ _⟩
    case round =>
      obtain ⟨i, last, hi, rfl, rfl, HR⟩ := hrel
      obtain ⟨wq, rfl⟩ : ∃ z : World, z = wr := ⟨_, rfl⟩
      by_cases hlt : i < xs.length
      · obtain ⟨x, e1⟩ : ∃ x, xs[i]? = some x := ⟨_, List.getElem?_eq_getElem hlt⟩
        have hil : (i : Int) < (xs.length : Int) := by omega
        obtain ⟨b, o, rfl, hbB, k0, k1⟩ := entCells (r.below HR.out.2) e1
        have HE := Lib.hid (rent_any x (wq.alloc (.cells #[.string x.Name, .int .i64 x.Ino] 44)))
        have E1 := Lib.hid e1
        by_cases hx : entE x = 0
        · rw [hx] at HE
          have HX := Lib.hid hx
          have htot := ltS_le (a := x.Name) (b := last)
          have hlx : ∀ v, ltS last x.Name = v → (Op.bytesLess x.Name.toList last.toList || x.Name.toList == last.toList) = !v := fun v h => by rw [htot, h]
          cases hv : ltS last x.Name with
          | true =>
            have hc := hlx true hv
            have hc1 : Op.bytesLess x.Name.toList last.toList = false := by cases h : Op.bytesLess x.Name.toList last.toList; rfl; rw [h] at hc; cases hc
            have hc2 : (x.Name.toList == last.toList) = false := by rw [hc1] at hc; simpa using hc
            have HN : Hid (dirE xs = dirGo x.Name (xs.drop (i + 1))) := by show _ = _; rw [HR.out.1, dirGo_next e1 hx hv]
            clear e1 hx htot hlx hv hc
            obtain ⟨N, I⟩ := x
            simp only at *
            go_wp2_with (go_at_call 77; refine HE.out.mono ?_; rintro e w' ⟨rfl, hb⟩; obtain ⟨c0, c1, hb1⟩ := box_ent hb; have HB1 := Lib.hid (HR.out.2.trans (hb1.mono HR.out.2.size)); clear hb hb1)
            go_roundw
            case rel => exact ⟨i + 1, N, by omega, by go_num, rfl, HN.out, HB1.out⟩
            case measure => (simp [intOf]; try omega)
          | false =>
            have hc := hlx false hv
            have F : Hid (dirE xs = 4) := by show _ = _; rw [HR.out.1, dirGo_form e1 hx hv]
            clear e1 hx htot hlx hv
            obtain ⟨N, I⟩ := x
            simp only at *
            rcases (show Op.bytesLess N.toList last.toList = true ∨ (Op.bytesLess N.toList last.toList = false ∧ (N.toList == last.toList) = true) by
              cases h : Op.bytesLess N.toList last.toList
              · right; rw [h] at hc; exact ⟨rfl, by simpa using hc⟩
              · left; rfl) with c1 | ⟨c1, c2⟩
            all_goals
              clear hc
              go_wp2_with (go_at_call 77; refine HE.out.mono ?_; rintro e w' ⟨rfl, hb⟩; obtain ⟨d0, d1, hb1⟩ := box_ent hb; have HB1 := Lib.hid (HR.out.2.trans (hb1.mono HR.out.2.size)); clear hb hb1)
              go_ret
              exact ⟨by rw [F.out]; rfl, HB1.out⟩
        · have F : Hid (dirE xs = entE x) := by show _ = _; rw [HR.out.1, dirGo_bad e1 hx]
          have hx2 : (entE x != 0) = true := bne_iff_ne.2 hx
          clear e1 hx
          generalize entE x = E at *
          obtain ⟨N, I⟩ := x
          simp only at *
          go_wp2_with (go_at_call 77; refine HE.out.mono ?_; rintro e w' ⟨rfl, hb⟩; obtain ⟨d0, d1, hb1⟩ := box_ent hb; have HB1 := Lib.hid (HR.out.2.trans (hb1.mono HR.out.2.size)); clear hb hb1)
          go_ret
          exact ⟨by rw [F.out]; rfl, HB1.out⟩
      · obtain rfl : i = xs.length := by omega
        have F : Hid (dirE xs = 0) := by show _ = _; rw [HR.out.1, dirGo_end]
        go_wp2
        go_ret
        exact ⟨by rw [F.out]; rfl, HR.out.2⟩
set_option maxRecDepth 20000 in
set_option maxHeartbeats 1000000 in
theorem dcheck_any (A : Option Addr) (n c : Nat) (xs : List EntD) (w : World) (r : RowsIn w w.heap.size A n c EntD.cells 2 xs) :
    Calls Try.prog 55 #[.slice A n c] w fun e w' => e = .returned (.int .i64 (dirE xs)) ∧ Below w.heap.size w w' := by
  have hn := r.len
  subst hn
  have htop : (xs.length : Int) ≤ 9223372036854775807 := by have h1 := r.le; have h2 := r.top; unfold maxLen at h2; omega
  by_cases hl : 24 < xs.length
  · have F := Lib.hid (dir_large hl)
    have hli : 24 < (xs.length : Int) := by omega
    rw [F.out]
    go_enter Try.func55, Try.ntmps55
    go_wp2
    go_ret
    exact ⟨rfl, Below.refl _ _⟩
  · have D := Lib.hid (dir_go hl)
    have hli : ¬ 24 < (xs.length : Int) := by omega
    clear hl
    go_enter Try.func55, Try.ntmps55
    go_wp2
    go_loopw [11] (fun v11 wr => ∃ (i : Nat), i ≤ xs.length ∧ v11 = .int .i64 i ∧ Hid (dirE xs = dirGo (lastN xs i) (xs.drop i) ∧ Below w.heap.size w wr)) (fun v11 _ => xs.length - (intOf v11).toNat)
    case atStart => exact ⟨0, Nat.zero_le _, rfl, D.out, Below.refl _ _⟩
    case round =>
      obtain ⟨i, hi, rfl, HR⟩ := hrel
      obtain ⟨wq, rfl⟩ : ∃ z : World, z = wr := ⟨_, rfl⟩
      by_cases hlt : i < xs.length
      · obtain ⟨x, e1⟩ : ∃ x, xs[i]? = some x := ⟨_, List.getElem?_eq_getElem hlt⟩
        have hil : (i : Int) < (xs.length : Int) := by omega
        obtain ⟨b, o, rfl, hbB, k0, k1⟩ := entCells (r.below HR.out.2) e1
        have HE := Lib.hid (fit_any x (wq.alloc (.cells #[.string x.Name, .int .i64 x.Ino] 44)))
        have E1 := Lib.hid e1
        by_cases hx : entE x = 0
        · rw [hx] at HE
          have HX := Lib.hid hx
          rcases (show i = 0 ∨ ∃ j, i = j + 1 from by cases i <;> simp) with rfl | ⟨j, rfl⟩
          · have hv : ltS (lastN xs 0) x.Name = true := ltS_emp (by have := ent_size hx; omega)
            have HN : Hid (dirE xs = dirGo (lastN xs 1) (xs.drop 1)) := by show _ = _; rw [HR.out.1, dirGo_next e1 hx hv, lastN_succ e1]
            clear e1 hx hv
            simp only [Nat.zero_mul, Nat.add_zero] at k0 k1
            obtain ⟨N, I⟩ := x
            simp only at *
            go_upto_region 9 with (go_at_call 74; refine HE.out.mono ?_; rintro e w' ⟨rfl, hb⟩; obtain ⟨c0, c1, hb1⟩ := box_ent hb; have HB1 := Lib.hid (HR.out.2.trans (hb1.mono HR.out.2.size)); clear hb hb1)
            go_quiet (fail)
            have HB2 := Lib.hid (below_drewN HB1.out nq)
            go_wp2
            go_roundw
            case rel => exact ⟨1, by omega, by go_num, HN.out, HB2.out⟩
            case measure => (simp [intOf]; try omega)
          · obtain ⟨y, e2⟩ : ∃ y, xs[j]? = some y := ⟨_, List.getElem?_eq_getElem (by omega)⟩
            have hla : lastN xs (j + 1) = y.Name := lastN_succ e2
            have E2 := Lib.hid e2
            have hj0 : (0 : Int) < ((j + 1 : Nat) : Int) := by omega
            have hj1 : ((j + 1 : Nat) : Int) - 1 = (j : Int) := by omega
            have hji : (j : Int) < (xs.length : Int) := by omega
            have hsm : (xs.length : Int) ≤ 24 := by omega
            cases hv : ltS y.Name x.Name with
            | true =>
              have HN : Hid (dirE xs = dirGo (lastN xs (j + 1 + 1)) (xs.drop (j + 1 + 1))) := by show _ = _; rw [HR.out.1, dirGo_next e1 hx (by rw [hla]; exact hv), lastN_succ e1]
              unfold ltS at hv
              clear e1 hx hla e2
              obtain ⟨N, I⟩ := x
              obtain ⟨N', I'⟩ := y
              simp only at *
              go_upto_region 9 with (go_at_call 74; refine HE.out.mono ?_; rintro e w' ⟨rfl, hb⟩; obtain ⟨c0, c1, hb1⟩ := box_ent hb; have HB1 := Lib.hid (HR.out.2.trans (hb1.mono HR.out.2.size)); obtain ⟨b', o', he, hbB', k2, k3⟩ := entCells (r.below HB1.out) E2.out; cases he; clear hb hb1)
              go_quiet (fail)
              have HB2 := Lib.hid (below_drewN HB1.out nq)
              go_wp2
              go_roundw
              case rel => exact ⟨j + 1 + 1, by omega, by go_num, HN.out, HB2.out⟩
              case measure => (simp [intOf]; try omega)
            | false =>
              have F : Hid (dirE xs = 4) := by show _ = _; rw [HR.out.1, dirGo_form e1 hx (by rw [hla]; exact hv)]
              unfold ltS at hv
              clear e1 hx hla e2
              obtain ⟨N, I⟩ := x
              obtain ⟨N', I'⟩ := y
              simp only at *
              go_upto_region 9 with (go_at_call 74; refine HE.out.mono ?_; rintro e w' ⟨rfl, hb⟩; obtain ⟨c0, c1, hb1⟩ := box_ent hb; have HB1 := Lib.hid (HR.out.2.trans (hb1.mono HR.out.2.size)); obtain ⟨b', o', he, hbB', k2, k3⟩ := entCells (r.below HB1.out) E2.out; cases he; clear hb hb1)
              go_quiet (fail)
              have HB2 := Lib.hid (below_drewN HB1.out nq)
              go_wp2
              go_ret
              exact ⟨by rw [F.out]; rfl, HB2.out⟩
        · have F : Hid (dirE xs = entE x) := by show _ = _; rw [HR.out.1, dirGo_bad e1 hx]
          have hx2 : (entE x != 0) = true := bne_iff_ne.2 hx
          clear e1 hx
          generalize entE x = E at *
          obtain ⟨N, I⟩ := x
          simp only at *
          go_wp2_with (go_at_call 74; refine HE.out.mono ?_; rintro e w' ⟨rfl, hb⟩; obtain ⟨d0, d1, hb1⟩ := box_ent hb; have HB1 := Lib.hid (HR.out.2.trans (hb1.mono HR.out.2.size)); clear hb hb1)
          go_ret
          exact ⟨by rw [F.out]; rfl, HB1.out⟩
      · obtain rfl : i = xs.length := by omega
        have F : Hid (dirE xs = 0) := by show _ = _; rw [HR.out.1, dirGo_end]
        go_wp2
        go_ret
        exact ⟨by rw [F.out]; rfl, HR.out.2⟩
end Go.Proofs.Ytnnmiolgffcgkaa
