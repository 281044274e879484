/- point.Write and linenref.PointText, walked. -/
import Derived.Test.YteppengbjpdaiaaSealW
import Derived.Test.YteppengbjpdaiaaImapT
namespace Go.Proofs.Yteppengbjpdaiaa
open Go.RowKit Go.PlainAid

theorem box3 (w : World) (v0 v1 v2 : Value) (t : TypeId) : (w.alloc (.cells #[v0, v1, v2] t)).cell? ⟨w.heap.size, 0, none⟩ = some v0 ∧ (w.alloc (.cells #[v0, v1, v2] t)).cell? ⟨w.heap.size, 1, none⟩ = some v1 ∧ (w.alloc (.cells #[v0, v1, v2] t)).cell? ⟨w.heap.size, 2, none⟩ = some v2 := by
  refine ⟨?_, ?_, ?_⟩ <;> (unfold World.cell?; rw [heap_alloc_new w _]; rfl)
/-- The text of a map that is right has at most 48 times 7 bytes. -/
def PntBad (t z : Int) : Prop := z < 0 ∨ 2147483647 < z ∨ t < 0 ∨ 2147483647 < t
open Classical in
noncomputable def pntBody (z : Int) (xs : List PlaceD) (gs : List Int) : ByteArray := strOfNums (fixL 4 z ++ impS xs gs)
open Classical in
noncomputable def pntE (t z : Int) (xs : List PlaceD) (gs : List Int) : Int := if PntBad t z then 1 else if impE xs gs ≠ 0 then impE xs gs else sealE 2 t (pntBody z xs gs).size
open Classical in
noncomputable def pntS (t z : Int) (xs : List PlaceD) (gs : List Int) : List Int := if PntBad t z then [] else if impE xs gs ≠ 0 then [] else sealS 2 t (pntBody z xs gs)
theorem pnt_bad {t z : Int} {xs : List PlaceD} {gs : List Int} (h : PntBad t z) : pntE t z xs gs = 1 ∧ pntS t z xs gs = [] := by unfold pntE pntS; rw [if_pos h, if_pos h]; exact ⟨rfl, rfl⟩
theorem pnt_map {t z : Int} {xs : List PlaceD} {gs : List Int} (h : ¬ PntBad t z) (h2 : impE xs gs ≠ 0) : pntE t z xs gs = impE xs gs ∧ pntS t z xs gs = [] := by unfold pntE pntS; rw [if_neg h, if_neg h, if_pos h2, if_pos h2]; exact ⟨rfl, rfl⟩
theorem pnt_ok {t z : Int} {xs : List PlaceD} {gs : List Int} (h : ¬ PntBad t z) (h2 : impE xs gs = 0) : pntE t z xs gs = sealE 2 t (pntBody z xs gs).size ∧ pntS t z xs gs = sealS 2 t (pntBody z xs gs) := by
  unfold pntE pntS; rw [if_neg h, if_neg h, if_neg (by simp [h2]), if_neg (by simp [h2])]; exact ⟨rfl, rfl⟩
theorem impL_len : ∀ (xs : List PlaceD) (gs : List Int), (impL xs gs).length ≤ 12 * xs.length
  | [], _ => by simp [impL]
  | _ :: _, [] => by simp [impL]
  | p :: ps, g :: gs => by
    have h := impL_len ps gs
    have h2 : (putL g).length ≤ 10 := (putF_length 9 g).1
    simp only [impL, List.length_append, List.length_cons]
    omega
theorem impS_len (xs : List PlaceD) (gs : List Int) : (impS xs gs).length ≤ 12 * xs.length := by
  unfold impS; split
  · exact impL_len xs gs
  · simp

set_option maxRecDepth 20000 in
set_option maxHeartbeats 400000 in
theorem pntw_bad (t z : Int) (A : Option Addr) (n c : Nat) (xs : List PlaceD) (A' : Option Addr) (n' c' : Nat) (gs : List Int) (w : World) (r : RowsIn w w.heap.size A n c PlaceD.cells 2 xs) (r' : RowsIn w w.heap.size A' n' c' (fun z => [.int .i64 z]) 1 gs) (h : PntBad t z) :
    Calls Try.prog 29 #[.int .i64 t, .agg #[.int .i64 z, .slice A n c, .slice A' n' c']] w fun e w' => e = .returned (.tuple #[.string (strOfNums (pntS t z xs gs)), .int .i64 (pntE t z xs gs)]) ∧ Below w.heap.size w w' := by
  have F := Lib.hid (pnt_bad (xs := xs) (gs := gs) h)
  clear r r'
  obtain ⟨p0, p1, p2⟩ := box3 w (.int .i64 z) (.slice A n c) (.slice A' n' c') 47
  have hwb : Below w.heap.size w (w.alloc (.cells #[.int .i64 z, .slice A n c, .slice A' n' c'] 47)) := (Below.refl _ _).alloc (Nat.le_refl _) _
  have hws : w.heap.size < (w.alloc (.cells #[.int .i64 z, .slice A n c, .slice A' n' c'] 47)).heap.size := by simp
  clear p1 p2 hws
  unfold PntBad at h
  rcases (show z < 0 ∨ (0 ≤ z ∧ 2147483647 < z) ∨ (0 ≤ z ∧ z ≤ 2147483647 ∧ t < 0) ∨ (0 ≤ z ∧ z ≤ 2147483647 ∧ 0 ≤ t ∧ 2147483647 < t) by omega) with h1 | ⟨h1, h2⟩ | ⟨h1, h2, h3⟩ | ⟨h1, h2, h3, h4⟩ <;> clear h
  · go_enter Try.func29, Try.ntmps29
    go_wp2
    go_ret2
    exact ⟨ret_s2 (by rw [F.out.2]; rfl) F.out.1.symm, hwb⟩
  · go_enter Try.func29, Try.ntmps29
    go_wp2
    go_ret2
    exact ⟨ret_s2 (by rw [F.out.2]; rfl) F.out.1.symm, hwb⟩
  · go_enter Try.func29, Try.ntmps29
    go_wp2
    go_ret2
    exact ⟨ret_s2 (by rw [F.out.2]; rfl) F.out.1.symm, hwb⟩
  · go_enter Try.func29, Try.ntmps29
    go_wp2
    go_ret2
    exact ⟨ret_s2 (by rw [F.out.2]; rfl) F.out.1.symm, hwb⟩
set_option maxRecDepth 20000 in
set_option maxHeartbeats 1000000 in
theorem pntw_any (t z : Int) (A : Option Addr) (n c : Nat) (xs : List PlaceD) (A' : Option Addr) (n' c' : Nat) (gs : List Int) (w : World) (r : RowsIn w w.heap.size A n c PlaceD.cells 2 xs) (r' : RowsIn w w.heap.size A' n' c' (fun z => [.int .i64 z]) 1 gs) :
    Calls Try.prog 29 #[.int .i64 t, .agg #[.int .i64 z, .slice A n c, .slice A' n' c']] w fun e w' => e = .returned (.tuple #[.string (strOfNums (pntS t z xs gs)), .int .i64 (pntE t z xs gs)]) ∧ Below w.heap.size w w' := by
  by_cases h : PntBad t z
  · exact pntw_bad t z A n c xs A' n' c' gs w r r' h
  · have hb : 0 ≤ z ∧ z ≤ 2147483647 ∧ 0 ≤ t ∧ t ≤ 2147483647 := by unfold PntBad at h; omega
    obtain ⟨z0, z1, t0, t1⟩ := hb
    obtain ⟨p0, p1, p2⟩ := box3 w (.int .i64 z) (.slice A n c) (.slice A' n' c') 47
    have hwb : Below w.heap.size w (w.alloc (.cells #[.int .i64 z, .slice A n c, .slice A' n' c'] 47)) := (Below.refl _ _).alloc (Nat.le_refl _) _
    have hws : w.heap.size < (w.alloc (.cells #[.int .i64 z, .slice A n c, .slice A' n' c'] 47)).heap.size := by simp
    obtain ⟨wa, hwa⟩ : ∃ wa, wa = w.alloc (.cells #[.int .i64 z, .slice A n c, .slice A' n' c'] 47) := ⟨_, rfl⟩
    rw [← hwa] at p0 p1 p2 hwb hws
    have H := Lib.hid (imapw_any A n c xs A' n' c' gs wa ((r.below hwb).more (Nat.le_of_lt hws)) ((r'.below hwb).more (Nat.le_of_lt hws)))
    by_cases hE : impE xs gs = 0
    · have F := Lib.hid (pnt_ok h hE)
      have hlx : xs.length = 48 := (impE_zero hE).1
      have hl := impS_len xs gs
      have hbz : (pntBody z xs gs).size ≤ 600 := by unfold pntBody; rw [strOfNums_size, List.length_append, fixL_length]; omega
      rw [hE] at H
      have u1 : IntKind.u64.wrap z = z := by rw [IntKind.wrap_u64]; omega
      have CF : Hid (∀ W, Calls Try.prog 48 #[.int .u64 z, .int .i64 4] W fun e w' => e = .returned (.string (strOfNums (fixL 4 z))) ∧ Below W.heap.size W w') := fun W => by
        have := fix_any z 4 W (by omega) (by omega) (by omega) (by omega); rwa [fixW4'] at this
      have CS : Hid (∀ W, Calls Try.prog 15 #[.int .i64 2, .int .i64 t, .string (pntBody z xs gs)] W fun e w' => e = .returned (.tuple #[.string (strOfNums (sealS 2 t (pntBody z xs gs))), .int .i64 (sealE 2 t (pntBody z xs gs).size)]) ∧ Below W.heap.size W w') := fun W => seal_any 2 t _ W
      have hcat := run_cat (P := Try.prog) (fixL 4 z) (impS xs gs) (by rw [fixL_length]; omega)
      rw [show strOfNums (fixL 4 z ++ impS xs gs) = pntBody z xs gs from rfl] at hcat
      generalize pntBody z xs gs = BB at *
      generalize impS xs gs = II at *
      generalize fixL 4 z = ZZ at *
      clear hE h hl hlx hbz r r'
      go_enter Try.func29, Try.ntmps29
      go_wp2_with (first
        | (go_at_call 60; rw [← hwa]; refine H.out.mono ?_; rintro e w1 ⟨rfl, hb1⟩; have q0 := (hb1.cell (p := ⟨w.heap.size, 0, none⟩) hws).trans p0; have hb2 := hwb.trans (hb1.mono (Nat.le_of_lt hws)))
        | (go_at_call 48; refine (CF.out _).mono ?_; rintro e w2 ⟨rfl, hb3⟩; have hb4 := hb2.trans (hb3.mono hb2.size))
        | (go_at_call 15; refine (CS.out _).mono ?_; rintro e w3 ⟨rfl, hb5⟩))
      go_ret2
      exact ⟨ret_s2 (by rw [F.out.2]) F.out.1.symm, hb4.trans (hb5.mono hb4.size)⟩
    · have F := Lib.hid (pnt_map h hE)
      have hne : (impE xs gs != 0) = true := bne_iff_ne.2 hE
      generalize impE xs gs = ee at *
      generalize impS xs gs = II at *
      clear hE h r r'
      go_enter Try.func29, Try.ntmps29
      go_wp2_with (go_at_call 60; rw [← hwa]; refine H.out.mono ?_; rintro e w1 ⟨rfl, hb1⟩; have hb2 := hwb.trans (hb1.mono (Nat.le_of_lt hws)))
      go_ret2
      exact ⟨ret_s2 (by rw [F.out.2]; rfl) F.out.1.symm, hb2⟩

set_option maxRecDepth 20000 in
set_option maxHeartbeats 400000 in
theorem pntr_bad (t z : Int) (A : Option Addr) (n c : Nat) (xs : List PlaceD) (A' : Option Addr) (n' c' : Nat) (gs : List Int) (w : World) (r : RowsIn w w.heap.size A n c PlaceD.cells 2 xs) (r' : RowsIn w w.heap.size A' n' c' (fun z => [.int .i64 z]) 1 gs) (h : PntBad t z) :
    Calls Try.prog 30 #[.int .i64 t, .agg #[.int .i64 z, .slice A n c, .slice A' n' c']] w fun e w' => e = .returned (.tuple #[.string (strOfNums (pntS t z xs gs)), .int .i64 (pntE t z xs gs)]) ∧ Below w.heap.size w w' := by
  have F := Lib.hid (pnt_bad (xs := xs) (gs := gs) h)
  clear r r'
  obtain ⟨p0, p1, p2⟩ := box3 w (.int .i64 z) (.slice A n c) (.slice A' n' c') 47
  have hwb : Below w.heap.size w (w.alloc (.cells #[.int .i64 z, .slice A n c, .slice A' n' c'] 47)) := (Below.refl _ _).alloc (Nat.le_refl _) _
  have hws : w.heap.size < (w.alloc (.cells #[.int .i64 z, .slice A n c, .slice A' n' c'] 47)).heap.size := by simp
  clear p1 p2 hws
  unfold PntBad at h
  rcases (show z < 0 ∨ (0 ≤ z ∧ 2147483647 < z) ∨ (0 ≤ z ∧ z ≤ 2147483647 ∧ t < 0) ∨ (0 ≤ z ∧ z ≤ 2147483647 ∧ 0 ≤ t ∧ 2147483647 < t) by omega) with h1 | ⟨h1, h2⟩ | ⟨h1, h2, h3⟩ | ⟨h1, h2, h3, h4⟩ <;> clear h
  · go_enter Try.func30, Try.ntmps30
    go_wp2
    go_ret2
    exact ⟨ret_s2 (by rw [F.out.2]; rfl) F.out.1.symm, hwb⟩
  · go_enter Try.func30, Try.ntmps30
    go_wp2
    go_ret2
    exact ⟨ret_s2 (by rw [F.out.2]; rfl) F.out.1.symm, hwb⟩
  · go_enter Try.func30, Try.ntmps30
    go_wp2
    go_ret2
    exact ⟨ret_s2 (by rw [F.out.2]; rfl) F.out.1.symm, hwb⟩
  · go_enter Try.func30, Try.ntmps30
    go_wp2
    go_ret2
    exact ⟨ret_s2 (by rw [F.out.2]; rfl) F.out.1.symm, hwb⟩
set_option maxRecDepth 20000 in
set_option maxHeartbeats 1000000 in
theorem pntr_any (t z : Int) (A : Option Addr) (n c : Nat) (xs : List PlaceD) (A' : Option Addr) (n' c' : Nat) (gs : List Int) (w : World) (r : RowsIn w w.heap.size A n c PlaceD.cells 2 xs) (r' : RowsIn w w.heap.size A' n' c' (fun z => [.int .i64 z]) 1 gs) :
    Calls Try.prog 30 #[.int .i64 t, .agg #[.int .i64 z, .slice A n c, .slice A' n' c']] w fun e w' => e = .returned (.tuple #[.string (strOfNums (pntS t z xs gs)), .int .i64 (pntE t z xs gs)]) ∧ Below w.heap.size w w' := by
  by_cases h : PntBad t z
  · exact pntr_bad t z A n c xs A' n' c' gs w r r' h
  · have hb : 0 ≤ z ∧ z ≤ 2147483647 ∧ 0 ≤ t ∧ t ≤ 2147483647 := by unfold PntBad at h; omega
    obtain ⟨z0, z1, t0, t1⟩ := hb
    obtain ⟨p0, p1, p2⟩ := box3 w (.int .i64 z) (.slice A n c) (.slice A' n' c') 47
    have hwb : Below w.heap.size w (w.alloc (.cells #[.int .i64 z, .slice A n c, .slice A' n' c'] 47)) := (Below.refl _ _).alloc (Nat.le_refl _) _
    have hws : w.heap.size < (w.alloc (.cells #[.int .i64 z, .slice A n c, .slice A' n' c'] 47)).heap.size := by simp
    obtain ⟨wa, hwa⟩ : ∃ wa, wa = w.alloc (.cells #[.int .i64 z, .slice A n c, .slice A' n' c'] 47) := ⟨_, rfl⟩
    rw [← hwa] at p0 p1 p2 hwb hws
    have H := Lib.hid (imapt_any A n c xs A' n' c' gs wa ((r.below hwb).more (Nat.le_of_lt hws)) ((r'.below hwb).more (Nat.le_of_lt hws)))
    by_cases hE : impE xs gs = 0
    · have F := Lib.hid (pnt_ok h hE)
      have hlx : xs.length = 48 := (impE_zero hE).1
      have hl := impS_len xs gs
      have hbz : (pntBody z xs gs).size ≤ 600 := by unfold pntBody; rw [strOfNums_size, List.length_append, fixL_length]; omega
      rw [hE] at H
      have u1 : IntKind.u64.wrap z = z := by rw [IntKind.wrap_u64]; omega
      have CF : Hid (∀ W, Calls Try.prog 50 #[.int .u64 z, .int .i64 4] W fun e w' => e = .returned (.string (strOfNums (fixL 4 z))) ∧ Below W.heap.size W w') := fun W => by
        have := fixr_any z 4 W (by omega) (by omega) (by omega) (by omega); rwa [fixW4'] at this
      have CS : Hid (∀ W, Calls Try.prog 16 #[.int .i64 2, .int .i64 t, .string (pntBody z xs gs)] W fun e w' => e = .returned (.tuple #[.string (strOfNums (sealS 2 t (pntBody z xs gs))), .int .i64 (sealE 2 t (pntBody z xs gs).size)]) ∧ Below W.heap.size W w') := fun W => sealr_any 2 t _ W
      have hcat := run_cat (P := Try.prog) (fixL 4 z) (impS xs gs) (by rw [fixL_length]; omega)
      rw [show strOfNums (fixL 4 z ++ impS xs gs) = pntBody z xs gs from rfl] at hcat
      generalize pntBody z xs gs = BB at *
      generalize impS xs gs = II at *
      generalize fixL 4 z = ZZ at *
      clear hE h hl hlx hbz r r'
      go_enter Try.func30, Try.ntmps30
      go_wp2_with (first
        | (go_at_call 61; rw [← hwa]; refine H.out.mono ?_; rintro e w1 ⟨rfl, hb1⟩; have q0 := (hb1.cell (p := ⟨w.heap.size, 0, none⟩) hws).trans p0; have hb2 := hwb.trans (hb1.mono (Nat.le_of_lt hws)))
        | (go_at_call 50; refine (CF.out _).mono ?_; rintro e w2 ⟨rfl, hb3⟩; have hb4 := hb2.trans (hb3.mono hb2.size))
        | (go_at_call 16; refine (CS.out _).mono ?_; rintro e w3 ⟨rfl, hb5⟩))
      go_ret2
      exact ⟨ret_s2 (by rw [F.out.2]) F.out.1.symm, hb4.trans (hb5.mono hb4.size)⟩
    · have F := Lib.hid (pnt_map h hE)
      have hne : (impE xs gs != 0) = true := bne_iff_ne.2 hE
      generalize impE xs gs = ee at *
      generalize impS xs gs = II at *
      clear hE h r r'
      go_enter Try.func30, Try.ntmps30
      go_wp2_with (go_at_call 61; rw [← hwa]; refine H.out.mono ?_; rintro e w1 ⟨rfl, hb1⟩; have hb2 := hwb.trans (hb1.mono (Nat.le_of_lt hws)))
      go_ret2
      exact ⟨ret_s2 (by rw [F.out.2]; rfl) F.out.1.symm, hb2⟩

end Go.Proofs.Yteppengbjpdaiaa
