/- inode.Write and linenref.InodeText, walked. -/
import Derived.Test.YtjmgocfoimhmjaaInodeW
import Derived.Test.YtjmgocfoimhmjaaFixW
import Derived.Deep.RegionHeld3
namespace Go.Proofs.Ytjmgocfoimhmjaa
open Go.RowKit

theorem keep4d {w0 W : World} {B : Nat} {v0 v1 v2 v3 : Value} (h : W.cell? ⟨B, 0, none⟩ = some v0 ∧ W.cell? ⟨B, 1, none⟩ = some v1 ∧ W.cell? ⟨B, 2, none⟩ = some v2 ∧ W.cell? ⟨B, 3, none⟩ = some v3 ∧ B < W.heap.size ∧ Below w0.heap.size w0 W) :
    W.drew.cell? ⟨B, 0, none⟩ = some v0 ∧ W.drew.cell? ⟨B, 1, none⟩ = some v1 ∧ W.drew.cell? ⟨B, 2, none⟩ = some v2 ∧ W.drew.cell? ⟨B, 3, none⟩ = some v3 ∧ B < W.drew.heap.size ∧ Below w0.heap.size w0 W.drew := ⟨h.1, h.2.1, h.2.2.1, h.2.2.2.1, h.2.2.2.2.1, h.2.2.2.2.2.drew⟩
theorem keep4b {w0 W W' : World} {B : Nat} {v0 v1 v2 v3 : Value} (h : W.cell? ⟨B, 0, none⟩ = some v0 ∧ W.cell? ⟨B, 1, none⟩ = some v1 ∧ W.cell? ⟨B, 2, none⟩ = some v2 ∧ W.cell? ⟨B, 3, none⟩ = some v3 ∧ B < W.heap.size ∧ Below w0.heap.size w0 W) (hb : Below W.heap.size W W') :
    W'.cell? ⟨B, 0, none⟩ = some v0 ∧ W'.cell? ⟨B, 1, none⟩ = some v1 ∧ W'.cell? ⟨B, 2, none⟩ = some v2 ∧ W'.cell? ⟨B, 3, none⟩ = some v3 ∧ B < W'.heap.size ∧ Below w0.heap.size w0 W' := by
  obtain ⟨h0, h1, h2, h3, h4, h5⟩ := h
  have hz := hb.size
  exact ⟨(hb.cell (p := ⟨B, 0, none⟩) h4).trans h0, (hb.cell (p := ⟨B, 1, none⟩) h4).trans h1, (hb.cell (p := ⟨B, 2, none⟩) h4).trans h2, (hb.cell (p := ⟨B, 3, none⟩) h4).trans h3, by omega, h5.trans (hb.mono h5.size)⟩
theorem keep2d {w0 W : World} {B : Nat} {v0 v1 : Value} (h : W.cell? ⟨B, 0, none⟩ = some v0 ∧ W.cell? ⟨B, 1, none⟩ = some v1 ∧ B < W.heap.size ∧ Below w0.heap.size w0 W) :
    W.drew.cell? ⟨B, 0, none⟩ = some v0 ∧ W.drew.cell? ⟨B, 1, none⟩ = some v1 ∧ B < W.drew.heap.size ∧ Below w0.heap.size w0 W.drew := ⟨h.1, h.2.1, h.2.2.1, h.2.2.2.drew⟩
theorem keep2b {w0 W W' : World} {B : Nat} {v0 v1 : Value} (h : W.cell? ⟨B, 0, none⟩ = some v0 ∧ W.cell? ⟨B, 1, none⟩ = some v1 ∧ B < W.heap.size ∧ Below w0.heap.size w0 W) (hb : Below W.heap.size W W') :
    W'.cell? ⟨B, 0, none⟩ = some v0 ∧ W'.cell? ⟨B, 1, none⟩ = some v1 ∧ B < W'.heap.size ∧ Below w0.heap.size w0 W' := by
  obtain ⟨h0, h1, h4, h5⟩ := h
  have hz := hb.size
  exact ⟨(hb.cell (p := ⟨B, 0, none⟩) h4).trans h0, (hb.cell (p := ⟨B, 1, none⟩) h4).trans h1, by omega, h5.trans (hb.mono h5.size)⟩
theorem box2' (w : World) (v0 v1 : Value) (t : TypeId) : (w.alloc (.cells #[v0, v1] t)).cell? ⟨w.heap.size, 0, none⟩ = some v0 ∧ (w.alloc (.cells #[v0, v1] t)).cell? ⟨w.heap.size, 1, none⟩ = some v1 := by
  constructor <;> (unfold World.cell?; rw [heap_alloc_new w _]; rfl)
noncomputable def inoS (k g s : Int) (xs : List PlaceD) : List Int := if inoE k g s xs = 0 then inoL k g s xs else []

set_option maxRecDepth 20000 in
set_option maxHeartbeats 1000000 in
theorem inot_any (k g s : Int) (A : Option Addr) (n c : Nat) (xs : List PlaceD) (w : World) (hs0 : -9223372036854775808 ≤ s) (hs1 : s ≤ 9223372036854775807) (r : RowsIn w w.heap.size A n c PlaceD.cells 2 xs) :
    Calls Try.prog 114 #[.agg #[.int .i64 k, .int .i64 g, .int .i64 s, .slice A n c]] w fun e w' => e = .returned (.tuple #[.string (strOfNums (inoS k g s xs)), .int .i64 (inoE k g s xs)]) ∧ Below w.heap.size w w' := by
  have hbw : Below w.heap.size w (w.alloc (.cells #[.int .i64 k, .int .i64 g, .int .i64 s, .slice A n c] 116)) := (Below.refl _ _).alloc (Nat.le_refl _) _
  obtain ⟨hb0, hb1, hb2, hb3⟩ := box4 w (.int .i64 k) (.int .i64 g) (.int .i64 s) (.slice A n c) 116
  have hws : w.heap.size < (w.alloc (.cells #[.int .i64 k, .int .i64 g, .int .i64 s, .slice A n c] 116)).heap.size := by simp
  obtain ⟨wa, hwa⟩ : ∃ wa, wa = w.alloc (.cells #[.int .i64 k, .int .i64 g, .int .i64 s, .slice A n c] 116) := ⟨_, rfl⟩
  rw [← hwa] at hb0 hb1 hb2 hb3 hbw hws
  have H := Lib.hid (inor_any k g s A n c xs wa hs0 hs1 ((r.below hbw).more (Nat.le_of_lt hws)))
  have hlen := r.len
  subst hlen
  by_cases hE : inoE k g s xs = 0
  · obtain ⟨hk, hg0, hg1, hz0, hz1, hln, hri⟩ := inoE_zero hE
    have hS : inoS k g s xs = inoL k g s xs := if_pos hE
    rw [hE] at H
    have F := Lib.hid hS
    have E := Lib.hid hE
    have HR := Lib.hid hri
    clear hS hE hri
    have hk0 : 1 ≤ k ∧ k ≤ 2 := by omega
    clear hk
    have hl8 : xs.length ≤ 8 := by omega
    clear hln
    have u1 : IntKind.u64.wrap k = k := by rw [IntKind.wrap_u64]; omega
    have u2 : IntKind.u64.wrap g = g := by rw [IntKind.wrap_u64]; omega
    have u3 : IntKind.u64.wrap s = s := by rw [IntKind.wrap_u64]; omega
    have C1 : Hid (∀ W, Calls Try.prog 87 #[.int .u64 k, .int .i64 1] W fun e w' => e = .returned (.string (strOfNums (fixL 1 k))) ∧ Below W.heap.size W w') := fun W => by
      have := fixr_any k 1 W (by omega) (by omega) (by omega) (by omega); rwa [fixW1] at this
    have C2 : Hid (∀ W, Calls Try.prog 87 #[.int .u64 g, .int .i64 4] W fun e w' => e = .returned (.string (strOfNums (fixL 4 g))) ∧ Below W.heap.size W w') := fun W => by
      have := fixr_any g 4 W (by omega) (by omega) (by omega) (by omega); rwa [fixW4] at this
    have C3 : Hid (∀ W, Calls Try.prog 87 #[.int .u64 s, .int .i64 2] W fun e w' => e = .returned (.string (strOfNums (fixL 2 s))) ∧ Below W.heap.size W w') := fun W => by
      have := fixr_any s 2 W (by omega) (by omega) (by omega) (by omega); rwa [fixW2] at this
    have l1 := fixL_length 1 k
    have l2 := fixL_length 4 g
    have l3 := fixL_length 2 s
    have F2 : Hid (inoL k g s xs = fixL 1 k ++ fixL 4 g ++ fixL 2 s ++ partsL xs) := rfl
    generalize fixL 1 k = L1 at *
    generalize fixL 4 g = L2 at *
    generalize fixL 2 s = L3 at *
    have hcat1 := run_cat (P := Try.prog) L1 L2 (by omega)
    have hcat2 := run_cat (P := Try.prog) (L1 ++ L2) L3 (by rw [List.length_append]; omega)
    go_enter Try.func114, Try.ntmps114
    go_wp2_with (go_at_call 116; rw [← hwa]; refine H.out.mono ?_; rintro e w1 ⟨rfl, hbc⟩)
    have HS : w1.cell? ⟨w.heap.size, 0, none⟩ = some (.int .i64 k) ∧ w1.cell? ⟨w.heap.size, 1, none⟩ = some (.int .i64 g) ∧ w1.cell? ⟨w.heap.size, 2, none⟩ = some (.int .i64 s) ∧ w1.cell? ⟨w.heap.size, 3, none⟩ = some (.slice A xs.length c) ∧ w.heap.size < w1.heap.size ∧ Below w.heap.size w w1 := by
      have hz := hbc.size
      exact ⟨(hbc.cell (p := ⟨w.heap.size, 0, none⟩) hws).trans hb0, (hbc.cell (p := ⟨w.heap.size, 1, none⟩) hws).trans hb1, (hbc.cell (p := ⟨w.heap.size, 2, none⟩) hws).trans hb2, (hbc.cell (p := ⟨w.heap.size, 3, none⟩) hws).trans hb3, by omega, hbw.trans (hbc.mono (Nat.le_of_lt hws))⟩
    clear hwa H hbc hbw hb0 hb1 hb2 hb3 hws
    go_region_held3 (fun W => W.cell? ⟨w.heap.size, 0, none⟩ = some (.int .i64 k) ∧ W.cell? ⟨w.heap.size, 1, none⟩ = some (.int .i64 g) ∧ W.cell? ⟨w.heap.size, 2, none⟩ = some (.int .i64 s) ∧ W.cell? ⟨w.heap.size, 3, none⟩ = some (.slice A xs.length c) ∧ w.heap.size < W.heap.size ∧ Below w.heap.size w W)
      (first | assumption | exact keep4d (by assumption) | exact keep4b (by assumption) (by assumption))
      (first
      | (go_at_call_of 87 (Value.int .i64 1); refine (C1.out _).mono ?_; rintro e w' ⟨rfl, hb⟩)
      | (go_at_call_of 87 (Value.int .i64 4); refine (C2.out _).mono ?_; rintro e w' ⟨rfl, hb⟩)
      | (go_at_call_of 87 (Value.int .i64 2); refine (C3.out _).mono ?_; rintro e w' ⟨rfl, hb⟩))
    rename_i hHeld
    obtain ⟨hc0, hc1, hc2, hc3, hlt3, hfin3⟩ := hHeld
    clear hcat1 hcat2 u1 u2 u3 C1 C2 C3 hc0 hc1 hc2
    go_wp2
    go_loopw [5, 30] (fun v5 v30 wr => ∃ (i : Nat) (T : List Int), i ≤ xs.length ∧ T.length ≤ 7 + 2 * i ∧ Hid (T = L1 ++ (L2 ++ L3) ++ partsL (xs.take i)) ∧ v30 = .int .i64 i ∧ v5 = .string (strOfNums T) ∧ Below w.heap.size w wr) (fun _ v30 _ => xs.length - (intOf v30).toNat)
    case atStart => exact ⟨0, L1 ++ (L2 ++ L3), Nat.zero_le _, by simp; omega, by simp [Hid, partsL], rfl, rfl, hfin3⟩
    case round =>
      obtain ⟨i, T, hi, hT, hTe, rfl, rfl, hb⟩ := hrel
      have hsz := hb.size
      by_cases hlt : i < xs.length
      · obtain ⟨p, e1, g1⟩ := HR.out i hlt
        obtain ⟨b, o, rfl, hbB, hc⟩ := (r.below hb).at_ i _ e1
        obtain ⟨pc, pn⟩ := p
        have hp0 := hc 0 _ rfl
        have hp1 := hc 1 _ rfl
        simp only [Nat.add_zero] at hp0
        obtain ⟨z0, z1, z2, z3⟩ := right_bd g1
        simp only at z0 z1 z2 z3
        have HP := Lib.hid (partsL_take xs i _ e1)
        clear hc e1 g1
        have D1 : Hid (∀ W, Calls Try.prog 87 #[.int .u64 (pc * 256 + pn), .int .i64 2] W fun e w' => e = .returned (.string (strOfNums [pc, pn])) ∧ Below W.heap.size W w') := fun W => by
          have := fixr_any (pc * 256 + pn) 2 W (by omega) (by omega) (by omega) (by omega); rwa [fix2 (by omega) (by omega) (by omega) (by omega)] at this
        have hcatB := run_cat (P := Try.prog) T [pc, pn] (by simp; omega)
        have u1 : IntKind.u64.wrap (pc * 256 + pn) = pc * 256 + pn := by rw [IntKind.wrap_u64]; omega
        go_wp2_with (go_at_call 87; refine (D1.out _).mono ?_; rintro e w' ⟨rfl, hbf⟩)
        go_roundw
        case rel => exact ⟨i + 1, T ++ [pc, pn], by omega, by simp; omega, by simp only [Hid]; rw [HP.out, hTe.out]; simp, by go_num, rfl, (hb.alloc hsz _).trans (hbf.mono (by simp; omega))⟩
        case measure => simp [intOf]; omega
      · have hF : inoS k g s xs = T := by
          rw [F.out, F2.out, hTe.out, List.take_of_length_le (by omega)]; simp
        go_wp2
        go_ret2
        exact ⟨ret_s2 (by rw [hF]) E.out.symm, hb⟩
  · have hS : inoS k g s xs = [] := if_neg hE
    have hne : (inoE k g s xs != 0) = true := bne_iff_ne.2 hE
    have F := Lib.hid hS
    generalize inoE k g s xs = ee at *
    clear hE
    go_enter Try.func114, Try.ntmps114
    go_wp2_with (go_at_call 116; rw [← hwa]; refine H.out.mono ?_; rintro e w1 ⟨rfl, hbc⟩)
    go_ret2
    exact ⟨ret_s2 (by rw [F.out]; rfl) rfl, hbw.trans (hbc.mono (Nat.le_of_lt hws))⟩
end Go.Proofs.Ytjmgocfoimhmjaa
