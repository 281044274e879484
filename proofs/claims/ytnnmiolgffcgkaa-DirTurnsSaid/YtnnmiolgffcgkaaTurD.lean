/- slices.Insert in all; slices.Delete of one entry, walked. -/
import Derived.Test.YtnnmiolgffcgkaaTurJ
import Derived.Test.YtnnmiolgffcgkaaTurG
namespace Go.Proofs.Ytnnmiolgffcgkaa
open Go.RowKit

theorem ins_any (A : Option Addr) (n c i base vb vc : Nat) (cs : List Value) (u0 u1 : Value) (w : World) (hown : Owns w base 2 (.slice A n c) n cs) (hbase : base ≤ w.heap.size) (hn : n ≤ 24) (hi : i ≤ n) (hne : Value.ownBlock (.slice A n c) ≠ some vb) (hvb : w.heap[vb]? = some (.cells #[u0, u1] 44 (0, 0))) (hu0 : u0.oneCell' = true) (hu1 : u1.oneCell' = true) (h1 : ∀ v ∈ cs, v.oneCell' = true) :
    Calls Try.prog 75 #[.slice A n c, .int .i64 i, .slice (some ⟨vb, 0, none⟩) 1 vc] w (InsPost base n (cs.take (i * 2) ++ [u0, u1] ++ cs.drop (i * 2)) w) := by
  by_cases hin : i = n
  · subst hin
    have e := hown.1
    rw [List.take_of_length_le (by omega), List.drop_eq_nil_of_le (by omega), List.append_nil]
    exact ins_end A i c base vb vc cs u0 u1 w hown hbase hn hvb hu0 hu1
  · have hlt : i < n := by omega
    rcases hown.2 with ⟨e, h0⟩ | ⟨g, off, cap, e, _, _, h3, _⟩
    · omega
    · injection e with e1 e2 e3
      subst e1; subst e3
      by_cases hr : n + 1 ≤ c
      · exact ins_room g off n c i base vb vc cs u0 u1 w hown hn hlt hr (fun e => hne (by rw [e]; rfl)) hvb hu0 hu1 h1
      · obtain rfl : c = n := by omega
        exact ins_grow g off c i base vb vc cs u0 u1 w hown hbase hn hlt hvb hu0 hu1 h1

theorem zero_cells1 : (Builtin.zeroCells (Value.agg #[.string ⟨#[]⟩, .int .i64 0]).cells 1).toList = [.string ⟨#[]⟩, .int .i64 0] := by
  have e : (Value.agg #[.string ⟨#[]⟩, .int .i64 0]).cells = #[.string ⟨#[]⟩, .int .i64 0] := rfl
  rw [e]
  apply List.ext_getElem
  · simp [Builtin.zeroCells]
  · intro i h1 h2
    simp at h2
    rcases (show i = 0 ∨ i = 1 by omega) with rfl | rfl <;> simp [Builtin.zeroCells]
theorem zero_ent : ∀ W : World, (zeroValue 44).run Try.prog W = .ok (.agg #[.string ⟨#[]⟩, .int .i64 0]) W := fun W => by
  obtain ⟨j, hj, hz⟩ := Option.map_eq_some_iff.1 info_entT
  simp only [Prod.mk.injEq] at hz
  simp [zeroValue, typeInfo, hj, hz.1]
def DelPost (base : Nat) (p : Nat) (ys : List Value) (w : World) (e : Ending) (w' : World) : Prop := ∃ A c, e = .returned (.slice A p c) ∧ Owns w' base 2 (.slice A p c) p ys ∧ Below base w w'

set_option maxRecDepth 20000 in
set_option maxHeartbeats 1000000 in
theorem del_any (g off p c i base : Nat) (cs : List Value) (w : World) (hown : Owns w base 2 (.slice (some ⟨g, off, none⟩) (p + 1) c) (p + 1) cs) (hn : p ≤ 24) (hi : i ≤ p) (h1 : ∀ v ∈ cs, v.oneCell' = true) :
    Calls Try.prog 78 #[.slice (some ⟨g, off, none⟩) (p + 1) c, .int .i64 i, .int .i64 ((i : Int) + 1)] w (DelPost base p (cs.take (i * 2) ++ cs.drop ((i + 1) * 2)) w) := by
  obtain ⟨hcl, hh⟩ := hown
  rcases hh with ⟨e, _⟩ | ⟨g', off', cap', e, hb, hg, hnc, hcm, hc, hs⟩
  · cases e
  injection e with e1 e2 e3
  injection e1 with e1
  injection e1 with e1 e4
  subst e1; subst e4; subst e3
  obtain ⟨z, hz, hzz⟩ := Option.map_eq_some_iff.1 info_entT
  simp only [Prod.mk.injEq] at hzz
  obtain ⟨hz0, hzs, hzb⟩ := hzz
  obtain ⟨D, hD⟩ : ∃ D, D = cs.drop ((i + 1) * 2) := ⟨_, rfl⟩
  have hDl : D.length = (p - i) * 2 := by rw [hD, List.length_drop, hcl]; omega
  have hDg : ∀ j u, D[j]? = some u → cs[(i + 1) * 2 + j]? = some u := fun j u hu => by rw [hD, List.getElem?_drop] at hu; exact hu
  have hD1 : ∀ v ∈ D, v.oneCell' = true := fun v hv => h1 v (by rw [hD] at hv; exact List.mem_of_mem_drop hv)
  obtain ⟨W1, hW1⟩ : ∃ W1, W1 = w.drew.setCells g (off + i * 2) D := ⟨_, rfl⟩
  obtain ⟨AD, hAD⟩ : ∃ AD : Addr, (if c = i + 1 then (some ⟨g, off, none⟩ : Option Addr) else some ⟨g, off + (i + 1) * 2, none⟩) = some AD := by split <;> exact ⟨_, rfl⟩
  have hsrc : ∀ j u, D[j]? = some u → w.drew.cell? (AD.add j) = some u := fun j u hu => by
    have hj := (List.getElem?_eq_some_iff.1 hu).1
    rw [if_neg (by omega)] at hAD
    injection hAD with hAD
    subst hAD
    rw [add_form, Nat.add_assoc]
    exact hc _ u (hDg j u hu)
  have hap : ∀ ty sc, (Builtin.append_ #[42, 42] ty #[.slice (some ⟨g, off, none⟩) i c, .slice (some AD) (p - i) sc]).run Try.prog w.drew = .ok (.slice (some ⟨g, off, none⟩) p c) W1 := fun ty sc => by
    have h := run_append_room_cells (P := Try.prog) w.drew 42 ty 44 z Try.underlying42 hz g off i c AD (p - i) sc D (by rw [hzs]; exact hDl) hsrc hD1 (by omega) (by rw [hzs]; exact fun j hj => by rw [Nat.add_assoc]; exact (hs _ (by omega)).1) (by rw [hzs]; exact fun j hj => by rw [Nat.add_assoc]; exact (hs _ (by omega)).2)
    rw [hzs, show i + (p - i) = p by omega, ← hW1] at h
    exact h
  have hN1 : ∀ j, j < c * 2 → (W1.cell? ⟨g, off + j, none⟩).isSome = true ∧ W1.frozen? ⟨g, off + j, none⟩ = false := fun j hj => by
    rw [hW1]
    exact ⟨isSome_setCells_mem g D _ w.drew _ (hs j hj).1, by rw [World.frozen?_setCells]; exact (hs j hj).2⟩
  obtain ⟨Z, hZ⟩ : ∃ Z : List Value, Z = [.string ⟨#[]⟩, .int .i64 0] := ⟨_, rfl⟩
  have hcl2 : ∀ ty sc, (Builtin.clear_ #[42] ty #[.slice (some ⟨g, off + p * 2, none⟩) 1 sc]).run Try.prog W1 = .ok (.tuple #[]) (W1.setCells g (off + p * 2) Z) := fun ty sc =>
    run_clear_k W1 42 44 ty (.agg #[.string ⟨#[]⟩, .int .i64 0]) Z Try.underlying42 zero_ent g (off + p * 2) 1 sc (by omega) (by rw [hZ]; exact zero_cells1) (fun v hv => by
      rw [hZ] at hv
      simp at hv
      rcases hv with rfl | rfl <;> rfl) (fun j hj => by rw [hZ] at hj; simp only [List.length_cons, List.length_nil] at hj; rw [Nat.add_assoc]; exact (hN1 _ (by omega)).1) (fun j hj => by rw [hZ] at hj; simp only [List.length_cons, List.length_nil] at hj; rw [Nat.add_assoc]; exact (hN1 _ (by omega)).2)
  have HP : Hid (DelPost base p (cs.take (i * 2) ++ cs.drop ((i + 1) * 2)) w (.returned (.slice (some ⟨g, off, none⟩) p c)) (W1.setCells g (off + p * 2) Z)) := by
    rw [← hD]
    have htl : (cs.take (i * 2)).length = i * 2 := by rw [List.length_take, hcl]; omega
    have hgW : g < W1.heap.size := by rw [hW1, setCells_size]; exact hg
    have hZl : Z.length = 2 := by rw [hZ]; rfl
    refine ⟨_, _, rfl, ⟨by rw [List.length_append, htl, hDl]; omega, .inr ⟨g, off, c, rfl, hb, by rw [setCells_size]; exact hgW, by omega, hcm, fun j u hu => ?_, fun j hj => ⟨isSome_setCells_mem g _ _ W1 _ (hN1 j hj).1, by rw [World.frozen?_setCells]; exact (hN1 j hj).2⟩⟩⟩, ?_⟩
    · have hjl := (List.getElem?_eq_some_iff.1 hu).1
      rw [List.length_append, htl, hDl] at hjl
      rw [World.cell?_setCells_out _ _ _ _ _ (fun _ _ => by show off + j < _ ∨ _; left; omega)]
      by_cases hj1 : j < i * 2
      · rw [List.getElem?_append_left (by omega), List.getElem?_take, if_pos hj1] at hu
        rw [hW1, World.cell?_setCells_out _ _ _ _ _ (fun _ _ => by show off + j < _ ∨ _; left; omega)]
        exact hc j u hu
      · rw [List.getElem?_append_right (by omega), htl] at hu
        have hjd := (List.getElem?_eq_some_iff.1 hu).1
        have := World.cell?_setCells_in g D (off + i * 2) w.drew (fun t ht => by rw [Nat.add_assoc]; exact (hs _ (by omega)).1) (j - i * 2) hjd
        rw [show off + i * 2 + (j - i * 2) = off + j by omega] at this
        rw [hW1, this, ← hu, List.getElem?_eq_getElem hjd]
    · rw [hW1]
      exact below_setCells hb _ _ _ (below_setCells hb _ _ _ (Below.refl _ _).drew)
  generalize DelPost base p (cs.take (i * 2) ++ cs.drop ((i + 1) * 2)) w = PP at *
  have p10 : ((i : Int) + 1).toNat = i + 1 := by omega
  have p11 : (0 : Int) ≤ (i : Int) + 1 := by omega
  have q1 : (i : Int) + 1 ≤ (p : Int) + 1 := by omega
  have q2 : (i : Int) ≤ (p : Int) + 1 := by omega
  have q3 : i + 1 ≤ p + 1 := by omega
  have q4 : i ≤ i + 1 := by omega
  have q5 : p + 1 ≤ c := hnc
  have q6 : (p : Int) + 1 ≤ (c : Int) := by omega
  have q7 : (i : Int) ≤ (c : Int) := by omega
  have q8 : ¬ ((i : Int) = (i : Int) + 1) := by omega
  have q9 : p + 1 - (i + 1) = p - i := by omega
  have q10 : ¬ (c = p) := by omega
  have q11 : p + 1 - p = 1 := by omega
  have q12 : (p : Int) ≤ (p : Int) + 1 := by omega
  have hcI : (c : Int) ≤ 9223372036854775807 := by unfold maxLen at hcm; omega
  have HAP := Lib.hid hap
  have HCL := Lib.hid hcl2
  clear h1 hc hs hcl hb hg hnc hcm hD hDl hDg hD1 hW1 hN1 hz hz0 hzs hzb hsrc hap hcl2 hZ
  go_enter Try.func78, Try.ntmps78
  go_wp2
  go_region_law (refine step_run_app rfl (.tmp 22) (.tmp 25) 42 42 rfl (.slice (some ⟨g, off, none⟩) i c) (.slice (some AD) (p - i) (c - (i + 1))) (by simp [go_sem]) (by simp [go_sem]) (HAP.out 42 (c - (i + 1))) ?_)
  go_wp2_with (refine wpList_run_clear _ rfl (.tmp 31) 42 rfl (.slice (some ⟨g, off + p * 2, none⟩) 1 (c - p)) rfl (HCL.out _ (c - p)) ?_)
  exact HP.out
end Go.Proofs.Ytnnmiolgffcgkaa
