/- slices.Insert of one entry in place, walked. -/
import Derived.Test.YtnnmiolgffcgkaaTurI
namespace Go.Proofs.Ytnnmiolgffcgkaa
open Go.RowKit

set_option maxRecDepth 20000 in
set_option maxHeartbeats 1000000 in
theorem ins_room (g off n c i base vb vc : Nat) (cs : List Value) (u0 u1 : Value) (w : World) (hown : Owns w base 2 (.slice (some ⟨g, off, none⟩) n c) n cs) (hn : n ≤ 24) (hi : i < n) (hroom : n + 1 ≤ c) (hne : vb ≠ g) (hvb : w.heap[vb]? = some (.cells #[u0, u1] 44 (0, 0))) (hu0 : u0.oneCell' = true) (hu1 : u1.oneCell' = true) (h1 : ∀ v ∈ cs, v.oneCell' = true) :
    Calls Try.prog 75 #[.slice (some ⟨g, off, none⟩) n c, .int .i64 i, .slice (some ⟨vb, 0, none⟩) 1 vc] w (InsPost base n (cs.take (i * 2) ++ [u0, u1] ++ cs.drop (i * 2)) w) := by
  obtain ⟨hcl, hh⟩ := hown
  rcases hh with ⟨e, _⟩ | ⟨g', off', cap', e, hb, hg, hnc, hcm, hc, hs⟩
  · cases e
  injection e with e1 e2 e3
  injection e1 with e1
  injection e1 with e1 e4
  subst e1; subst e4; subst e3
  have hcmI : (c : Int) ≤ 9223372036854775807 := by unfold maxLen at hcm; omega
  have hov : ∀ lb cb, (callFunc 104 #[.slice (some ⟨vb, 0, none⟩) 1 vc, .slice (some ⟨g, off + (i + 1) * 2, none⟩) lb cb]).run Try.prog w = .ok (.value (.bool false)) w := fun lb cb => by
    obtain ⟨tB, kB, hsb, hkB⟩ := shape_of (hc 0 _ (List.getElem?_eq_getElem (by omega)))
    have hsa : w.shape? vb = some (44, 2) := by unfold World.shape?; rw [hvb]; rfl
    rw [run_callFunc_extern Try.func104 (by kernel_rfl) (by kernel_rfl) (by kernel_rfl) (e := Extern.SlicesOverlaps.overlaps #[42, 42] #[4]) (by kernel_rfl),
      Lib.run_overlaps_apart w 42 4 44 Try.underlying42 2 (fun w => by
        obtain ⟨j, hj, hz⟩ := Option.map_eq_some_iff.1 info_entT
        simp only [Prod.mk.injEq] at hz
        simp [sizeOf, typeInfo, hj, hz.2.1]) ⟨vb, 0, none⟩ ⟨g, off + (i + 1) * 2, none⟩ 1 vc lb cb hne 44 tB 2 kB hsa hsb hkB (row_cold hvb 0) (row_cold hvb 2)]
    rfl
  have hsz2 : (Try.prog.info? 44).map (·.size) = some 2 := by
    obtain ⟨j, hj, hz⟩ := Option.map_eq_some_iff.1 info_entT
    simp only [Prod.mk.injEq] at hz
    rw [hj]; simp [hz.2.1]
  obtain ⟨D, hD⟩ : ∃ D, D = cs.drop (i * 2) := ⟨_, rfl⟩
  have hDl : D.length = (n - i) * 2 := by rw [hD, List.length_drop, hcl]; omega
  have hDg : ∀ j u, D[j]? = some u → cs[i * 2 + j]? = some u := fun j u hu => by rw [hD, List.getElem?_drop] at hu; exact hu
  have hD1 : ∀ v ∈ D, v.oneCell' = true := fun v hv => h1 v (by rw [hD] at hv; exact List.mem_of_mem_drop hv)
  obtain ⟨W1, hW1⟩ : ∃ W1, W1 = w.drew.setCells g (off + (i + 1) * 2) D := ⟨_, rfl⟩
  have hc1 : ∀ ty dc sc, (Builtin.copy_ #[42, 42] ty #[.slice (some ⟨g, off + (i + 1) * 2, none⟩) (n - i) dc, .slice (some ⟨g, off + i * 2, none⟩) (n + 1 - i) sc]).run Try.prog w.drew = .ok (goInt (Nat.min (n + 1 - i) (n - i))) W1 := fun ty dc sc => by
    rw [hW1]
    exact run_copy_k w.drew _ _ ty 44 g (off + (i + 1) * 2) (n - i) dc 2 ⟨g, off + i * 2, none⟩ (n + 1 - i) sc D Try.underlying42 hsz2 (by rw [hDl]; simp only [Nat.min_def]; split <;> omega)
      (fun j v hj => by rw [add_form, Nat.add_assoc]; exact hc _ v (hDg j v hj))
      (fun j hj => by rw [Nat.add_assoc]; exact (hs _ (by omega)).1) (fun j hj => by rw [Nat.add_assoc]; exact (hs _ (by omega)).2) hD1
  have hN1 : ∀ j, j < c * 2 → (W1.cell? ⟨g, off + j, none⟩).isSome = true ∧ W1.frozen? ⟨g, off + j, none⟩ = false := fun j hj => by
    rw [hW1]
    exact ⟨isSome_setCells_mem g D _ w.drew _ (hs j hj).1, by rw [World.frozen?_setCells]; exact (hs j hj).2⟩
  have hvW : ∀ j, W1.cell? ⟨vb, j, none⟩ = (#[u0, u1] : Array Value)[j]? := fun j => by
    rw [hW1, World.cell?_setCells_out _ _ _ _ _ (fun h _ => absurd h hne)]; exact row_cell hvb j
  have hc2 : ∀ ty dc, (Builtin.copy_ #[42, 42] ty #[.slice (some ⟨g, off + i * 2, none⟩) (n + 1 - i) dc, .slice (some ⟨vb, 0, none⟩) 1 vc]).run Try.prog W1 = .ok (goInt (Nat.min 1 (n + 1 - i))) (W1.setCells g (off + i * 2) [u0, u1]) := fun ty dc =>
    run_copy_k W1 _ _ ty 44 g (off + i * 2) (n + 1 - i) dc 2 ⟨vb, 0, none⟩ 1 vc [u0, u1] Try.underlying42 hsz2 (by simp only [Nat.min_def, List.length_cons, List.length_nil]; split <;> omega)
      (fun j v hj => by rw [add_form, Nat.zero_add, hvW]; simpa using hj)
      (fun j hj => by simp only [List.length_cons, List.length_nil] at hj; rw [Nat.add_assoc]; exact (hN1 _ (by omega)).1) (fun j hj => by simp only [List.length_cons, List.length_nil] at hj; rw [Nat.add_assoc]; exact (hN1 _ (by omega)).2) (fun v hv => by
        simp at hv
        rcases hv with rfl | rfl
        · exact hu0
        · exact hu1)
  have HP : Hid (InsPost base n (cs.take (i * 2) ++ [u0, u1] ++ cs.drop (i * 2)) w (.returned (.slice (some ⟨g, off, none⟩) (n + 1) c)) (W1.setCells g (off + i * 2) [u0, u1])) := by
    rw [← hD]
    have hgW : g < W1.heap.size := by rw [hW1, setCells_size]; exact hg
    refine ⟨_, _, rfl, ⟨by simp [hDl, hcl]; omega, .inr ⟨g, off, c, rfl, hb, by rw [setCells_size]; exact hgW, hroom, hcm, fun j u hu => ?_, fun j hj => ⟨isSome_setCells_mem g _ _ W1 _ (hN1 j hj).1, by rw [World.frozen?_setCells]; exact (hN1 j hj).2⟩⟩⟩, ?_⟩
    · have htl : (cs.take (i * 2)).length = i * 2 := by rw [List.length_take, hcl]; omega
      rw [List.append_assoc] at hu
      by_cases hj1 : j < i * 2
      · rw [List.getElem?_append_left (by omega), List.getElem?_take, if_pos hj1] at hu
        rw [World.cell?_setCells_out _ _ _ _ _ (fun _ _ => by show off + j < _ ∨ _; left; omega), hW1, World.cell?_setCells_out _ _ _ _ _ (fun _ _ => by show off + j < _ ∨ _; left; omega)]
        exact hc j u hu
      · rw [List.getElem?_append_right (by omega), htl] at hu
        by_cases hj2 : j < i * 2 + 2
        · rw [List.getElem?_append_left (by simp; omega)] at hu
          have := World.cell?_setCells_in g [u0, u1] (off + i * 2) W1 (fun t ht => by simp only [List.length_cons, List.length_nil] at ht; rw [Nat.add_assoc]; exact (hN1 _ (by omega)).1) (j - i * 2) (by simp; omega)
          rw [show off + i * 2 + (j - i * 2) = off + j by omega] at this
          rw [this, ← hu, List.getElem?_eq_getElem (by simp; omega)]
        · rw [List.getElem?_append_right (by simp; omega)] at hu
          simp only [List.length_cons, List.length_nil] at hu
          rw [World.cell?_setCells_out _ _ _ _ _ (fun _ _ => by show _ ∨ _ ≤ off + j; right; simp; omega)]
          have hjl := (List.getElem?_eq_some_iff.1 hu).1
          have := World.cell?_setCells_in g D (off + (i + 1) * 2) w.drew (fun t ht => by rw [Nat.add_assoc]; exact (hs _ (by omega)).1) (j - i * 2 - (0 + 1 + 1)) hjl
          rw [show off + (i + 1) * 2 + (j - i * 2 - (0 + 1 + 1)) = off + j by omega] at this
          rw [hW1, this, ← hu, List.getElem?_eq_getElem hjl]
    · rw [hW1]
      exact below_setCells hb _ _ _ (below_setCells hb _ _ _ (Below.refl _ _).drew)
  generalize InsPost base n (cs.take (i * 2) ++ [u0, u1] ++ cs.drop (i * 2)) w = PP at *
  have p9 : IntKind.i64.wrap ((i : Int) + 1) = (i : Int) + 1 := by rw [IntKind.wrap_i64]; omega
  have p10 : ((i : Int) + 1).toNat = i + 1 := by omega
  have p11 : (0 : Int) ≤ (i : Int) + 1 := by omega
  have hz2 : ¬ ((i : Int) = (n : Int)) := by omega
  have hin : i ≤ n := by omega
  have hb2 : ¬ (c = i + 1) := by omega
  have hb4 : ¬ (c = i) := by omega
  have hrI : (n : Int) + 1 ≤ (c : Int) := by omega
  have hiI : (i : Int) ≤ (n : Int) := by omega
  have hiI2 : (i : Int) + 1 ≤ (n : Int) + 1 := by omega
  have hiI3 : (i : Int) ≤ (n : Int) + 1 := by omega
  have HC2 := Lib.hid hc2
  clear hne hvb hu0 hu1 h1 hc hs hcl hb hg hnc hcm hD hDl hDg hD1 hW1 hN1 hvW hc2 hsz2
  replace hc1 := Lib.hid hc1
  go_enter Try.func75, Try.ntmps75
  go_wp2_with (simp only [hov])
  go_region_law (refine step_run_copy rfl (.tmp 73) (.tmp 76) 42 42 rfl (.slice (some ⟨g, off + (i + 1) * 2, none⟩) (n - i) (c - (i + 1))) (.slice (some ⟨g, off + i * 2, none⟩) (n + 1 - i) (c - i)) (by simp [go_sem]) (by simp [go_sem]) (hc1.out 3 (c - (i + 1)) (c - i)) ?_)
  go_wp2_with (refine wpList_run_copy _ rfl (.tmp 80) (.tmp 81) 42 42 rfl (.slice (some ⟨g, off + i * 2, none⟩) (n + 1 - i) (c - i)) (.slice (some ⟨vb, 0, none⟩) 1 vc) rfl rfl (HC2.out 3 (c - i)) ?_)
  exact HP.out
end Go.Proofs.Ytnnmiolgffcgkaa
