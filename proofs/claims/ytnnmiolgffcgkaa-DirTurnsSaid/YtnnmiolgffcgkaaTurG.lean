/- slices.Insert of one entry into a new row, walked. -/
import Derived.Test.YtnnmiolgffcgkaaTurI
namespace Go.Proofs.Ytnnmiolgffcgkaa
open Go.RowKit

set_option maxRecDepth 20000 in
set_option maxHeartbeats 1000000 in
theorem ins_grow (g off n i base vb vc : Nat) (cs : List Value) (u0 u1 : Value) (w : World) (hown : Owns w base 2 (.slice (some ⟨g, off, none⟩) n n) n cs) (hbase : base ≤ w.heap.size) (hn : n ≤ 24) (hi : i < n) (hvb : w.heap[vb]? = some (.cells #[u0, u1] 44 (0, 0))) (hu0 : u0.oneCell' = true) (hu1 : u1.oneCell' = true) (h1 : ∀ v ∈ cs, v.oneCell' = true) :
    Calls Try.prog 75 #[.slice (some ⟨g, off, none⟩) n n, .int .i64 i, .slice (some ⟨vb, 0, none⟩) 1 vc] w (InsPost base n (cs.take (i * 2) ++ [u0, u1] ++ cs.drop (i * 2)) w) := by
  obtain ⟨hcl, hh⟩ := hown
  rcases hh with ⟨e, _⟩ | ⟨g', off', cap', e, hb, hg, hnc, hcm, hc, hs⟩
  · cases e
  injection e with e1 e2 e3
  injection e1 with e1
  injection e1 with e1 e4
  subst e1; subst e4; subst e3
  obtain ⟨z, hz, hzz⟩ := Option.map_eq_some_iff.1 info_entT
  simp only [Prod.mk.injEq] at hzz
  obtain ⟨hz0, hzs, hzb⟩ := hzz
  have hsz2 : (Try.prog.info? 44).map (·.size) = some 2 := by rw [hz]; simp [hzs]
  obtain ⟨k, hk⟩ : ∃ k, k = n + 1 - i := ⟨_, rfl⟩
  have hik : i + k = n + 1 := by omega
  have htl : (cs.take (i * 2)).length = i * 2 := by rw [List.length_take, hcl]; omega
  have hold : (Builtin.firstCells z.size i (.slice (some ⟨g, off, none⟩) i n)).run Try.prog w.drew = .ok (cs.take (i * 2)).toArray w.drew := by
    rw [hzs]
    exact run_firstCells_some w.drew 2 i ⟨g, off, none⟩ i n (cs.take (i * 2)) htl (fun j v hj => by
      rw [add_form]
      rw [List.getElem?_take] at hj
      split at hj
      · exact hc j v hj
      · cases hj)
  obtain ⟨G, hG⟩ : ∃ G, G = grownCap w (n + 1) n 44 := ⟨_, rfl⟩
  obtain ⟨ROW, hROW⟩ : ∃ ROW : Array Value, ROW = (cs.take (i * 2)).toArray ++ Builtin.zeroCells (Value.agg #[.string ⟨#[]⟩, .int .i64 0]).cells k ++ Builtin.zeroCells (Value.agg #[.string ⟨#[]⟩, .int .i64 0]).cells (G - (n + 1)) := ⟨_, rfl⟩
  have hGn : n + 1 ≤ G := by rw [hG]; exact grownCap_ge w _ _ _
  have hGm : G ≤ maxLen := by rw [hG]; exact grownCap_le_maxLen w (n + 1) n _ (by unfold maxLen; omega)
  have hRs : ROW.size = G * 2 := by
    rw [hROW]
    simp [Builtin.zeroCells, Value.cells, htl]
    omega
  obtain ⟨W1, hW1⟩ : ∃ W1, W1 = w.drew.alloc (.cells ROW 44) := ⟨_, rfl⟩
  have hap : ∀ ty, (Builtin.append_ #[42, 3] ty #[.slice (some ⟨g, off, none⟩) i n, .int .i64 ((n : Int) + 1 - (i : Int))]).run Try.prog w = .ok (.slice (some ⟨w.heap.size, 0, none⟩) (n + 1) G) W1 := fun ty => by
    have h := Lib.run_append_grow_zeros w 42 3 ty 44 z (.agg #[.string ⟨#[]⟩, .int .i64 0]) .i64 .i64 Try.underlying42 Try.underlying3 hz hz0 (some ⟨g, off, none⟩) i n (cs.take (i * 2)) hold k (by omega) (by omega) (by omega) (by omega) (by rw [hzb]; omega) (by rw [hzb, hik]; exact growslice_fits (by omega) (by omega))
    rw [hik, ← hG, ← hROW, ← hW1, show ((k : Nat) : Int) = (n : Int) + 1 - (i : Int) by omega] at h
    exact h
  have hrow : W1.heap[w.heap.size]? = some (.cells ROW 44 (0, 0)) := by rw [hW1]; exact heap_alloc_new w.drew _
  have hN1 : ∀ j, j < G * 2 → (W1.cell? ⟨w.heap.size, j, none⟩).isSome = true := fun j hj => by
    rw [row_cell hrow]; rw [← hRs] at hj; simp [hj]
  have hF1 : ∀ j, W1.frozen? ⟨w.heap.size, j, none⟩ = false := fun j => row_cold hrow j
  have hold1 : ∀ b o, b < w.heap.size → W1.cell? ⟨b, o, none⟩ = w.cell? ⟨b, o, none⟩ := fun b o hlt => by rw [hW1]; exact World.cell?_alloc_lt w.drew _ ⟨b, o, none⟩ hlt
  have hvlt := row_lt hvb
  obtain ⟨W2, hW2⟩ : ∃ W2, W2 = W1.setCells w.heap.size (i * 2) [u0, u1] := ⟨_, rfl⟩
  have hc1 : ∀ ty dc, (Builtin.copy_ #[42, 42] ty #[.slice (some ⟨w.heap.size, i * 2, none⟩) (n + 1 - i) dc, .slice (some ⟨vb, 0, none⟩) 1 vc]).run Try.prog W1 = .ok (goInt (Nat.min 1 (n + 1 - i))) W2 := fun ty dc => by
    rw [hW2]
    exact run_copy_k W1 _ _ ty 44 w.heap.size (i * 2) (n + 1 - i) dc 2 ⟨vb, 0, none⟩ 1 vc [u0, u1] Try.underlying42 hsz2 (by simp only [Nat.min_def, List.length_cons, List.length_nil]; split <;> omega)
      (fun j v hj => by rw [add_form, Nat.zero_add, hold1 _ _ hvlt, row_cell hvb]; simpa using hj)
      (fun j hj => by simp only [List.length_cons, List.length_nil] at hj; exact hN1 _ (by omega)) (fun j hj => hF1 _) (fun v hv => by
        simp at hv
        rcases hv with rfl | rfl
        · exact hu0
        · exact hu1)
  obtain ⟨D, hD⟩ : ∃ D, D = cs.drop (i * 2) := ⟨_, rfl⟩
  have hDl : D.length = (n - i) * 2 := by rw [hD, List.length_drop, hcl]; omega
  have hDg : ∀ j u, D[j]? = some u → cs[i * 2 + j]? = some u := fun j u hu => by rw [hD, List.getElem?_drop] at hu; exact hu
  have hD1 : ∀ v ∈ D, v.oneCell' = true := fun v hv => h1 v (by rw [hD] at hv; exact List.mem_of_mem_drop hv)
  have hN2 : ∀ j, j < G * 2 → (W2.cell? ⟨w.heap.size, j, none⟩).isSome = true := fun j hj => by rw [hW2]; exact isSome_setCells_mem _ _ _ W1 _ (hN1 j hj)
  have hF2 : ∀ j, W2.frozen? ⟨w.heap.size, j, none⟩ = false := fun j => by rw [hW2, World.frozen?_setCells]; exact hF1 j
  have hold2 : ∀ b o, b < w.heap.size → W2.cell? ⟨b, o, none⟩ = w.cell? ⟨b, o, none⟩ := fun b o hlt => by rw [hW2, World.cell?_setCells_out _ _ _ _ _ (fun h _ => by simp at h; omega)]; exact hold1 b o hlt
  obtain ⟨W3, hW3⟩ : ∃ W3, W3 = W2.drew.setCells w.heap.size ((i + 1) * 2) D := ⟨_, rfl⟩
  have hc2 : ∀ ty dc sc, (Builtin.copy_ #[42, 42] ty #[.slice (some ⟨w.heap.size, (i + 1) * 2, none⟩) (n - i) dc, .slice (some ⟨g, off + i * 2, none⟩) (n - i) sc]).run Try.prog W2.drew = .ok (goInt (Nat.min (n - i) (n - i))) W3 := fun ty dc sc => by
    rw [hW3]
    exact run_copy_k W2.drew _ _ ty 44 w.heap.size ((i + 1) * 2) (n - i) dc 2 ⟨g, off + i * 2, none⟩ (n - i) sc D Try.underlying42 hsz2 (by rw [hDl]; simp)
      (fun j v hj => by rw [add_form, Nat.add_assoc]; exact (hold2 _ _ hg).trans (hc _ v (hDg j v hj)))
      (fun j hj => hN2 _ (by omega)) (fun j hj => hF2 _) hD1
  have HP : Hid (InsPost base n (cs.take (i * 2) ++ [u0, u1] ++ cs.drop (i * 2)) w (.returned (.slice (some ⟨w.heap.size, 0, none⟩) (n + 1) G)) W3) := by
    rw [← hD]
    have hsz : W3.heap.size = w.heap.size + 1 := by rw [hW3, setCells_size, hW2]; simp only [World.size_drew]; rw [setCells_size, hW1]; simp
    refine ⟨_, _, rfl, ⟨by simp [hDl, hcl]; omega, .inr ⟨w.heap.size, 0, G, rfl, hbase, by rw [hsz]; omega, hGn, hGm, fun j u hu => ?_, fun j hj => ?_⟩⟩, ?_⟩
    · rw [Nat.zero_add]
      rw [List.append_assoc] at hu
      by_cases hj1 : j < i * 2
      · rw [List.getElem?_append_left (by omega)] at hu
        rw [hW3, World.cell?_setCells_out _ _ _ _ _ (fun _ _ => by show j < _ ∨ _; left; omega)]
        show W2.cell? _ = _
        rw [hW2, World.cell?_setCells_out _ _ _ _ _ (fun _ _ => by show j < _ ∨ _; left; omega), row_cell hrow, hROW]
        rw [Array.getElem?_append_left (by simp; omega), Array.getElem?_append_left (by simp; omega)]
        simpa using hu
      · rw [List.getElem?_append_right (by omega), htl] at hu
        by_cases hj2 : j < i * 2 + 2
        · rw [List.getElem?_append_left (by simp; omega)] at hu
          rw [hW3, World.cell?_setCells_out _ _ _ _ _ (fun _ _ => by show j < _ ∨ _; left; omega)]
          show W2.cell? _ = _
          have := World.cell?_setCells_in w.heap.size [u0, u1] (i * 2) W1 (fun t ht => by simp only [List.length_cons, List.length_nil] at ht; exact hN1 _ (by omega)) (j - i * 2) (by simp; omega)
          rw [show i * 2 + (j - i * 2) = j by omega] at this
          rw [hW2, this, ← hu, List.getElem?_eq_getElem (by simp; omega)]
        · rw [List.getElem?_append_right (by simp; omega)] at hu
          simp only [List.length_cons, List.length_nil] at hu
          have hjl := (List.getElem?_eq_some_iff.1 hu).1
          have := World.cell?_setCells_in w.heap.size D ((i + 1) * 2) W2.drew (fun t ht => hN2 _ (by omega)) (j - i * 2 - (0 + 1 + 1)) hjl
          rw [show (i + 1) * 2 + (j - i * 2 - (0 + 1 + 1)) = j by omega] at this
          rw [hW3, this, ← hu, List.getElem?_eq_getElem hjl]
    · rw [Nat.zero_add, hW3]
      exact ⟨isSome_setCells_mem _ _ _ W2.drew _ (hN2 j hj), by rw [World.frozen?_setCells]; exact hF2 j⟩
    · rw [hW3]
      refine below_setCells hbase _ _ _ ?_
      rw [hW2]
      refine Below.drew (below_setCells hbase _ _ _ ?_)
      rw [hW1]
      exact (Below.refl _ _).drew.alloc hbase _
  generalize InsPost base n (cs.take (i * 2) ++ [u0, u1] ++ cs.drop (i * 2)) w = PP at *
  have p9 : IntKind.i64.wrap ((i : Int) + 1) = (i : Int) + 1 := by rw [IntKind.wrap_i64]; omega
  have p10 : ((i : Int) + 1).toNat = i + 1 := by omega
  have p11 : (0 : Int) ≤ (i : Int) + 1 := by omega
  have hz2 : ¬ ((i : Int) = (n : Int)) := by omega
  have hin : i ≤ n := by omega
  have hb2 : ¬ (G = i + 1) := by omega
  have hb4 : ¬ (G = i) := by omega
  have hb5 : ¬ (n = i) := by omega
  have hiI : (i : Int) ≤ (n : Int) := by omega
  have hiI2 : (i : Int) + 1 ≤ (n : Int) + 1 := by omega
  have hiI3 : (i : Int) ≤ (n : Int) + 1 := by omega
  have hGI : (G : Int) ≤ 9223372036854775807 := by unfold maxLen at hGm; omega
  have HC1 := Lib.hid hc1
  have HC2 := Lib.hid hc2
  have HAP := Lib.hid hap
  obtain ⟨H, hH⟩ : ∃ H, H = w.heap.size := ⟨_, rfl⟩
  rw [← hH] at HC1 HC2 HAP HP
  clear hvb hu0 hu1 h1 hc hs hcl hb hg hnc hcm hD hDl hDg hD1 hW1 hN1 hF1 hN2 hF2 hW2 hW3 hc2 hc1 hap hsz2 hz hz0 hzs hzb hk hik htl hold hG hROW hGn hGm hRs hrow hold1 hold2 hvlt hbase hH
  go_enter Try.func75, Try.ntmps75
  go_wp2_with (first
    | (at_builtin; refine wpList_run_app _ rfl _ _ 42 3 rfl _ _ rfl rfl (HAP.out _) ?_)
    | (refine wpList_run_copy _ rfl (.tmp 43) (.tmp 44) 42 42 rfl (.slice (some ⟨H, i * 2, none⟩) (n + 1 - i) (G - i)) (.slice (some ⟨vb, 0, none⟩) 1 vc) rfl rfl (HC1.out 3 (G - i)) ?_))
  go_outline
  go_region_law (refine step_run_copy rfl (.tmp 50) (.tmp 53) 42 42 rfl (.slice (some ⟨H, (i + 1) * 2, none⟩) (n - i) (G - (i + 1))) (.slice (some ⟨g, off + i * 2, none⟩) (n - i) (n - i)) (by simp [go_sem]) (by simp [go_sem]) (HC2.out 3 (G - (i + 1)) (n - i)) ?_)
  go_wp2
  exact HP.out
end Go.Proofs.Ytnnmiolgffcgkaa
