/- slices.Insert of one int: at the end, in place, and into a new row (turned from the entries' by gen_insi.py). -/
import Derived.Test.YtcjidphichlhgaaCpyK
import Derived.Test.YtcjidphichlhgaaBlk
namespace Go.Proofs.Ytcjidphichlhgaa
open Go.RowKit

theorem info_intI : (Try.prog.info? 3).map (fun i => (i.zero, i.size, i.bytes)) = some (some (.int .i64 0), 1, 8) := by kernel_rfl


theorem shape_ofI {w : World} {b o : Nat} {u : Value} (h : w.cell? ⟨b, o, none⟩ = some u) : ∃ t k, w.shape? b = some (t, k) ∧ k ≠ 0 := by
  unfold World.cell? at h
  unfold World.shape?
  split at h
  · rename_i c e f hh
    simp only at hh
    rw [hh]
    exact ⟨e, c.size, rfl, fun e => by
      simp at h
      have := (Array.getElem?_eq_some_iff.1 h).1
      omega⟩
  · cases h
theorem setCells_sizeI (b : Nat) : ∀ (vs : List Value) (o : Nat) (w : World), (w.setCells b o vs).heap.size = w.heap.size
  | [], _, _ => rfl
  | v :: r, o, w => by rw [World.setCells, setCells_sizeI b r]; simp [World.setCell]
theorem below_setCellsI {B b : Nat} {w0 : World} (hB : B ≤ b) : ∀ (vs : List Value) (o : Nat) (w : World), Below B w0 w → Below B w0 (w.setCells b o vs)
  | [], _, _, h => h
  | v :: r, o, w, h => by rw [World.setCells]; exact below_setCellsI hB r _ _ (h.setCell hB _)
/-- What is owned, after cells of it were set. -/
theorem own_setCellsI {w : World} {base size g off n c n' : Nat} {xs ys : List Value} (h : Owns w base size (.slice (some ⟨g, off, none⟩) n c) n xs) (vs : List Value) (o : Nat) (hn : n' ≤ c) (hl : ys.length = n' * size) (_ho : o + vs.length ≤ c * size)
    (hv : ∀ j u, ys[j]? = some u → ((w.setCells g (off + o) vs).cell? ⟨g, off + j, none⟩) = some u) : Owns (w.setCells g (off + o) vs) base size (.slice (some ⟨g, off, none⟩) n' c) n' ys := by
  refine ⟨hl, ?_⟩
  rcases h.2 with ⟨e, _⟩ | ⟨g', off', cap', e, h1, h2, h3, h4, h5, h6⟩
  · cases e
  · injection e with e1 e2 e3
    injection e1 with e1
    injection e1 with e1 e4
    subst e1; subst e4; subst e3
    exact .inr ⟨g, off, c, rfl, h1, by rw [setCells_sizeI]; exact h2, hn, h4, hv, fun j hj => ⟨isSome_setCells_mem g vs _ w _ (h6 j hj).1, by rw [World.frozen?_setCells]; exact (h6 j hj).2⟩⟩
def InsIPost (base : Nat) (n : Nat) (ys : List Value) (w : World) (e : Ending) (w' : World) : Prop := ∃ A c, e = .returned (.slice A (n + 1) c) ∧ Owns w' base 1 (.slice A (n + 1) c) (n + 1) ys ∧ Below base w w'

set_option maxRecDepth 20000 in
set_option maxHeartbeats 1000000 in
theorem insi_end (A : Option Addr) (n c base vb vc : Nat) (cs : List Value) (u0 : Value) (w : World) (hown : Owns w base 1 (.slice A n c) n cs) (hbase : base ≤ w.heap.size) (hn : n ≤ 1000) (hvb : w.heap[vb]? = some (.cells #[u0] 3 (0, 0))) (hu0 : u0.oneCell' = true) :
    Calls Try.prog 11 #[.slice A n c, .int .i64 n, .slice (some ⟨vb, 0, none⟩) 1 vc] w (InsIPost base n (cs ++ [u0]) w) := by
  have hnc : n ≤ c := by
    rcases hown.2 with ⟨e, h0⟩ | ⟨_, _, cap, e, _, _, h3, _⟩
    · omega
    · injection e with _ _ e3; omega
  have HO := Lib.hid hown
  have HS : Hid (∀ j u, [u0][j]? = some u → w.cell? (Addr.add ⟨vb, 0, none⟩ j) = some u) := fun j u hu => by
    rw [add_form, Nat.zero_add, row_cell hvb]
    simpa using hu
  have H1 : Hid (∀ u ∈ [u0], u.oneCell' = true) := fun u hu => by
    simp at hu
    rw [hu]; exact hu0
  have HL : Hid ([u0].length = 1 * 1) := rfl
  have HB := Lib.hid hbase
  have hnI : (n : Int) ≤ (c : Int) := by omega
  clear hown hvb hu0 hbase
  go_enter Try.func11, Try.ntmps11
  go_wp2_with (at_builtin; refine wpList_appN rfl rfl Try.underlying22 info_intI rfl (by decide) HO.out rfl HB.out rfl [u0] HL.out HS.out H1.out ?_ ?_ ?_; (unfold maxLen; omega); omega; intro A3 c3 w3 hown3 hl3 hbk3)
  all_goals
    go_ret
    exact ⟨A3, c3, rfl, hown3, hl3.below (Nat.le_refl _) (Below.refl _ _)⟩


set_option maxRecDepth 20000 in
set_option maxHeartbeats 1000000 in
theorem insi_room (g off n c i base vb vc : Nat) (cs : List Value) (u0 : Value) (w : World) (hown : Owns w base 1 (.slice (some ⟨g, off, none⟩) n c) n cs) (hn : n ≤ 1000) (hi : i < n) (hroom : n + 1 ≤ c) (hne : vb ≠ g) (hvb : w.heap[vb]? = some (.cells #[u0] 3 (0, 0))) (hu0 : u0.oneCell' = true) (h1 : ∀ v ∈ cs, v.oneCell' = true) :
    Calls Try.prog 11 #[.slice (some ⟨g, off, none⟩) n c, .int .i64 i, .slice (some ⟨vb, 0, none⟩) 1 vc] w (InsIPost base n (cs.take (i) ++ [u0] ++ cs.drop (i)) w) := by
  obtain ⟨hcl, hh⟩ := hown
  rcases hh with ⟨e, _⟩ | ⟨g', off', cap', e, hb, hg, hnc, hcm, hc, hs⟩
  · cases e
  injection e with e1 e2 e3
  injection e1 with e1
  injection e1 with e1 e4
  subst e1; subst e4; subst e3
  have hcmI : (c : Int) ≤ 9223372036854775807 := by unfold maxLen at hcm; omega
  have hov : ∀ lb cb, (callFunc 13 #[.slice (some ⟨vb, 0, none⟩) 1 vc, .slice (some ⟨g, off + (i + 1), none⟩) lb cb]).run Try.prog w = .ok (.value (.bool false)) w := fun lb cb => by
    obtain ⟨tB, kB, hsb, hkB⟩ := shape_ofI (hc 0 _ (List.getElem?_eq_getElem (by omega)))
    have hsa : w.shape? vb = some (3, 1) := by unfold World.shape?; rw [hvb]; rfl
    rw [run_callFunc_extern Try.func13 (by kernel_rfl) (by kernel_rfl) (by kernel_rfl) (e := Extern.SlicesOverlaps.overlaps #[22, 22] #[4]) (by kernel_rfl),
      Lib.run_overlaps_apart w 22 4 3 Try.underlying22 1 (fun w => by
        obtain ⟨j, hj, hz⟩ := Option.map_eq_some_iff.1 info_intI
        simp only [Prod.mk.injEq] at hz
        simp [sizeOf, typeInfo, hj, hz.2.1]) ⟨vb, 0, none⟩ ⟨g, off + (i + 1), none⟩ 1 vc lb cb hne 3 tB 1 kB hsa hsb hkB (row_cold hvb 0) (row_cold hvb 1)]
    rfl
  have hsz2 : (Try.prog.info? 3).map (·.size) = some 1 := by
    obtain ⟨j, hj, hz⟩ := Option.map_eq_some_iff.1 info_intI
    simp only [Prod.mk.injEq] at hz
    rw [hj]; simp [hz.2.1]
  obtain ⟨D, hD⟩ : ∃ D, D = cs.drop (i) := ⟨_, rfl⟩
  have hDl : D.length = (n - i) := by rw [hD, List.length_drop, hcl]; omega
  have hDg : ∀ j u, D[j]? = some u → cs[i + j]? = some u := fun j u hu => by rw [hD, List.getElem?_drop] at hu; exact hu
  have hD1 : ∀ v ∈ D, v.oneCell' = true := fun v hv => h1 v (by rw [hD] at hv; exact List.mem_of_mem_drop hv)
  obtain ⟨W1, hW1⟩ : ∃ W1, W1 = w.drew.setCells g (off + (i + 1)) D := ⟨_, rfl⟩
  have hc1 : ∀ ty dc sc, (Builtin.copy_ #[22, 22] ty #[.slice (some ⟨g, off + (i + 1), none⟩) (n - i) dc, .slice (some ⟨g, off + i, none⟩) (n + 1 - i) sc]).run Try.prog w.drew = .ok (goInt (Nat.min (n + 1 - i) (n - i))) W1 := fun ty dc sc => by
    rw [hW1]
    exact run_copy_k w.drew _ _ ty 3 g (off + (i + 1)) (n - i) dc 1 ⟨g, off + i, none⟩ (n + 1 - i) sc D Try.underlying22 hsz2 (by rw [hDl]; simp only [Nat.min_def]; split <;> omega)
      (fun j v hj => by rw [add_form, Nat.add_assoc]; exact hc _ v (hDg j v hj))
      (fun j hj => by rw [Nat.add_assoc]; exact (hs _ (by omega)).1) (fun j hj => by rw [Nat.add_assoc]; exact (hs _ (by omega)).2) hD1
  have hN1 : ∀ j, j < c * 1 → (W1.cell? ⟨g, off + j, none⟩).isSome = true ∧ W1.frozen? ⟨g, off + j, none⟩ = false := fun j hj => by
    rw [hW1]
    exact ⟨isSome_setCells_mem g D _ w.drew _ (hs j hj).1, by rw [World.frozen?_setCells]; exact (hs j hj).2⟩
  have hvW : ∀ j, W1.cell? ⟨vb, j, none⟩ = (#[u0] : Array Value)[j]? := fun j => by
    rw [hW1, World.cell?_setCells_out _ _ _ _ _ (fun h _ => absurd h hne)]; exact row_cell hvb j
  have hc2 : ∀ ty dc, (Builtin.copy_ #[22, 22] ty #[.slice (some ⟨g, off + i, none⟩) (n + 1 - i) dc, .slice (some ⟨vb, 0, none⟩) 1 vc]).run Try.prog W1 = .ok (goInt (Nat.min 1 (n + 1 - i))) (W1.setCells g (off + i) [u0]) := fun ty dc =>
    run_copy_k W1 _ _ ty 3 g (off + i) (n + 1 - i) dc 1 ⟨vb, 0, none⟩ 1 vc [u0] Try.underlying22 hsz2 (by simp only [Nat.min_def, List.length_cons, List.length_nil]; split <;> omega)
      (fun j v hj => by rw [add_form, Nat.zero_add, hvW]; simpa using hj)
      (fun j hj => by simp only [List.length_cons, List.length_nil] at hj; rw [Nat.add_assoc]; exact (hN1 _ (by omega)).1) (fun j hj => by simp only [List.length_cons, List.length_nil] at hj; rw [Nat.add_assoc]; exact (hN1 _ (by omega)).2) (fun v hv => by
        simp at hv
        rw [hv]; exact hu0)
  have HP : Hid (InsIPost base n (cs.take (i) ++ [u0] ++ cs.drop (i)) w (.returned (.slice (some ⟨g, off, none⟩) (n + 1) c)) (W1.setCells g (off + i) [u0])) := by
    rw [← hD]
    have hgW : g < W1.heap.size := by rw [hW1, setCells_sizeI]; exact hg
    refine ⟨_, _, rfl, ⟨by simp [hDl, hcl]; omega, .inr ⟨g, off, c, rfl, hb, by rw [setCells_sizeI]; exact hgW, hroom, hcm, fun j u hu => ?_, fun j hj => ⟨isSome_setCells_mem g _ _ W1 _ (hN1 j hj).1, by rw [World.frozen?_setCells]; exact (hN1 j hj).2⟩⟩⟩, ?_⟩
    · have htl : (cs.take (i)).length = i := by rw [List.length_take, hcl]; omega
      rw [List.append_assoc] at hu
      by_cases hj1 : j < i
      · rw [List.getElem?_append_left (by omega), List.getElem?_take, if_pos hj1] at hu
        rw [World.cell?_setCells_out _ _ _ _ _ (fun _ _ => by show off + j < _ ∨ _; left; omega), hW1, World.cell?_setCells_out _ _ _ _ _ (fun _ _ => by show off + j < _ ∨ _; left; omega)]
        exact hc j u hu
      · rw [List.getElem?_append_right (by omega), htl] at hu
        by_cases hj2 : j < i + 1
        · rw [List.getElem?_append_left (by simp; omega)] at hu
          have := World.cell?_setCells_in g [u0] (off + i) W1 (fun t ht => by simp only [List.length_cons, List.length_nil] at ht; rw [Nat.add_assoc]; exact (hN1 _ (by omega)).1) (j - i) (by simp; omega)
          rw [show off + i + (j - i) = off + j by omega] at this
          rw [this, ← hu, List.getElem?_eq_getElem (by simp; omega)]
        · rw [List.getElem?_append_right (by simp; omega)] at hu
          simp only [List.length_cons, List.length_nil] at hu
          rw [World.cell?_setCells_out _ _ _ _ _ (fun _ _ => by show _ ∨ _ ≤ off + j; right; simp; omega)]
          have hjl := (List.getElem?_eq_some_iff.1 hu).1
          have := World.cell?_setCells_in g D (off + (i + 1)) w.drew (fun t ht => by rw [Nat.add_assoc]; exact (hs _ (by omega)).1) (j - i - (0 + 1)) hjl
          rw [show off + (i + 1) + (j - i - (0 + 1)) = off + j by omega] at this
          rw [hW1, this, ← hu, List.getElem?_eq_getElem hjl]
    · rw [hW1]
      exact below_setCellsI hb _ _ _ (below_setCellsI hb _ _ _ (Below.refl _ _).drew)
  generalize InsIPost base n (cs.take (i) ++ [u0] ++ cs.drop (i)) w = PP at *
  have p9 : IntKind.i64.wrap ((i : Int) + 1) = (i : Int) + 1 := by rw [IntKind.wrap_i64]; omega
  have p10 : ((i : Int) + 1).toNat = i + 1 := by omega
  have p11 : (0 : Int) ≤ (i : Int) + 1 := by omega
  have hz2 : ¬ ((i : Int) = (n : Int)) := by omega
  have hin : i ≤ n := by omega
  have hb2 : ¬ (c = i + 1) := by omega
  have hb4 : ¬ (c = i) := by omega
  have hrI : (n : Int) + 1 ≤ (c : Int) := by omega
  have hiI : (i : Int) ≤ (n : Int) := by omega
  have hiI2 : (i : Int) + 1 ≤ (n : Int) + 1 := by omega
  have hiI3 : (i : Int) ≤ (n : Int) + 1 := by omega
  have HC2 := Lib.hid hc2
  clear hne hvb hu0 h1 hc hs hcl hb hg hnc hcm hD hDl hDg hD1 hW1 hN1 hvW hc2 hsz2
  replace hc1 := Lib.hid hc1
  go_enter Try.func11, Try.ntmps11
  go_wp2_with (simp only [hov])
  go_region_law (refine step_run_copy rfl (.tmp 73) (.tmp 76) 22 22 rfl (.slice (some ⟨g, off + (i + 1), none⟩) (n - i) (c - (i + 1))) (.slice (some ⟨g, off + i, none⟩) (n + 1 - i) (c - i)) (by simp [go_sem]) (by simp [go_sem]) (hc1.out 3 (c - (i + 1)) (c - i)) ?_)
  go_wp2_with (refine wpList_run_copy _ rfl (.tmp 80) (.tmp 81) 22 22 rfl (.slice (some ⟨g, off + i, none⟩) (n + 1 - i) (c - i)) (.slice (some ⟨vb, 0, none⟩) 1 vc) rfl rfl (HC2.out 3 (c - i)) ?_)
  exact HP.out


set_option maxRecDepth 20000 in
set_option maxHeartbeats 1000000 in
theorem insi_grow (g off n i base vb vc : Nat) (cs : List Value) (u0 : Value) (w : World) (hown : Owns w base 1 (.slice (some ⟨g, off, none⟩) n n) n cs) (hbase : base ≤ w.heap.size) (hn : n ≤ 1000) (hi : i < n) (hvb : w.heap[vb]? = some (.cells #[u0] 3 (0, 0))) (hu0 : u0.oneCell' = true) (h1 : ∀ v ∈ cs, v.oneCell' = true) :
    Calls Try.prog 11 #[.slice (some ⟨g, off, none⟩) n n, .int .i64 i, .slice (some ⟨vb, 0, none⟩) 1 vc] w (InsIPost base n (cs.take (i) ++ [u0] ++ cs.drop (i)) w) := by
  obtain ⟨hcl, hh⟩ := hown
  rcases hh with ⟨e, _⟩ | ⟨g', off', cap', e, hb, hg, hnc, hcm, hc, hs⟩
  · cases e
  injection e with e1 e2 e3
  injection e1 with e1
  injection e1 with e1 e4
  subst e1; subst e4; subst e3
  obtain ⟨z, hz, hzz⟩ := Option.map_eq_some_iff.1 info_intI
  simp only [Prod.mk.injEq] at hzz
  obtain ⟨hz0, hzs, hzb⟩ := hzz
  have hsz2 : (Try.prog.info? 3).map (·.size) = some 1 := by rw [hz]; simp [hzs]
  obtain ⟨k, hk⟩ : ∃ k, k = n + 1 - i := ⟨_, rfl⟩
  have hik : i + k = n + 1 := by omega
  have htl : (cs.take (i)).length = i := by rw [List.length_take, hcl]; omega
  have hold : (Builtin.firstCells z.size i (.slice (some ⟨g, off, none⟩) i n)).run Try.prog w.drew = .ok (cs.take (i)).toArray w.drew := by
    rw [hzs]
    exact run_firstCells_some w.drew 1 i ⟨g, off, none⟩ i n (cs.take (i)) (by rw [htl, Nat.mul_one]) (fun j v hj => by
      rw [add_form]
      rw [List.getElem?_take] at hj
      split at hj
      · exact hc j v hj
      · cases hj)
  obtain ⟨G, hG⟩ : ∃ G, G = grownCap w (n + 1) n 3 := ⟨_, rfl⟩
  obtain ⟨ROW, hROW⟩ : ∃ ROW : Array Value, ROW = (cs.take (i)).toArray ++ Builtin.zeroCells (Value.int .i64 0).cells k ++ Builtin.zeroCells (Value.int .i64 0).cells (G - (n + 1)) := ⟨_, rfl⟩
  have hGn : n + 1 ≤ G := by rw [hG]; exact grownCap_ge w _ _ _
  have hGm : G ≤ maxLen := by rw [hG]; exact grownCap_le_maxLen w (n + 1) n _ (by unfold maxLen; omega)
  have hRs : ROW.size = G * 1 := by
    rw [hROW]
    simp [Builtin.zeroCells, Value.cells, htl]
    omega
  obtain ⟨W1, hW1⟩ : ∃ W1, W1 = w.drew.alloc (.cells ROW 3) := ⟨_, rfl⟩
  have hap : ∀ ty, (Builtin.append_ #[22, 3] ty #[.slice (some ⟨g, off, none⟩) i n, .int .i64 ((n : Int) + 1 - (i : Int))]).run Try.prog w = .ok (.slice (some ⟨w.heap.size, 0, none⟩) (n + 1) G) W1 := fun ty => by
    have h := Lib.run_append_grow_zeros w 22 3 ty 3 z (.int .i64 0) .i64 .i64 Try.underlying22 Try.underlying3 hz hz0 (some ⟨g, off, none⟩) i n (cs.take (i)) hold k (by omega) (by omega) (by omega) (by omega) (by rw [hzb]; omega) (by rw [hzb, hik]; exact growslice_fits (by omega) (by omega))
    rw [hik, ← hG, ← hROW, ← hW1, show ((k : Nat) : Int) = (n : Int) + 1 - (i : Int) by omega] at h
    exact h
  have hrow : W1.heap[w.heap.size]? = some (.cells ROW 3 (0, 0)) := by rw [hW1]; exact heap_alloc_new w.drew _
  have hN1 : ∀ j, j < G * 1 → (W1.cell? ⟨w.heap.size, j, none⟩).isSome = true := fun j hj => by
    rw [row_cell hrow]; rw [← hRs] at hj; simp [hj]
  have hF1 : ∀ j, W1.frozen? ⟨w.heap.size, j, none⟩ = false := fun j => row_cold hrow j
  have hold1 : ∀ b o, b < w.heap.size → W1.cell? ⟨b, o, none⟩ = w.cell? ⟨b, o, none⟩ := fun b o hlt => by rw [hW1]; exact World.cell?_alloc_lt w.drew _ ⟨b, o, none⟩ hlt
  have hvlt := row_lt hvb
  obtain ⟨W2, hW2⟩ : ∃ W2, W2 = W1.setCells w.heap.size (i) [u0] := ⟨_, rfl⟩
  have hc1 : ∀ ty dc, (Builtin.copy_ #[22, 22] ty #[.slice (some ⟨w.heap.size, i, none⟩) (n + 1 - i) dc, .slice (some ⟨vb, 0, none⟩) 1 vc]).run Try.prog W1 = .ok (goInt (Nat.min 1 (n + 1 - i))) W2 := fun ty dc => by
    rw [hW2]
    exact run_copy_k W1 _ _ ty 3 w.heap.size (i) (n + 1 - i) dc 1 ⟨vb, 0, none⟩ 1 vc [u0] Try.underlying22 hsz2 (by simp only [Nat.min_def, List.length_cons, List.length_nil]; split <;> omega)
      (fun j v hj => by rw [add_form, Nat.zero_add, hold1 _ _ hvlt, row_cell hvb]; simpa using hj)
      (fun j hj => by simp only [List.length_cons, List.length_nil] at hj; exact hN1 _ (by omega)) (fun j hj => hF1 _) (fun v hv => by
        simp at hv
        rw [hv]; exact hu0)
  obtain ⟨D, hD⟩ : ∃ D, D = cs.drop (i) := ⟨_, rfl⟩
  have hDl : D.length = (n - i) := by rw [hD, List.length_drop, hcl]; omega
  have hDg : ∀ j u, D[j]? = some u → cs[i + j]? = some u := fun j u hu => by rw [hD, List.getElem?_drop] at hu; exact hu
  have hD1 : ∀ v ∈ D, v.oneCell' = true := fun v hv => h1 v (by rw [hD] at hv; exact List.mem_of_mem_drop hv)
  have hN2 : ∀ j, j < G * 1 → (W2.cell? ⟨w.heap.size, j, none⟩).isSome = true := fun j hj => by rw [hW2]; exact isSome_setCells_mem _ _ _ W1 _ (hN1 j hj)
  have hF2 : ∀ j, W2.frozen? ⟨w.heap.size, j, none⟩ = false := fun j => by rw [hW2, World.frozen?_setCells]; exact hF1 j
  have hold2 : ∀ b o, b < w.heap.size → W2.cell? ⟨b, o, none⟩ = w.cell? ⟨b, o, none⟩ := fun b o hlt => by rw [hW2, World.cell?_setCells_out _ _ _ _ _ (fun h _ => by simp at h; omega)]; exact hold1 b o hlt
  obtain ⟨W3, hW3⟩ : ∃ W3, W3 = W2.drew.setCells w.heap.size ((i + 1)) D := ⟨_, rfl⟩
  have hc2 : ∀ ty dc sc, (Builtin.copy_ #[22, 22] ty #[.slice (some ⟨w.heap.size, (i + 1), none⟩) (n - i) dc, .slice (some ⟨g, off + i, none⟩) (n - i) sc]).run Try.prog W2.drew = .ok (goInt (Nat.min (n - i) (n - i))) W3 := fun ty dc sc => by
    rw [hW3]
    exact run_copy_k W2.drew _ _ ty 3 w.heap.size ((i + 1)) (n - i) dc 1 ⟨g, off + i, none⟩ (n - i) sc D Try.underlying22 hsz2 (by rw [hDl]; simp)
      (fun j v hj => by rw [add_form, Nat.add_assoc]; exact (hold2 _ _ hg).trans (hc _ v (hDg j v hj)))
      (fun j hj => hN2 _ (by omega)) (fun j hj => hF2 _) hD1
  have HP : Hid (InsIPost base n (cs.take (i) ++ [u0] ++ cs.drop (i)) w (.returned (.slice (some ⟨w.heap.size, 0, none⟩) (n + 1) G)) W3) := by
    rw [← hD]
    have hsz : W3.heap.size = w.heap.size + 1 := by rw [hW3, setCells_sizeI, hW2]; simp only [World.size_drew]; rw [setCells_sizeI, hW1]; simp
    refine ⟨_, _, rfl, ⟨by simp [hDl, hcl]; omega, .inr ⟨w.heap.size, 0, G, rfl, hbase, by rw [hsz]; omega, hGn, hGm, fun j u hu => ?_, fun j hj => ?_⟩⟩, ?_⟩
    · rw [Nat.zero_add]
      rw [List.append_assoc] at hu
      by_cases hj1 : j < i
      · rw [List.getElem?_append_left (by omega)] at hu
        rw [hW3, World.cell?_setCells_out _ _ _ _ _ (fun _ _ => by show j < _ ∨ _; left; omega)]
        show W2.cell? _ = _
        rw [hW2, World.cell?_setCells_out _ _ _ _ _ (fun _ _ => by show j < _ ∨ _; left; omega), row_cell hrow, hROW]
        rw [Array.getElem?_append_left (by simp; omega), Array.getElem?_append_left (by simp; omega)]
        simpa using hu
      · rw [List.getElem?_append_right (by omega), htl] at hu
        by_cases hj2 : j < i + 1
        · rw [List.getElem?_append_left (by simp; omega)] at hu
          rw [hW3, World.cell?_setCells_out _ _ _ _ _ (fun _ _ => by show j < _ ∨ _; left; omega)]
          show W2.cell? _ = _
          have := World.cell?_setCells_in w.heap.size [u0] (i) W1 (fun t ht => by simp only [List.length_cons, List.length_nil] at ht; exact hN1 _ (by omega)) (j - i) (by simp; omega)
          rw [show i + (j - i) = j by omega] at this
          rw [hW2, this, ← hu, List.getElem?_eq_getElem (by simp; omega)]
        · rw [List.getElem?_append_right (by simp; omega)] at hu
          simp only [List.length_cons, List.length_nil] at hu
          have hjl := (List.getElem?_eq_some_iff.1 hu).1
          have := World.cell?_setCells_in w.heap.size D ((i + 1)) W2.drew (fun t ht => hN2 _ (by omega)) (j - i - (0 + 1)) hjl
          rw [show (i + 1) + (j - i - (0 + 1)) = j by omega] at this
          rw [hW3, this, ← hu, List.getElem?_eq_getElem hjl]
    · rw [Nat.zero_add, hW3]
      exact ⟨isSome_setCells_mem _ _ _ W2.drew _ (hN2 j hj), by rw [World.frozen?_setCells]; exact hF2 j⟩
    · rw [hW3]
      refine below_setCellsI hbase _ _ _ ?_
      rw [hW2]
      refine Below.drew (below_setCellsI hbase _ _ _ ?_)
      rw [hW1]
      exact (Below.refl _ _).drew.alloc hbase _
  generalize InsIPost base n (cs.take (i) ++ [u0] ++ cs.drop (i)) w = PP at *
  have p9 : IntKind.i64.wrap ((i : Int) + 1) = (i : Int) + 1 := by rw [IntKind.wrap_i64]; omega
  have p10 : ((i : Int) + 1).toNat = i + 1 := by omega
  have p11 : (0 : Int) ≤ (i : Int) + 1 := by omega
  have hz2 : ¬ ((i : Int) = (n : Int)) := by omega
  have hin : i ≤ n := by omega
  have hb2 : ¬ (G = i + 1) := by omega
  have hb4 : ¬ (G = i) := by omega
  have hb5 : ¬ (n = i) := by omega
  have hiI : (i : Int) ≤ (n : Int) := by omega
  have hiI2 : (i : Int) + 1 ≤ (n : Int) + 1 := by omega
  have hiI3 : (i : Int) ≤ (n : Int) + 1 := by omega
  have hGI : (G : Int) ≤ 9223372036854775807 := by unfold maxLen at hGm; omega
  have HC1 := Lib.hid hc1
  have HC2 := Lib.hid hc2
  have HAP := Lib.hid hap
  obtain ⟨H, hH⟩ : ∃ H, H = w.heap.size := ⟨_, rfl⟩
  rw [← hH] at HC1 HC2 HAP HP
  clear hvb hu0 h1 hc hs hcl hb hg hnc hcm hD hDl hDg hD1 hW1 hN1 hF1 hN2 hF2 hW2 hW3 hc2 hc1 hap hsz2 hz hz0 hzs hzb hk hik htl hold hG hROW hGn hGm hRs hrow hold1 hold2 hvlt hbase hH
  go_enter Try.func11, Try.ntmps11
  go_wp2_with (first
    | (at_builtin; refine wpList_run_app _ rfl _ _ 22 3 rfl _ _ rfl rfl (HAP.out _) ?_)
    | (refine wpList_run_copy _ rfl (.tmp 43) (.tmp 44) 22 22 rfl (.slice (some ⟨H, i, none⟩) (n + 1 - i) (G - i)) (.slice (some ⟨vb, 0, none⟩) 1 vc) rfl rfl (HC1.out 3 (G - i)) ?_))
  go_region_law (refine step_run_copy rfl (.tmp 50) (.tmp 53) 22 22 rfl (.slice (some ⟨H, (i + 1), none⟩) (n - i) (G - (i + 1))) (.slice (some ⟨g, off + i, none⟩) (n - i) (n - i)) (by simp [go_sem]) (by simp [go_sem]) (HC2.out 3 (G - (i + 1)) (n - i)) ?_)
  go_wp2
  exact HP.out
end Go.Proofs.Ytcjidphichlhgaa
