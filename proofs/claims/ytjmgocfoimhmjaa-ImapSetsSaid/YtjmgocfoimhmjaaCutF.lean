/- What a cut map's memory holds. -/
import Derived.Test.YtjmgocfoimhmjaaCutP
import Derived.Test.YtjmgocfoimhmjaaLikeW
import Derived.Test.YtjmgocfoimhmjaaImapW
namespace Go.Proofs.Ytjmgocfoimhmjaa
open Go.RowKit

def IpPost (E : Int) (X : List PlaceD) (Y : List Int) (w : World) (e : Ending) (w' : World) : Prop := ∃ D q d D' q' d', e = .returned (.tuple #[.agg #[.slice D q d, .slice D' q' d'], .int .i64 E]) ∧ RowsIn w' w'.heap.size D q d PlaceD.cells 2 X ∧ RowsIn w' w'.heap.size D' q' d' (fun z => [.int .i64 z]) 1 Y ∧ Below w.heap.size w w'
theorem ipPost_bad {E k : Int} {X : List PlaceD} {Y : List Int} {w w' : World} (h : E = k) (h2 : X = [] ∧ Y = []) (hb : Below w.heap.size w w') : IpPost E X Y w (.returned (.tuple #[.agg zeroImap, .int .i64 k])) w' :=
  ⟨none, 0, 0, none, 0, 0, by rw [h], by rw [h2.1]; exact no_places _ _, by rw [h2.2]; exact no_intsI _ _, hb⟩
theorem ipPost_ok {E : Int} {X X' : List PlaceD} {Y Y' : List Int} {w w' : World} {D D' : Option Addr} {d d' : Nat} (h : E = 0) (h1 : X = X') (h2 : Y = Y') (r : RowsIn w' w'.heap.size D 48 d PlaceD.cells 2 X') (r' : RowsIn w' w'.heap.size D' 48 d' (fun z => [.int .i64 z]) 1 Y') (hb : Below w.heap.size w w') : IpPost E X Y w (.returned (.tuple #[.agg #[.slice D 48 d, .slice D' 48 d'], .int .i64 0])) w' :=
  ⟨D, 48, d, D', 48, d', by rw [h], by rw [h1]; exact r, by rw [h2]; exact r', hb⟩
theorem own_some {w : World} {base size n c : Nat} {A : Option Addr} {xs : List Value} (h : Owns w base size (.slice A n c) n xs) (h0 : 0 < n) : ∃ g off, A = some ⟨g, off, none⟩ ∧ base ≤ g ∧ g < w.heap.size := by
  rcases h.2 with ⟨_, e⟩ | ⟨g, off, cap, e, h1, h2, _⟩
  · omega
  · injection e with e _ _
    exact ⟨g, off, e, h1, h2⟩

theorem cut_facts {w w1 w2 w3 : World} {xs : List PlaceD} {gs : List Int} {g1 off1 d g2 off2 d' k : Nat} {pc pn g : Int} {t : TypeId} (E1 : xs[k]? = some (⟨pc, pn⟩ : PlaceD)) (E2 : gs[k]? = some g)
    (o1 : Owns w2 w1.heap.size 2 (.slice (some ⟨g1, off1, none⟩) 48 d) 48 (xs.flatMap PlaceD.cells)) (o2 : Owns w2 w1.heap.size 1 (.slice (some ⟨g2, off2, none⟩) 48 d') 48 (gs.map (Value.int .i64))) (ap : Apart (.slice (some ⟨g1, off1, none⟩) 48 d) (.slice (some ⟨g2, off2, none⟩) 48 d'))
    (hw : (w2.alloc (.cells zeroImap t)).setRow w2.heap.size #[.slice (some ⟨g1, off1, none⟩) 48 d, .slice (some ⟨g2, off2, none⟩) 48 d'] = w3) (hr : w1.heap[w.heap.size + 1]? = some (.cells zeroImap t (0, 0))) (hz : w.heap.size + 2 ≤ w1.heap.size) (hb2 : Below w1.heap.size w1 w2) :
    (w3.cell? ⟨w2.heap.size, 0, none⟩ = some (.slice (some ⟨g1, off1, none⟩) 48 d) ∧ ((w3.setCell ⟨g1, off1 + k * 2, none⟩ (.int .i64 0)).setCell ⟨g1, off1 + k * 2 + 1, none⟩ (.int .i64 0)).cell? ⟨w2.heap.size, 1, none⟩ = some (.slice (some ⟨g2, off2, none⟩) 48 d') ∧ w3.cell? ⟨g1, off1 + k * 2, none⟩ = some (.int .i64 pc) ∧ w3.frozen? ⟨g1, off1 + k * 2, none⟩ = false ∧ (w3.setCell ⟨g1, off1 + k * 2, none⟩ (.int .i64 0)).cell? ⟨g1, off1 + k * 2 + 1, none⟩ = some (.int .i64 pn) ∧ w3.frozen? ⟨g1, off1 + k * 2 + 1, none⟩ = false ∧ ((w3.setCell ⟨g1, off1 + k * 2, none⟩ (.int .i64 0)).setCell ⟨g1, off1 + k * 2 + 1, none⟩ (.int .i64 0)).cell? ⟨g2, off2 + k, none⟩ = some (.int .i64 g) ∧ w3.frozen? ⟨g2, off2 + k, none⟩ = false ∧ w3.cell? ⟨g1, off1 + k * 2 + 1, none⟩ = some (.int .i64 pn) ∧ (((w3.setCell ⟨g1, off1 + k * 2, none⟩ (.int .i64 0)).setCell ⟨g1, off1 + k * 2 + 1, none⟩ (.int .i64 0)).setCell ⟨g2, off2 + k, none⟩ (.int .i64 (g + 1))).cell? ⟨w2.heap.size, 0, none⟩ = some (.slice (some ⟨g1, off1, none⟩) 48 d) ∧ (((w3.setCell ⟨g1, off1 + k * 2, none⟩ (.int .i64 0)).setCell ⟨g1, off1 + k * 2 + 1, none⟩ (.int .i64 0)).setCell ⟨g2, off2 + k, none⟩ (.int .i64 (g + 1))).cell? ⟨w2.heap.size, 1, none⟩ = some (.slice (some ⟨g2, off2, none⟩) 48 d') ∧ (((w3.setCell ⟨g1, off1 + k * 2, none⟩ (.int .i64 0)).setCell ⟨g1, off1 + k * 2 + 1, none⟩ (.int .i64 0)).setCell ⟨g2, off2 + k, none⟩ (.int .i64 (g + 1))).heap[w.heap.size + 1]? = some (.cells zeroImap t (0, 0)) ∧ w3.cell? ⟨w2.heap.size, 1, none⟩ = some (.slice (some ⟨g2, off2, none⟩) 48 d') ∧ True) ∧
    Owns (((w3.setCell ⟨g1, off1 + k * 2, none⟩ (.int .i64 0)).setCell ⟨g1, off1 + k * 2 + 1, none⟩ (.int .i64 0)).setCell ⟨g2, off2 + k, none⟩ (.int .i64 (g + 1))) w1.heap.size 2 (.slice (some ⟨g1, off1, none⟩) 48 d) 48 ((xs.set k ⟨0, 0⟩).flatMap PlaceD.cells) ∧ Owns (((w3.setCell ⟨g1, off1 + k * 2, none⟩ (.int .i64 0)).setCell ⟨g1, off1 + k * 2 + 1, none⟩ (.int .i64 0)).setCell ⟨g2, off2 + k, none⟩ (.int .i64 (g + 1))) w1.heap.size 1 (.slice (some ⟨g2, off2, none⟩) 48 d') 48 ((gs.set k (g + 1)).map (Value.int .i64)) ∧ Below w1.heap.size w1 (((w3.setCell ⟨g1, off1 + k * 2, none⟩ (.int .i64 0)).setCell ⟨g1, off1 + k * 2 + 1, none⟩ (.int .i64 0)).setCell ⟨g2, off2 + k, none⟩ (.int .i64 (g + 1))) := by
  have hz2 := hb2.size
  have hm3 : w3.heap[w2.heap.size]? = some (.cells #[.slice (some ⟨g1, off1, none⟩) 48 d, .slice (some ⟨g2, off2, none⟩) 48 d'] t (0, 0)) := by rw [← hw]; exact row_set (heap_alloc_new w2 _)
  have hB3 : Below w2.heap.size w2 w3 := by rw [← hw]; exact below_setRow ((Below.refl _ _).alloc (Nat.le_refl _) _) (Nat.le_refl _) _
  have b1 := o1.lt g1 rfl
  have b2 := o2.lt g2 rfl
  have hne : g1 ≠ g2 := fun e => ap g1 rfl (by rw [e]; rfl)
  have q1 := o1.fresh_below hB3
  have q2 := o2.fresh_below hB3
  have e1 : (xs.flatMap PlaceD.cells)[k * 2]? = some (.int .i64 pc) := by
    have := flat_at (enc := PlaceD.cells) (k := 2) (fun _ => rfl) xs k _ E1 0 (.int .i64 pc) rfl
    simpa using this
  have e2 : (xs.flatMap PlaceD.cells)[k * 2 + 1]? = some (.int .i64 pn) := flat_at (enc := PlaceD.cells) (k := 2) (fun _ => rfl) xs k _ E1 1 (.int .i64 pn) rfl
  have e3 : (gs.map (Value.int .i64))[k]? = some (.int .i64 g) := by rw [List.getElem?_map, E2]; rfl
  obtain ⟨c1, f1⟩ := q1.here e1
  obtain ⟨c2, f2⟩ := q1.here e2
  obtain ⟨c3, f3⟩ := q2.here e3
  rw [← Nat.add_assoc] at c2 f2
  have n12 : (⟨g1, off1 + k * 2, none⟩ : Addr) ≠ ⟨g1, off1 + k * 2 + 1, none⟩ := fun e => by injection e with _ e; omega
  have na : ∀ (x y : Nat) (z z' : Nat), x ≠ y → (⟨x, z, none⟩ : Addr) ≠ ⟨y, z', none⟩ := fun x y z z' h e => h (by injection e)
  have k1 : ∀ {p : Addr} {v : Value}, (⟨g1, off1 + k * 2, none⟩ : Addr) ≠ p → (⟨g1, off1 + k * 2 + 1, none⟩ : Addr) ≠ p → w3.cell? p = some v → ((w3.setCell ⟨g1, off1 + k * 2, none⟩ (.int .i64 0)).setCell ⟨g1, off1 + k * 2 + 1, none⟩ (.int .i64 0)).cell? p = some v := fun h h' hv => (World.cell?_setCell_other _ _ _ _ h').trans ((World.cell?_setCell_other _ _ _ _ h).trans hv)
  have m0 : w3.cell? ⟨w2.heap.size, 0, none⟩ = some (.slice (some ⟨g1, off1, none⟩) 48 d) := row_cell hm3 0
  have m1 : w3.cell? ⟨w2.heap.size, 1, none⟩ = some (.slice (some ⟨g2, off2, none⟩) 48 d') := row_cell hm3 1
  have s1 := (q1.set (k * 2) (.int .i64 0)).set (k * 2 + 1) (.int .i64 0)
  rw [← Nat.add_assoc] at s1
  have s2 := s1.setOther (p := ⟨g2, off2 + k, none⟩) (fun e => hne (by simpa [Value.ownBlock] using e)) (.int .i64 (g + 1))
  have s3 := ((q2.setOther (p := ⟨g1, off1 + k * 2, none⟩) (fun e => hne (by simpa [Value.ownBlock] using e.symm)) (.int .i64 0)).setOther (p := ⟨g1, off1 + k * 2 + 1, none⟩) (fun e => hne (by simpa [Value.ownBlock] using e.symm)) (.int .i64 0)).set k (.int .i64 (g + 1))
  have hr3 : w3.heap[w.heap.size + 1]? = some (.cells zeroImap t (0, 0)) := row_below (row_below hr (by omega) hb2) (show w.heap.size + 1 < w2.heap.size by omega) hB3
  refine ⟨⟨m0, k1 (na _ _ _ _ (by omega)) (na _ _ _ _ (by omega)) m1, c1, f1, (World.cell?_setCell_other _ _ _ _ n12).trans c2, f2, k1 (na _ _ _ _ hne) (na _ _ _ _ hne) c3, f3, c2, (World.cell?_setCell_other _ _ _ _ (na _ _ _ _ (by omega))).trans (k1 (na _ _ _ _ (by omega)) (na _ _ _ _ (by omega)) m0), (World.cell?_setCell_other _ _ _ _ (na _ _ _ _ (by omega))).trans (k1 (na _ _ _ _ (by omega)) (na _ _ _ _ (by omega)) m1), row_other (row_other (row_other hr3 (show w.heap.size + 1 ≠ g1 by omega)) (show w.heap.size + 1 ≠ g1 by omega)) (show w.heap.size + 1 ≠ g2 by omega), m1, trivial⟩, ?_, ?_, ?_⟩
  · have := flat_set xs k ⟨0, 0⟩
    simp only at this
    rw [← this]; exact s2
  · rw [List.map_set]; exact s3
  · exact (((hb2.trans (hB3.mono hz2)).setCell (show w1.heap.size ≤ g1 by omega) _).setCell (show w1.heap.size ≤ g1 by omega) _).setCell (show w1.heap.size ≤ g2 by omega) _
end Go.Proofs.Ytjmgocfoimhmjaa
