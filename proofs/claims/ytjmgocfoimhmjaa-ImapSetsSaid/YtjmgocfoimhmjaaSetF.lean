/- What a set map's memory holds. -/
import Derived.Test.YtjmgocfoimhmjaaCutF
namespace Go.Proofs.Ytjmgocfoimhmjaa
open Go.RowKit

theorem set_bad {xs : List PlaceD} {gs : List Int} {n : Int} {p : PlaceD} {e : Int} (h : setE xs gs n p = e) (he : e ≠ 0) : setX xs gs n p = [] ∧ setG xs gs n p = [] := by
  unfold setX setG; rw [h, if_neg he, if_neg he]; exact ⟨rfl, rfl⟩
theorem set_form {xs : List PlaceD} {gs : List Int} {n : Int} {p : PlaceD} (h : impE xs gs ≠ 0) : setE xs gs n p = 4 := by unfold setE; rw [if_pos h]
theorem set_arg {xs : List PlaceD} {gs : List Int} {n : Int} {p : PlaceD} (h : impE xs gs = 0) (hn : n < 0 ∨ 48 ≤ n ∨ rightB p.Cell p.Nth = false ∨ p.Cell = 0) : setE xs gs n p = 1 := by unfold setE; rw [if_neg (by simp [h]), if_pos hn]
theorem set_ok {xs : List PlaceD} {gs : List Int} {k : Nat} {p : PlaceD} (h : impE xs gs = 0) (hk : k < 48) (hr : rightB p.Cell p.Nth = true) (h0 : p.Cell ≠ 0) : setE xs gs k p = 0 ∧ setX xs gs k p = xs.set k p ∧ setG xs gs k p = gs := by
  have e : setE xs gs k p = 0 := by
    unfold setE; rw [if_neg (by simp [h]), if_neg (fun hh => by
      rcases hh with h1 | h1 | h1 | h1
      · omega
      · omega
      · rw [hr] at h1; cases h1
      · exact h0 h1)]
  exact ⟨e, by unfold setX; rw [if_pos e, Int.toNat_natCast], by unfold setG; rw [if_pos e]⟩
theorem set_facts {w1 w2 w3 : World} {R : Nat} {xs : List PlaceD} {gs : List Int} {g1 off1 d g2 off2 d' k : Nat} {pc pn x y : Int} {t : TypeId} (E1 : xs[k]? = some (⟨pc, pn⟩ : PlaceD))
    (o1 : Owns w2 w1.heap.size 2 (.slice (some ⟨g1, off1, none⟩) 48 d) 48 (xs.flatMap PlaceD.cells)) (o2 : Owns w2 w1.heap.size 1 (.slice (some ⟨g2, off2, none⟩) 48 d') 48 (gs.map (Value.int .i64))) (ap : Apart (.slice (some ⟨g1, off1, none⟩) 48 d) (.slice (some ⟨g2, off2, none⟩) 48 d'))
    (hw : (w2.alloc (.cells zeroImap t)).setRow w2.heap.size #[.slice (some ⟨g1, off1, none⟩) 48 d, .slice (some ⟨g2, off2, none⟩) 48 d'] = w3) (hr : w1.heap[R]? = some (.cells zeroImap t (0, 0))) (hb2 : Below w1.heap.size w1 w2) :
    (w3.cell? ⟨w2.heap.size, 0, none⟩ = some (.slice (some ⟨g1, off1, none⟩) 48 d) ∧ w3.cell? ⟨g1, off1 + k * 2, none⟩ = some (.int .i64 pc) ∧ w3.frozen? ⟨g1, off1 + k * 2, none⟩ = false ∧ (w3.setCell ⟨g1, off1 + k * 2, none⟩ (.int .i64 x)).cell? ⟨g1, off1 + k * 2 + 1, none⟩ = some (.int .i64 pn) ∧ w3.frozen? ⟨g1, off1 + k * 2 + 1, none⟩ = false ∧ w3.cell? ⟨g1, off1 + k * 2 + 1, none⟩ = some (.int .i64 pn) ∧ ((w3.setCell ⟨g1, off1 + k * 2, none⟩ (.int .i64 x)).setCell ⟨g1, off1 + k * 2 + 1, none⟩ (.int .i64 y)).cell? ⟨w2.heap.size, 0, none⟩ = some (.slice (some ⟨g1, off1, none⟩) 48 d) ∧ ((w3.setCell ⟨g1, off1 + k * 2, none⟩ (.int .i64 x)).setCell ⟨g1, off1 + k * 2 + 1, none⟩ (.int .i64 y)).cell? ⟨w2.heap.size, 1, none⟩ = some (.slice (some ⟨g2, off2, none⟩) 48 d') ∧ ((w3.setCell ⟨g1, off1 + k * 2, none⟩ (.int .i64 x)).setCell ⟨g1, off1 + k * 2 + 1, none⟩ (.int .i64 y)).heap[R]? = some (.cells zeroImap t (0, 0)) ∧ True) ∧
    Owns ((w3.setCell ⟨g1, off1 + k * 2, none⟩ (.int .i64 x)).setCell ⟨g1, off1 + k * 2 + 1, none⟩ (.int .i64 y)) w1.heap.size 2 (.slice (some ⟨g1, off1, none⟩) 48 d) 48 ((xs.set k ⟨x, y⟩).flatMap PlaceD.cells) ∧ Owns ((w3.setCell ⟨g1, off1 + k * 2, none⟩ (.int .i64 x)).setCell ⟨g1, off1 + k * 2 + 1, none⟩ (.int .i64 y)) w1.heap.size 1 (.slice (some ⟨g2, off2, none⟩) 48 d') 48 (gs.map (Value.int .i64)) ∧ Below w1.heap.size w1 ((w3.setCell ⟨g1, off1 + k * 2, none⟩ (.int .i64 x)).setCell ⟨g1, off1 + k * 2 + 1, none⟩ (.int .i64 y)) ∧ Below w2.heap.size w2 w3 := by
  have hz2 := hb2.size
  have hRl := row_lt hr
  have hm3 : w3.heap[w2.heap.size]? = some (.cells #[.slice (some ⟨g1, off1, none⟩) 48 d, .slice (some ⟨g2, off2, none⟩) 48 d'] t (0, 0)) := by rw [← hw]; exact row_set (heap_alloc_new w2 _)
  have hB3 : Below w2.heap.size w2 w3 := by rw [← hw]; exact below_setRow ((Below.refl _ _).alloc (Nat.le_refl _) _) (Nat.le_refl _) _
  have b1 := o1.lt g1 rfl
  have b2 := o2.lt g2 rfl
  have hne : g1 ≠ g2 := fun e => ap g1 rfl (by rw [e]; rfl)
  have q1 := o1.fresh_below hB3
  have q2 := o2.fresh_below hB3
  have e1 : (xs.flatMap PlaceD.cells)[k * 2]? = some (.int .i64 pc) := by
    have := flat_at (enc := PlaceD.cells) (k := 2) (fun _ => rfl) xs k _ E1 0 (.int .i64 pc) rfl
    simpa using this
  have e2 : (xs.flatMap PlaceD.cells)[k * 2 + 1]? = some (.int .i64 pn) := flat_at (enc := PlaceD.cells) (k := 2) (fun _ => rfl) xs k _ E1 1 (.int .i64 pn) rfl
  obtain ⟨c1, f1⟩ := q1.here e1
  obtain ⟨c2, f2⟩ := q1.here e2
  rw [← Nat.add_assoc] at c2 f2
  have n12 : (⟨g1, off1 + k * 2, none⟩ : Addr) ≠ ⟨g1, off1 + k * 2 + 1, none⟩ := fun e => by injection e with _ e; omega
  have na : ∀ (x y : Nat) (z z' : Nat), x ≠ y → (⟨x, z, none⟩ : Addr) ≠ ⟨y, z', none⟩ := fun x y z z' h e => h (by injection e)
  have k1 : ∀ {p : Addr} {v : Value}, (⟨g1, off1 + k * 2, none⟩ : Addr) ≠ p → (⟨g1, off1 + k * 2 + 1, none⟩ : Addr) ≠ p → w3.cell? p = some v → ((w3.setCell ⟨g1, off1 + k * 2, none⟩ (.int .i64 x)).setCell ⟨g1, off1 + k * 2 + 1, none⟩ (.int .i64 y)).cell? p = some v := fun h h' hv => (World.cell?_setCell_other _ _ _ _ h').trans ((World.cell?_setCell_other _ _ _ _ h).trans hv)
  have m0 : w3.cell? ⟨w2.heap.size, 0, none⟩ = some (.slice (some ⟨g1, off1, none⟩) 48 d) := row_cell hm3 0
  have m1 : w3.cell? ⟨w2.heap.size, 1, none⟩ = some (.slice (some ⟨g2, off2, none⟩) 48 d') := row_cell hm3 1
  have s1 := (q1.set (k * 2) (.int .i64 x)).set (k * 2 + 1) (.int .i64 y)
  rw [← Nat.add_assoc] at s1
  have s3 := ((q2.setOther (p := ⟨g1, off1 + k * 2, none⟩) (fun e => hne (by simpa [Value.ownBlock] using e.symm)) (.int .i64 x)).setOther (p := ⟨g1, off1 + k * 2 + 1, none⟩) (fun e => hne (by simpa [Value.ownBlock] using e.symm)) (.int .i64 y))
  have hr3 : w3.heap[R]? = some (.cells zeroImap t (0, 0)) := row_below (row_below hr hRl hb2) (show R < w2.heap.size by omega) hB3
  refine ⟨⟨m0, c1, f1, (World.cell?_setCell_other _ _ _ _ n12).trans c2, f2, c2, k1 (na _ _ _ _ (by omega)) (na _ _ _ _ (by omega)) m0, k1 (na _ _ _ _ (by omega)) (na _ _ _ _ (by omega)) m1, row_other (row_other hr3 (show R ≠ g1 by omega)) (show R ≠ g1 by omega), trivial⟩, ?_, s3, ?_, hB3⟩
  · have := flat_set xs k ⟨x, y⟩
    simp only at this
    rw [← this]; exact s1
  · exact ((hb2.trans (hB3.mono hz2)).setCell (show w1.heap.size ≤ g1 by omega) _).setCell (show w1.heap.size ≤ g1 by omega) _
end Go.Proofs.Ytjmgocfoimhmjaa
