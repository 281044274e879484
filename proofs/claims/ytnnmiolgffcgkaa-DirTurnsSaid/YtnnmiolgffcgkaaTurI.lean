/- slices.Insert of one entry, walked: at the end, in place, and into a new row. -/
import Derived.Test.YtnnmiolgffcgkaaTurK
namespace Go.Proofs.Ytnnmiolgffcgkaa
open Go.RowKit

theorem shape_of {w : World} {b o : Nat} {u : Value} (h : w.cell? ⟨b, o, none⟩ = some u) : ∃ t k, w.shape? b = some (t, k) ∧ k ≠ 0 := by
  unfold World.cell? at h
  unfold World.shape?
  split at h
  · rename_i c e f hh
    simp only at hh
    rw [hh]
    exact ⟨e, c.size, rfl, fun e => by
      simp at h
      have := (Array.getElem?_eq_some_iff.1 h).1
      omega⟩
  · cases h
theorem setCells_size (b : Nat) : ∀ (vs : List Value) (o : Nat) (w : World), (w.setCells b o vs).heap.size = w.heap.size
  | [], _, _ => rfl
  | v :: r, o, w => by rw [World.setCells, setCells_size b r]; simp [World.setCell]
theorem below_setCells {B b : Nat} {w0 : World} (hB : B ≤ b) : ∀ (vs : List Value) (o : Nat) (w : World), Below B w0 w → Below B w0 (w.setCells b o vs)
  | [], _, _, h => h
  | v :: r, o, w, h => by rw [World.setCells]; exact below_setCells hB r _ _ (h.setCell hB _)
/-- What is owned, after cells of it were set. -/
theorem own_setCells {w : World} {base size g off n c n' : Nat} {xs ys : List Value} (h : Owns w base size (.slice (some ⟨g, off, none⟩) n c) n xs) (vs : List Value) (o : Nat) (hn : n' ≤ c) (hl : ys.length = n' * size) (_ho : o + vs.length ≤ c * size)
    (hv : ∀ j u, ys[j]? = some u → ((w.setCells g (off + o) vs).cell? ⟨g, off + j, none⟩) = some u) : Owns (w.setCells g (off + o) vs) base size (.slice (some ⟨g, off, none⟩) n' c) n' ys := by
  refine ⟨hl, ?_⟩
  rcases h.2 with ⟨e, _⟩ | ⟨g', off', cap', e, h1, h2, h3, h4, h5, h6⟩
  · cases e
  · injection e with e1 e2 e3
    injection e1 with e1
    injection e1 with e1 e4
    subst e1; subst e4; subst e3
    exact .inr ⟨g, off, c, rfl, h1, by rw [setCells_size]; exact h2, hn, h4, hv, fun j hj => ⟨isSome_setCells_mem g vs _ w _ (h6 j hj).1, by rw [World.frozen?_setCells]; exact (h6 j hj).2⟩⟩
def InsPost (base : Nat) (n : Nat) (ys : List Value) (w : World) (e : Ending) (w' : World) : Prop := ∃ A c, e = .returned (.slice A (n + 1) c) ∧ Owns w' base 2 (.slice A (n + 1) c) (n + 1) ys ∧ Below base w w'

set_option maxRecDepth 20000 in
set_option maxHeartbeats 1000000 in
theorem ins_end (A : Option Addr) (n c base vb vc : Nat) (cs : List Value) (u0 u1 : Value) (w : World) (hown : Owns w base 2 (.slice A n c) n cs) (hbase : base ≤ w.heap.size) (hn : n ≤ 24) (hvb : w.heap[vb]? = some (.cells #[u0, u1] 44 (0, 0))) (hu0 : u0.oneCell' = true) (hu1 : u1.oneCell' = true) :
    Calls Try.prog 75 #[.slice A n c, .int .i64 n, .slice (some ⟨vb, 0, none⟩) 1 vc] w (InsPost base n (cs ++ [u0, u1]) w) := by
  have hnc : n ≤ c := by
    rcases hown.2 with ⟨e, h0⟩ | ⟨_, _, cap, e, _, _, h3, _⟩
    · omega
    · injection e with _ _ e3; omega
  have HO := Lib.hid hown
  have HS : Hid (∀ j u, [u0, u1][j]? = some u → w.cell? (Addr.add ⟨vb, 0, none⟩ j) = some u) := fun j u hu => by
    rw [add_form, Nat.zero_add, row_cell hvb]
    simpa using hu
  have H1 : Hid (∀ u ∈ [u0, u1], u.oneCell' = true) := fun u hu => by
    simp at hu
    rcases hu with rfl | rfl
    · exact hu0
    · exact hu1
  have HL : Hid ([u0, u1].length = 1 * 2) := rfl
  have HB := Lib.hid hbase
  have hnI : (n : Int) ≤ (c : Int) := by omega
  clear hown hvb hu0 hu1 hbase
  go_enter Try.func75, Try.ntmps75
  go_wp2_with (at_builtin; refine wpList_appN rfl rfl Try.underlying42 info_entT rfl (by decide) HO.out rfl HB.out rfl [u0, u1] HL.out HS.out H1.out ?_ ?_ ?_; (unfold maxLen; omega); omega; intro A3 c3 w3 hown3 hl3 hbk3)
  all_goals
    go_ret
    exact ⟨A3, c3, rfl, hown3, hl3.below (Nat.le_refl _) (Below.refl _ _)⟩
end Go.Proofs.Ytnnmiolgffcgkaa
