/- The law PointNewest, walked: it returns true for every disk. -/
import Derived.Test.YtjmgocfoimhmjaaNwR
import Derived.Test.YtjmgocfoimhmjaaNwW
import Derived.Test.YtjmgocfoimhmjaaFreshW
namespace Go.Proofs.Ytjmgocfoimhmjaa.lPointNewest
open Go.RowKit

theorem kept3p {w1 w2 : World} {v0 v1 v2 : Value} {t : TypeId} (hb : Below (w1.alloc (.cells #[v0, v1, v2] t)).heap.size (w1.alloc (.cells #[v0, v1, v2] t)) w2) :
    w2.cell? ⟨w1.heap.size, 0, none⟩ = some v0 ∧ w2.cell? ⟨w1.heap.size, 1, none⟩ = some v1 ∧ w2.cell? ⟨w1.heap.size, 2, none⟩ = some v2 ∧ w1.heap.size < w2.heap.size := by
  have h := heap_alloc_new w1 (.cells #[v0, v1, v2] t)
  have hz : w1.heap.size < (w1.alloc (.cells #[v0, v1, v2] t)).heap.size := by simp
  have h' := row_below h hz hb
  have := hb.size
  exact ⟨row_cell h' 0, row_cell h' 1, row_cell h' 2, by omega⟩
theorem lastP_sz (a : Int) (K : Nat → Bool) : ∀ (l : List PutD) (i : Nat) (d : ByteArray), (∀ p ∈ l, p.Text.size ≤ 1024) → d.size ≤ 1024 → (lastP a K i l d).size ≤ 1024
  | [], _, _, _, h => h
  | p :: r, i, d, hp, h => by
    unfold lastP
    exact lastP_sz a K r (i + 1) _ (fun q hq => hp q (List.mem_cons_of_mem _ hq)) (by split; exact hp p (by simp); exact h)
theorem cells_sz : ∀ {l : List ByteArray}, cellsE l = 0 → ∀ s ∈ l, s.size ≤ 1024
  | [], _, s, hs => by simp at hs
  | x :: r, h, s, hs => by
    unfold cellsE at h
    split at h
    · cases h
    · rcases List.mem_cons.1 hs with rfl | hs
      · omega
      · exact cells_sz h s hs
theorem now_sz {cs : List ByteArray} {ws : List PutD} {k : Nat} (hk : k < cs.length) (h : dskE cs ws = 0) : (nowS cs ws k).size ≤ 140737488351232 := by
  obtain ⟨_, _, h2, h3, _⟩ := dsk_zero h
  have : (nowS cs ws k).size ≤ 1024 := by
    refine lastP_sz _ _ _ _ _ (fun p hp => (wait_all h3 p hp).2.2) ?_
    rw [Int.toNat_natCast, List.getD_eq_getElem?_getD, List.getElem?_eq_getElem hk]
    exact cells_sz h2 _ (by simp)
  omega

set_option maxRecDepth 20000 in
set_option maxHeartbeats 1000000 in
theorem walk (A : Option Addr) (n c : Nat) (cs : List ByteArray) (A' : Option Addr) (n' c' : Nat) (ws : List PutD) (w : World) (r : RowsIn w w.heap.size A n c (fun z => [.string z]) 1 cs) (_o0 : ∀ z ∈ cs, (fun z => z.size ≤ maxLen) z) (_s0 : c * 16 ≤ 140737488351232) (r' : RowsIn w w.heap.size A' n' c' PutD.cells 2 ws) (_o1 : ∀ z ∈ ws, PutD.ok z) (_s1 : c' * 24 ≤ 140737488351232) :
    Calls Try.prog 8 #[.agg #[.slice A n c, .slice A' n' c']] w fun e w' => e = .returned (.bool true) ∧ Below w.heap.size w w' := by
  clear _o0 _s0 _o1 _s1
  obtain ⟨wa, hwa⟩ : ∃ wa, wa = w.alloc (.cells #[.slice A n c, .slice A' n' c'] 41) := ⟨_, rfl⟩
  have hba : Below w.heap.size w wa := by rw [hwa]; exact (Below.refl _ _).alloc (Nat.le_refl _) _
  have hrb : wa.heap[w.heap.size]? = some (.cells #[.slice A n c, .slice A' n' c'] 41 (0, 0)) := by rw [hwa]; exact heap_alloc_new w _
  have RA := Lib.hid ((r.below hba).more hba.size)
  have RA' := Lib.hid ((r'.below hba).more hba.size)
  have HC : Hid (∀ W, Below wa.heap.size wa W → W.cell? ⟨w.heap.size, 0, none⟩ = some (.slice A n c) ∧ W.cell? ⟨w.heap.size, 1, none⟩ = some (.slice A' n' c') ∧ w.heap.size < W.heap.size) := fun W h => by
    have q0 := row_below hrb (row_lt hrb) h
    exact ⟨row_cell q0 0, row_cell q0 1, row_lt q0⟩
  have H1 : Hid (∀ W, Below wa.heap.size wa W → Calls Try.prog 38 #[.agg #[.slice A n c, .slice A' n' c']] W (NwPost cs ws W)) := fun W h => new_any A n c cs A' n' c' ws W ((RA.out.below h).more h.size) ((RA'.out.below h).more h.size)
  have H2 : Hid (∀ W, Below wa.heap.size wa W → Calls Try.prog 39 #[.agg #[.slice A n c, .slice A' n' c']] W (NwPost cs ws W)) := fun W h => newr_any A n c cs A' n' c' ws W ((RA.out.below h).more h.size) ((RA'.out.below h).more h.size) (fun k hk h => now_sz hk h)
  unfold NwPost at H1 H2
  generalize nwU cs ws = s at *
  have HS : Hid (∀ (A : Option Addr) (n c : Nat) (A' : Option Addr) (n' c' : Nat) (D : Option Addr) (m d : Nat) (D' : Option Addr) (m' d' : Nat) (W : World), RowsIn W W.heap.size A n c PlaceD.cells 2 (prP s) → RowsIn W W.heap.size A' n' c' (fun z => [.int .i64 z]) 1 (prG s) → RowsIn W W.heap.size D m d PlaceD.cells 2 (prP s) → RowsIn W W.heap.size D' m' d' (fun z => [.int .i64 z]) 1 (prG s) → Calls Try.prog 21 #[.agg #[.slice A n c, .slice A' n' c'], .agg #[.slice D m d, .slice D' m' d']] W fun e w' => e = .returned (.bool true) ∧ Below W.heap.size W w') := fun A n c A' n' c' D m d D' m' d' W r r' q q' => by
    have := same_any A n c _ A' n' c' _ D m d _ D' m' d' _ W r r' q q'
    rw [eqB_yes rfl, eqB_yes rfl] at this; exact this
  generalize nwE cs ws = E at *
  generalize prN s = N at *
  generalize prS s = Z at *
  generalize prP s = X at *
  generalize prG s = Y at *
  have HWA := Lib.hid hwa
  have HBA := Lib.hid hba
  clear r r' hwa hba hrb
  go_enter Try.func8, Try.ntmps8
  go_wp2_with (first
    | (go_at_call 38; rw [← HWA.out]; refine (H1.out _ (Below.refl _ _)).mono ?_; rintro e w1 ⟨B, n1, c1, B', n1', c1', rfl, r1, q1, hb1⟩; have HB1 := Lib.hid (hb1.alloc hb1.size (.cells #[.int .i64 Z, .slice B n1 c1, .slice B' n1' c1'] 64)); obtain ⟨u0, u1, u2⟩ := HC.out w1 hb1)
    | (go_at_call 39; refine (H2.out _ HB1.out).mono ?_; rintro e w2 ⟨D, m, d, D', m', d', rfl, r2, q2, hb2⟩; obtain ⟨k0, k1, k2, k4⟩ := kept3p hb2; have m0 := heap_alloc_new w2 (.cells #[.int .i64 Z, .slice D m d, .slice D' m' d'] 64); have m1 : (w2.alloc (.cells #[.int .i64 Z, .slice D m d, .slice D' m' d'] 64)).cell? ⟨w2.heap.size, 0, none⟩ = some (.int .i64 Z) := row_cell m0 0; have m2 : (w2.alloc (.cells #[.int .i64 Z, .slice D m d, .slice D' m' d'] 64)).cell? ⟨w2.heap.size, 1, none⟩ = some (.slice D m d) := row_cell m0 1; have m3 : (w2.alloc (.cells #[.int .i64 Z, .slice D m d, .slice D' m' d'] 64)).cell? ⟨w2.heap.size, 2, none⟩ = some (.slice D' m' d') := row_cell m0 2; clear m0)
    | (go_at_call 21; refine (HS.out _ _ _ _ _ _ _ _ _ _ _ _ _ (carry_rows r1 hb2 _) (carry_rows q1 hb2 _) (carry_new r2 _) (carry_new q2 _)).mono ?_; rintro e w3 ⟨rfl, hb3⟩))
  go_ret
  have hc := carry_below (HBA.out.trans (hb1.mono HBA.out.size)) hb2
  exact ⟨rfl, (hc _).trans (hb3.mono (hc _).size)⟩
end Go.Proofs.Ytjmgocfoimhmjaa.lPointNewest
