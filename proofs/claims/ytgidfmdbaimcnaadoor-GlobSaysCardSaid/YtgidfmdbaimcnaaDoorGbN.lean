/- (*glob.reader).next, walked. -/
import Derived.Test.YtgidfmdbaimcnaaDoorGbW
import Derived.BigQuiet
namespace Go.Proofs.YtgidfmdbaimcnaaDoor
open Go.RowKit Go.Shelf Go.PlainAid

/-- Only block b changes, and new ones come. -/
def OnlyB (b : Nat) (W W' : World) : Prop := (∀ B, B ≤ b → Below B W W') ∧ ∀ g, g ≠ b → g < W.heap.size → W'.heap[g]? = W.heap[g]?
section
variable {b : Nat} {W W1 W2 : World}
theorem OnlyB.refl (b : Nat) (W : World) : OnlyB b W W := ⟨fun _ _ => Below.refl _ _, fun _ _ _ => rfl⟩
theorem OnlyB.size (h : OnlyB b W W1) : W.heap.size ≤ W1.heap.size := (h.1 0 (Nat.zero_le _)).size
theorem OnlyB.trans (h : OnlyB b W W1) (h2 : OnlyB b W1 W2) : OnlyB b W W2 := ⟨fun B hB => (h.1 B hB).trans (h2.1 B hB), fun g hg hl => (h2.2 g hg (by have := h.size; omega)).trans (h.2 g hg hl)⟩
theorem OnlyB.drewN (h : OnlyB b W W1) (m : Nat) : OnlyB b W (W1.drewN m) := ⟨fun B hB => below_drewN (h.1 B hB) m, fun g hg hl => h.2 g hg hl⟩
theorem OnlyB.set (h : OnlyB b W W1) (j : Nat) (v : Value) : OnlyB b W (W1.setCell ⟨b, j, none⟩ v) := ⟨fun B hB => (h.1 B hB).setCell (p := ⟨b, j, none⟩) hB v, fun g hg hl => (Below.heap_setCell _ _ _ _ (by show g ≠ b; exact hg)).trans (h.2 g hg hl)⟩
theorem OnlyB.below (h : OnlyB b W W1) {B : Nat} (hB : B ≤ b) : Below B W W1 := h.1 B hB
theorem OnlyB.rows {α : Type} {n c k : Nat} {A : Option Addr} {enc : α → List Value} {xs : List α} (h : OnlyB b W W1) (r : RowsIn W W.heap.size A n c enc k xs) (hA : ∀ a, A = some a → a.block ≠ b) : RowsIn W1 W1.heap.size A n c enc k xs :=
  ⟨r.len, r.le, r.top, fun i x hx => by
    obtain ⟨g, o, e, hb, hc⟩ := r.at_ i x hx
    refine ⟨g, o, e, by have := h.size; omega, fun j u hu => ?_⟩
    have := hc j u hu
    have hk := h.2 g (hA _ e) hb
    unfold World.cell? at this ⊢
    simp only [hk]
    exact this⟩
end
/-- A reader. -/
abbrev rdCells (A : Option Addr) (n c k : Nat) : Array Value := #[.slice A n c, .int .i64 k]
def RdAt (W : World) (b : Nat) (A : Option Addr) (n c k : Nat) : Prop := W.heap[b]? = some (.cells (rdCells A n c k) 47 (0, 0))
theorem RdAt.set {W : World} {b : Nat} {A : Option Addr} {n c k : Nat} (h : RdAt W b A n c k) {v : Int} {k' : Nat} (hv : v = (k' : Int)) : RdAt (W.setCell ⟨b, 1, none⟩ (.int .i64 v)) b A n c k' := by
  subst hv
  have h := row_store (j := 1) (v := .int .i64 (k' : Int)) h
  simpa [RdAt, rdCells] using h
theorem RdAt.drewN {W : World} {b : Nat} {A : Option Addr} {n c k : Nat} (h : RdAt W b A n c k) (m : Nat) : RdAt (W.drewN m) b A n c k := h
def NxPost (b : Nat) (l : List Int) (A : Option Addr) (n c k : Nat) (w : World) (e : Ending) (w' : World) : Prop :=
  ∃ (x : Int) (pl ok : Bool) (k' : Nat), e = .returned (.tuple #[.int .i32 x, .bool pl, .bool ok]) ∧ k ≤ k' ∧ k' ≤ n ∧ (if ok = true then nx (l.drop k) = some (x, pl, l.drop k') ∧ k < k' ∧ k < n else nx (l.drop k) = none) ∧ RdAt w' b A n c k' ∧ OnlyB b w w'
theorem nx_at {l : List Int} {k : Nat} {x : Int} (h : l[k]? = some x) (hx : x ≠ 92) : nx (l.drop k) = some (x, false, l.drop (k + 1)) := by
  rw [drop_get h]; unfold nx; simp [hx]
theorem nx_esc {l : List Int} {k : Nat} {x : Int} (h : l[k]? = some 92) (h2 : l[k + 1]? = some x) : nx (l.drop k) = some (x, true, l.drop (k + 2)) := by
  rw [drop_get h, drop_get h2]; simp [nx]
theorem nx_end {l : List Int} {k : Nat} (h : l.length ≤ k) : nx (l.drop k) = none := by rw [List.drop_of_length_le h]; rfl
theorem nx_half {l : List Int} {k : Nat} (h : l[k]? = some 92) (h2 : l.length = k + 1) : nx (l.drop k) = none := by
  rw [drop_get h, List.drop_of_length_le (by omega)]; simp [nx]
set_option maxRecDepth 100000 in
set_option maxHeartbeats 2000000 in
theorem next_any (b : Nat) (l : List Int) (A : Option Addr) (n c k : Nat) (w : World) (hb : RdAt w b A n c k) (hr : RowsIn w w.heap.size A n c (fun z => [.int .i32 z]) 1 l) (hA : ∀ a, A = some a → a.block ≠ b) (hk : k ≤ n) :
    Calls Tryd.prog 12 #[.pointer (some ⟨b, 0, none⟩)] w (NxPost b l A n c k w) := by
  have c0 := row_cell hb 0
  have c1 := row_cell hb 1
  have f1 := row_cold hb 1
  have hnl := hr.len
  have hnc := hr.le
  have htop := hr.top
  unfold maxLen at htop
  have HB := Lib.hid hb
  have HR := Lib.hid hr
  have HNL := Lib.hid hnl
  by_cases hkn : k = n
  · have hF : nx (l.drop k) = none := nx_end (by omega)
    have F := Lib.hid hF
    have he : ((k : Int) == (n : Int)) = true := beq_iff_eq.2 (by omega)
    have HKN := Lib.hid hkn
    clear hF hkn hr hb hA hnl
    go_enter Tryd.func12, Tryd.ntmps12
    go_wp2
    go_quiet (fail)
    go_wp2
    go_ret3
    exact ⟨0, false, false, k, rfl, Nat.le_refl _, hk, F.out, HB.out, (OnlyB.refl _ _).drewN nq⟩
  · have hlt : k < n := by omega
    have he : ((k : Int) == (n : Int)) = false := beq_eq_false_iff_ne.2 (by omega)
    obtain ⟨x, hx⟩ : ∃ x, l[k]? = some x := ⟨_, List.getElem?_eq_getElem (by omega)⟩
    obtain ⟨g, o, rfl, hg, hc⟩ := hr.one hx
    have hgb : g ≠ b := hA _ rfl
    have hkc : (k : Int) < (n : Int) := by omega
    have hw1 : IntKind.i64.wrap ((k : Int) + 1) = (k : Int) + 1 := by rw [IntKind.wrap_i64]; omega
    have hw2 : wrap64 ((k : Int) + 1) = (k : Int) + 1 := by unfold wrap64; omega
    have HKN : Hid (k < n) := hlt
    have HST0 : ∀ m, RdAt ((w.drewN m).setCell ⟨b, 1, none⟩ (.int .i64 ((k : Int) + 1))) b (some ⟨g, o, none⟩) n c (k + 1) := fun m => by
      have h := row_store (w := w.drewN m) (j := 1) (v := .int .i64 ((k + 1 : Nat) : Int)) hb
      simpa [RdAt, rdCells] using h
    have HST := Lib.hid HST0
    clear HST0
    by_cases h92 : x = 92
    · subst h92
      by_cases hk2 : k + 1 = n
      · have F : Hid (nx (l.drop k) = none) := nx_half hx (by omega)
        have he2 : ((k : Int) + 1 == (n : Int)) = true := beq_iff_eq.2 (by omega)
        have HK2 : Hid (k + 1 ≤ n) := by simp only [Hid]; omega
        clear hx hr hb hA hnl hkn hk2
        go_enter Tryd.func12, Tryd.ntmps12
        go_wp2
        go_quiet (fail)
        go_wp2
        go_quiet (fail)
        go_wp2
        go_quiet (fail)
        go_wp2
        go_ret3
        refine ⟨0, false, false, k + 1, rfl, Nat.le_succ _, HK2.out, F.out, HST.out _, ?_⟩
        exact (((OnlyB.refl _ _).drewN _).set 1 _).drewN _
      · have hlt2 : k + 1 < n := by omega
        obtain ⟨y, hy⟩ : ∃ y, l[k + 1]? = some y := ⟨_, List.getElem?_eq_getElem (by omega)⟩
        have F : Hid (nx (l.drop k) = some (y, true, l.drop (k + 2))) := nx_esc hx hy
        have he2 : ((k : Int) + 1 == (n : Int)) = false := beq_eq_false_iff_ne.2 (by omega)
        have HK2 : Hid (k + 2 ≤ n) := by simp only [Hid]; omega
        have hc2 : w.cell? ⟨g, o + (k + 1), none⟩ = some (.int .i32 y) := by
          obtain ⟨g', o', e, _, h⟩ := hr.one hy
          injection e with e; injection e with e1 e2; subst e1; subst e2; exact h
        have hw3 : IntKind.i64.wrap ((k : Int) + 1 + 1) = (k : Int) + 2 := by rw [IntKind.wrap_i64]; omega
        have hw4 : wrap64 ((k : Int) + 1 + 1) = (k : Int) + 2 := by unfold wrap64; omega
        have hw5 : IntKind.i64.wrap ((k : Int) + 2 - 1) = (k : Int) + 1 := by rw [IntKind.wrap_i64]; omega
        have hw6 : wrap64 ((k : Int) + 2 - 1) = (k : Int) + 1 := by unfold wrap64; omega
        have hkc2 : (k : Int) + 1 < (n : Int) := by omega
        have hkc3 : ((k : Int) + 1).toNat = k + 1 := by omega
        have hkc4 : (0 : Int) ≤ (k : Int) + 1 := by omega
        clear hx hy hr hb hA hnl hkn hk2
        go_enter Tryd.func12, Tryd.ntmps12
        go_wp2
        go_quiet (fail)
        go_wp2
        go_quiet (fail)
        go_wp2
        go_quiet (fail)
        go_wp2
        go_quiet (fail)
        go_wp2
        go_ret3
        exact ⟨y, true, true, k + 2, rfl, Nat.le_add_right _ _, HK2.out, ⟨F.out, Nat.lt_add_of_pos_right (by decide), HKN.out⟩, (((HST.out _).drewN _).set (k' := k + 2) (by omega)).drewN _, (((((OnlyB.refl _ _).drewN _).set 1 _).drewN _).set 1 _).drewN _⟩
    · have F : Hid (nx (l.drop k) = some (x, false, l.drop (k + 1))) := nx_at hx h92
      have hxe : ((x : Int) != 92) = true := bne_iff_ne.2 h92
      clear hx hr hb hA hnl hkn
      go_enter Tryd.func12, Tryd.ntmps12
      go_wp2
      go_quiet (fail)
      go_wp2
      go_quiet (fail)
      go_wp2
      go_ret3
      exact ⟨x, false, true, k + 1, rfl, Nat.le_succ _, HKN.out, ⟨F.out, Nat.lt_succ_self _, HKN.out⟩, HST.out _, ((OnlyB.refl _ _).drewN _).set 1 _⟩
end Go.Proofs.YtgidfmdbaimcnaaDoor
