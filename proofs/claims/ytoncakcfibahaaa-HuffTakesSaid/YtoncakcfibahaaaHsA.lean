/- Coins in a row, moved about whole: the row's law, and slices' swap of two ranges, walked. -/
import Derived.Test.YtoncakcfibahaaaMem
import Derived.BigRegion
import Derived.IntWalk
import Derived.Lib.Hide
namespace Go.Proofs.Ytoncakcfibahaaa
open Go.RowKit

structure CoinV where
  worth : Int
  A : Option Addr
  n : Nat
  c : Nat
  deriving Inhabited
def CoinV.cells (x : CoinV) : List Value := [.int .i64 x.worth, .slice x.A x.n x.c]
def CoinV.val (x : CoinV) : Value := .agg #[.int .i64 x.worth, .slice x.A x.n x.c]
/-- In a world that came out of w0 with nothing old turned but block b, the row of n coins from o on in b holds l, and may be written. -/
structure Row (w0 : World) (b o n : Nat) (l : List CoinV) (w : World) : Prop where
  len : l.length = n
  lt : b < w0.heap.size
  grown : w0.grownBy w (some b)
  cell0 : ∀ i x, l[i]? = some x → w.cell? ⟨b, o + i * 2, none⟩ = some (.int .i64 x.worth)
  cell1 : ∀ i x, l[i]? = some x → w.cell? ⟨b, o + i * 2 + 1, none⟩ = some (.slice x.A x.n x.c)
  free0 : ∀ i, i < n → w.frozen? ⟨b, o + i * 2, none⟩ = false
  free1 : ∀ i, i < n → w.frozen? ⟨b, o + i * 2 + 1, none⟩ = false
section
variable {w0 w w' : World} {b o n : Nat} {l : List CoinV}
theorem grown_step (h : w0.grownBy w (some b)) (a : Addr) (ha : a.block = b) (v : Value) : w0.grownBy (w.setCell a v) (some b) :=
  ⟨h.os, h.tape, h.output, by simpa [World.setCell] using h.size, fun k hk hne => (Below.heap_setCell w a v k (fun e => hne (by rw [e, ha]))).trans (h.block k hk hne)⟩
theorem grown_below (h : w0.grownBy w (some b)) (hb : Below w.heap.size w w') : w0.grownBy w' (some b) :=
  ⟨hb.os.trans h.os, hb.tape.trans h.tape, hb.output.trans h.output, Nat.le_trans h.size hb.size, fun k hk hne => (hb.block k (Nat.lt_of_lt_of_le hk h.size)).trans (h.block k hk hne)⟩
theorem Row.below (h : Row w0 b o n l w) (hb : Below w.heap.size w w') : Row w0 b o n l w' := by
  have hlt : b < w.heap.size := Nat.lt_of_lt_of_le h.lt h.grown.size
  exact ⟨h.len, h.lt, grown_below h.grown hb, fun i x hx => (hb.cell (p := ⟨b, _, none⟩) hlt).trans (h.cell0 i x hx), fun i x hx => (hb.cell (p := ⟨b, _, none⟩) hlt).trans (h.cell1 i x hx),
    fun i hi => (hb.frozen (p := ⟨b, _, none⟩) hlt).trans (h.free0 i hi), fun i hi => (hb.frozen (p := ⟨b, _, none⟩) hlt).trans (h.free1 i hi)⟩
theorem Row.set (h : Row w0 b o n l w) (j : Nat) (y : CoinV) (hj : j < n) : Row w0 b o n (l.set j y) ((w.setCell ⟨b, o + j * 2, none⟩ (.int .i64 y.worth)).setCell ⟨b, o + j * 2 + 1, none⟩ (.slice y.A y.n y.c)) := by
  have hl : j < l.length := by rw [h.len]; exact hj
  have hx := List.getElem?_eq_getElem hl
  have hs : ((w.cell? ⟨b, o + j * 2, none⟩).isSome = true) := by rw [h.cell0 j _ hx]; rfl
  have hs1 : ((w.cell? ⟨b, o + j * 2 + 1, none⟩).isSome = true) := by rw [h.cell1 j _ hx]; rfl
  refine ⟨by rw [List.length_set]; exact h.len, h.lt, grown_step (grown_step h.grown _ rfl _) _ rfl _, fun i x hi => ?_, fun i x hi => ?_, fun i hi => ?_, fun i hi => ?_⟩
  · rw [World.cell?_setCell_other _ _ _ _ (fun e => by injection e with _ e _; omega)]
    by_cases e : i = j
    · subst e
      rw [List.getElem?_set_self hl] at hi
      obtain rfl : y = x := by simpa using hi
      exact World.cell?_setCell_same' _ _ _ hs
    · rw [List.getElem?_set_ne (fun q => e q.symm)] at hi
      rw [World.cell?_setCell_other _ _ _ _ (fun q => by injection q with _ q _; omega)]
      exact h.cell0 i x hi
  · by_cases e : i = j
    · subst e
      rw [List.getElem?_set_self hl] at hi
      obtain rfl : y = x := by simpa using hi
      exact World.cell?_setCell_same' _ _ _ (by rw [World.cell?_setCell_other _ _ _ _ (fun q => by injection q with _ q _; omega)]; exact hs1)
    · rw [List.getElem?_set_ne (fun q => e q.symm)] at hi
      rw [World.cell?_setCell_other _ _ _ _ (fun q => by injection q with _ q _; omega), World.cell?_setCell_other _ _ _ _ (fun q => by injection q with _ q _; omega)]
      exact h.cell1 i x hi
  · rw [World.frozen?_setCell, World.frozen?_setCell]; exact h.free0 i hi
  · rw [World.frozen?_setCell, World.frozen?_setCell]; exact h.free1 i hi
theorem Row.drew (h : Row w0 b o n l w) : Row w0 b o n l w.drew :=
  ⟨h.len, h.lt, ⟨h.grown.os, h.grown.tape, h.grown.output, h.grown.size, h.grown.block⟩, h.cell0, h.cell1, h.free0, h.free1⟩
theorem Row.drewN (h : Row w0 b o n l w) (m : Nat) : Row w0 b o n l (w.drewN m) :=
  ⟨h.len, h.lt, ⟨h.grown.os, h.grown.tape, h.grown.output, h.grown.size, h.grown.block⟩, h.cell0, h.cell1, h.free0, h.free1⟩
end
/-- k coins from i on and k from j on change places. -/
def swp (l : List CoinV) (i j : Nat) : Nat → List CoinV
  | 0 => l
  | k + 1 => ((swp l i j k).set (i + k) (l[j + k]?.getD default)).set (j + k) (l[i + k]?.getD default)
theorem swp_len (l : List CoinV) (i j : Nat) : ∀ k, (swp l i j k).length = l.length
  | 0 => rfl
  | k + 1 => by rw [swp, List.length_set, List.length_set, swp_len l i j k]
theorem swp_out (l : List CoinV) (i j : Nat) : ∀ (k r : Nat), (r < i ∨ i + k ≤ r) → (r < j ∨ j + k ≤ r) → (swp l i j k)[r]? = l[r]?
  | 0, _, _, _ => rfl
  | k + 1, r, h1, h2 => by rw [swp, List.getElem?_set_ne (by omega), List.getElem?_set_ne (by omega), swp_out l i j k r (by omega) (by omega)]
theorem swp_i (l : List CoinV) (i j : Nat) : ∀ (k r : Nat), i + k ≤ j → j + k ≤ l.length → r < k → (swp l i j k)[i + r]? = l[j + r]?
  | 0, _, _, _, h => by omega
  | k + 1, r, h1, h2, h3 => by
    rw [swp, List.getElem?_set_ne (by omega)]
    by_cases e : r = k
    · subst e
      rw [List.getElem?_set_self (by rw [swp_len]; omega), List.getElem?_eq_getElem (by omega)]; rfl
    · rw [List.getElem?_set_ne (by omega), swp_i l i j k r (by omega) (by omega) (by omega)]
theorem swp_j (l : List CoinV) (i j : Nat) : ∀ (k r : Nat), i + k ≤ j → j + k ≤ l.length → r < k → (swp l i j k)[j + r]? = l[i + r]?
  | 0, _, _, _, h => by omega
  | k + 1, r, h1, h2, h3 => by
    rw [swp]
    by_cases e : r = k
    · subst e
      rw [List.getElem?_set_self (by rw [List.length_set, swp_len]; omega), List.getElem?_eq_getElem (by omega)]; rfl
    · rw [List.getElem?_set_ne (by omega), List.getElem?_set_ne (by omega), swp_j l i j k r (by omega) (by omega) (by omega)]
set_option maxRecDepth 20000 in
set_option maxHeartbeats 400000 in
theorem swapr_any (w0 : World) (b o n c i j m : Nat) (l : List CoinV) (cmp : Value) (w : World) (h : Row w0 b o n l w) (hi : i + m ≤ j) (hj : j + m ≤ n) (hn : n ≤ 100000) :
    Calls Try.prog 22 #[.slice (some ⟨b, o, none⟩) n c, .int .i64 i, .int .i64 j, .int .i64 m, cmp] w fun e w' => e = .returned (.tuple #[]) ∧ Row w0 b o n (swp l i j m) w' := by
  have HL := Lib.hid h.len
  go_enter Try.func22, Try.ntmps22
  go_wp2
  go_loopw [10] (fun v wr => ∃ k : Nat, k ≤ m ∧ v = .int .i64 k ∧ Row w0 b o n (swp l i j k) wr) (fun v _ => m - (intOf v).toNat)
  case atStart => exact ⟨0, by omega, rfl, h⟩
  case round =>
    obtain ⟨k, hk, rfl, hr⟩ := hrel
    by_cases hlt : k < m
    · obtain ⟨p, hp⟩ : ∃ p : Nat, p = i + k := ⟨_, rfl⟩
      obtain ⟨q, hq⟩ : ∃ q : Nat, q = j + k := ⟨_, rfl⟩
      have hpl : p < l.length := by rw [HL.out]; omega
      have hql : q < l.length := by rw [HL.out]; omega
      obtain ⟨x, hx⟩ : ∃ x, l[p]? = some x := ⟨_, List.getElem?_eq_getElem hpl⟩
      obtain ⟨y, hy⟩ : ∃ y, l[q]? = some y := ⟨_, List.getElem?_eq_getElem hql⟩
      have hx' : (swp l i j k)[p]? = some x := by rw [swp_out l i j k p (by omega) (by omega)]; exact hx
      have hy' : (swp l i j k)[q]? = some y := by rw [swp_out l i j k q (by omega) (by omega)]; exact hy
      have cp0 := hr.cell0 p x hx'
      have cp1 := hr.cell1 p x hx'
      have cq0 := hr.cell0 q y hy'
      have cq1 := hr.cell1 q y hy'
      have fp0 := hr.free0 p (by omega)
      have fp1 := hr.free1 p (by omega)
      have fq0 := hr.free0 q (by omega)
      have fq1 := hr.free1 q (by omega)
      have wp : IntKind.i64.wrap ((i : Int) + (k : Int)) = (p : Int) := by rw [hp, IntWalk.i64_in _ (by omega)]; push_cast; rfl
      have wq : IntKind.i64.wrap ((j : Int) + (k : Int)) = (q : Int) := by rw [hq, IntWalk.i64_in _ (by omega)]; push_cast; rfl
      have hpn : (p : Int) < (n : Int) := by omega
      have hqn : (q : Int) < (n : Int) := by omega
      have hp0 : (0 : Int) ≤ (p : Int) := by omega
      have hne : ¬ p = q := by omega
      have hne' : ¬ q = p := by omega
      have hq0 : (0 : Int) ≤ (q : Int) := by omega
      have HR := Lib.hid hr
      have HP := Lib.hid hp
      have HQ := Lib.hid hq
      have HX := Lib.hid hx
      have HY := Lib.hid hy
      clear hr hp hq hx hy hx' hy' h hpl hql
      go_wp2
      go_region
      go_wp2
      go_roundw
      case rel =>
        refine ⟨k + 1, by omega, by go_num, ?_⟩
        have h2 := ((HR.out.set p y (by omega)).set q x (by omega)).drew
        rw [swp, ← HP.out, ← HQ.out, HX.out, HY.out]
        exact h2
      case measure => simp [intOf]; omega
    · obtain rfl : k = m := by omega
      have HR := Lib.hid hr
      clear hr
      go_wp2
      go_end0
      exact ⟨rfl, HR.out⟩
end Go.Proofs.Ytoncakcfibahaaa
