/- slices.Grow and slices.Concat of two rows of ints, walked. -/
import Derived.Test.YtoncakcfibahaaaHsA
import Derived.Test.YtoncakcfibahaaaAppO
import Derived.Test.YtoncakcfibahaaaSlc
import Derived.Lib.AppendZeros
namespace Go.Proofs.Ytoncakcfibahaaa
open Go.RowKit

theorem info_intH : (Try.prog.info? 3).map (fun i => (i.zero, i.size, i.bytes)) = some (some (.int .i64 0), 1, 8) := by kernel_rfl
def GrPost (w : World) (e : Ending) (w' : World) : Prop := ∃ A c, e = .returned (.slice A 0 c) ∧ Owns w' w.heap.size 1 (.slice A 0 c) 0 [] ∧ Below w.heap.size w w'
theorem own_zeros (w : World) (n G : Nat) (hG : n ≤ G) (hG2 : G ≤ maxLen) (e : TypeId) : Owns (w.drew.alloc (.cells (Builtin.zeroCells (Value.int .i64 0).cells n ++ Builtin.zeroCells (Value.int .i64 0).cells (G - n)) e)) w.heap.size 1 (.slice (some ⟨w.heap.size, 0, none⟩) 0 G) 0 [] := by
  refine ⟨rfl, .inr ⟨w.heap.size, 0, G, rfl, Nat.le_refl _, by simp, Nat.zero_le _, hG2, fun j u hu => by simp at hu, fun j hj => ?_⟩⟩
  have hh : (w.drew.alloc (.cells (Builtin.zeroCells (Value.int .i64 0).cells n ++ Builtin.zeroCells (Value.int .i64 0).cells (G - n)) e)).heap[w.heap.size]? = some (.cells (Builtin.zeroCells (Value.int .i64 0).cells n ++ Builtin.zeroCells (Value.int .i64 0).cells (G - n)) e) := heap_alloc_new w.drew _
  have hsz : (Builtin.zeroCells (Value.int .i64 0).cells n ++ Builtin.zeroCells (Value.int .i64 0).cells (G - n)).size = G := by
    rw [Array.size_append, size_zeroCells, size_zeroCells]
    simp [Value.cells]; omega
  rw [Nat.zero_add]
  refine ⟨?_, frozen_of_row _ _ _ _ _ hh⟩
  rw [cell_of_row _ _ _ _ _ _ hh, Array.getElem?_eq_getElem (by rw [hsz]; omega)]; rfl
set_option maxRecDepth 20000 in
set_option maxHeartbeats 1000000 in
theorem grow_any (n : Nat) (w : World) (h0 : 0 < n) (hn : n ≤ 1000000) :
    Calls Try.prog 20 #[.slice none 0 0, .int .i64 n] w (GrPost w) := by
  obtain ⟨i, hi, hz⟩ := Option.map_eq_some_iff.1 info_intH
  simp only [Prod.mk.injEq] at hz
  obtain ⟨hz0, hz1, hz2⟩ := hz
  have hr := Lib.run_append_nil_zeros (P := Try.prog) w 22 3 22 3 i (.int .i64 0) .i64 .i64 Try.underlying22 (by kernel_rfl) hi hz0 n h0 (by omega) (by omega) (by rw [hz2]; omega)
  have HR := Lib.hid hr
  have hnI : (0 : Int) < (n : Int) := by omega
  have hnI2 : (n : Int) ≤ 1000000 := by omega
  clear hr hi hz0 hz1 hz2
  go_enter Try.func20, Try.ntmps20
  go_wp2_with (at_builtin; refine Lib.wpList_append_run _ rfl (.tmp 20) (.tmp 21) _ _ rfl _ _ rfl rfl _ _ HR.out ?_)
  go_ret
  exact ⟨_, _, rfl, own_zeros w n _ (grownCap_ge _ _ _ _) (grownCap_le_maxLen _ _ _ _ (by unfold maxLen; omega)) _, (Below.refl _ _).drew.alloc (Nat.le_refl _) _⟩
theorem flat_one {α : Type} (f : α → Value) : ∀ xs : List α, xs.flatMap (fun z => [f z]) = xs.map f
  | [] => rfl
  | x :: l => by rw [List.flatMap_cons, flat_one f l]; rfl
def CcI (w : World) (n m : Nat) (xs ys : List Int) (u v : Value) (wr : World) : Prop := ∃ (D : Option Addr) (k d : Nat) (zs : List Int), u = .slice D k d ∧ Owns wr w.heap.size 1 (.slice D k d) k (zs.map (Value.int .i64)) ∧ Below w.heap.size w wr ∧ ((k = 0 ∧ zs = [] ∧ v = .int .i64 0) ∨ (k = n ∧ zs = xs ∧ v = .int .i64 1) ∨ (k = n + m ∧ zs = xs ++ ys ∧ v = .int .i64 2))
set_option maxRecDepth 20000 in
set_option maxHeartbeats 1000000 in
theorem concat_any (qb qo c : Nat) (A : Option Addr) (n cA : Nat) (xs : List Int) (B : Option Addr) (m cB : Nat) (ys : List Int) (w : World) (h0 : w.cell? ⟨qb, qo, none⟩ = some (.slice A n cA)) (h1 : w.cell? ⟨qb, qo + 1, none⟩ = some (.slice B m cB)) (hq : qb < w.heap.size)
    (r : RowsIn w w.heap.size A n cA (fun z => [.int .i64 z]) 1 xs) (r' : RowsIn w w.heap.size B m cB (fun z => [.int .i64 z]) 1 ys) (hn : 0 < n) (hnm : n + m ≤ 1000000) :
    Calls Try.prog 17 #[.slice (some ⟨qb, qo, none⟩) 2 c] w fun e w' => ∃ D d, e = .returned (.slice D (n + m) d) ∧ Owns w' w.heap.size 1 (.slice D (n + m) d) (n + m) ((xs ++ ys).map (Value.int .i64)) ∧ Below w.heap.size w w' := by
  have hl := r.len
  have hl' := r'.len
  have HA : Hid (∀ W, Below w.heap.size w W → W.cell? ⟨qb, qo, none⟩ = some (.slice A n cA) ∧ W.cell? ⟨qb, qo + 1, none⟩ = some (.slice B m cB)) := fun W hW => ⟨(hW.cell (p := ⟨qb, qo, none⟩) hq).trans h0, (hW.cell (p := ⟨qb, qo + 1, none⟩) hq).trans h1⟩
  have HSA : Hid (∀ W, Below w.heap.size w W → Src W A n (xs.map (Value.int .i64))) := fun W hW => by
    have := src_rows (enc := fun z : Int => [Value.int .i64 z]) (k := 1) (fun _ => rfl) (by decide) (r.below hW)
    rwa [show xs.flatMap (fun z => [Value.int .i64 z]) = xs.map (Value.int .i64) from flat_one _ _] at this
  have HSB : Hid (∀ W, Below w.heap.size w W → Src W B m (ys.map (Value.int .i64))) := fun W hW => by
    have := src_rows (enc := fun z : Int => [Value.int .i64 z]) (k := 1) (fun _ => rfl) (by decide) (r'.below hW)
    rwa [show ys.flatMap (fun z => [Value.int .i64 z]) = ys.map (Value.int .i64) from flat_one _ _] at this
  have L1 : Hid ((xs.map (Value.int .i64)).length = n * 1) := Lib.hid (by simp [hl])
  have L2 : Hid ((ys.map (Value.int .i64)).length = m * 1) := Lib.hid (by simp [hl'])
  have M1 : Hid (∀ u ∈ xs.map (Value.int .i64), u.oneCell' = true) := fun u hu => by obtain ⟨z, _, rfl⟩ := List.mem_map.1 hu; rfl
  have M2 : Hid (∀ u ∈ ys.map (Value.int .i64), u.oneCell' = true) := fun u hu => by obtain ⟨z, _, rfl⟩ := List.mem_map.1 hu; rfl
  have HG := Lib.hid (grow_any (n + m) w (by omega) hnm)
  have HC0 := Lib.hid (HA.out w (Below.refl _ _))
  clear r r' h0 h1 hl hl'
  have hnI : (n : Int) + (m : Int) ≤ 1000000 := by omega
  have hnI2 : (0 : Int) < (n : Int) := by omega
  have B1 : Hid (0 + n ≤ maxLen ∧ (0 + n) * 8 ≤ 140737488355328 ∧ n + m ≤ maxLen ∧ (n + m) * 8 ≤ 140737488355328) := by unfold maxLen Hid; omega
  go_enter Try.func17, Try.ntmps17
  go_wp2
  go_loop [3, 11] (fun u v => (u = .int .i64 0 ∧ v = .int .i64 0) ∨ (u = .int .i64 n ∧ v = .int .i64 1) ∨ (u = .int .i64 ((n : Int) + (m : Int)) ∧ v = .int .i64 2)) (fun _ v => 2 - (intOf v).toNat)
  case atStart => exact .inl ⟨rfl, rfl⟩
  case round =>
    obtain ⟨k0, k1⟩ := HC0.out
    rcases hrel with ⟨rfl, rfl⟩ | ⟨rfl, rfl⟩ | ⟨rfl, rfl⟩
    · go_wp2
      go_round
      case rel => exact .inr (.inl ⟨rfl, rfl⟩)
      case measure => simp [intOf]
    · go_wp2
      go_round
      case rel => exact .inr (.inr ⟨rfl, rfl⟩)
      case measure => simp [intOf]
    · have e1 : ((n : Int) + (m : Int)) = ((n + m : Nat) : Int) := by omega
      have E1 := Lib.hid e1
      clear e1 k0 k1
      go_wp2_with (go_at_call 20; rw [E1.out]; refine HG.out.mono ?_; rintro e w1 ⟨D, d, rfl, hown, hb⟩; have HO := Lib.hid hown; have HB := Lib.hid hb; clear hown hb)
      go_loopw [6, 27] (fun u v wr => Hid (CcI w n m xs ys u v wr)) (fun _ v _ => 2 - (intOf v).toNat)
      case atStart => exact ⟨D, 0, d, [], rfl, HO.out, HB.out, .inl ⟨rfl, rfl, rfl⟩⟩
      case round =>
        obtain ⟨D, k, d, zs, rfl, hown, hb, hc⟩ := hrel.out
        clear HO HB hrel
        have hsz := hb.size
        rcases hc with ⟨rfl, rfl, rfl⟩ | ⟨rfl, rfl, rfl⟩ | ⟨rfl, rfl, rfl⟩
        · obtain ⟨k0, k1⟩ := HA.out wr hb
          have HO := Lib.hid hown
          have HB := Lib.hid hb
          clear hown hb
          go_wp2_with (at_builtin; refine wpList_appO rfl (.tmp 31) (.tmp 32) 22 rfl Try.underlying22 info_intH rfl (by decide) HO.out rfl hsz A n cA rfl (xs.map (Value.int .i64)) L1.out (HSA.out _ HB.out) M1.out B1.out.1 B1.out.2.1 ?_; intro A3 c3 w3 hown3 hl3 hbk3; have HO3 := Lib.hid hown3; have HB3 := Lib.hid (hl3.below (Nat.le_refl _) HB.out); clear hown3 hl3 hbk3)
          go_roundw
          case rel => exact ⟨A3, n, c3, xs, by simp, by simpa using HO3.out, HB3.out, .inr (.inl ⟨rfl, rfl, rfl⟩)⟩
          case measure => simp [intOf]
        · obtain ⟨k0, k1⟩ := HA.out wr hb
          have HO := Lib.hid hown
          have HB := Lib.hid hb
          clear hown hb
          go_wp2_with (at_builtin; refine wpList_appO rfl (.tmp 31) (.tmp 32) 22 rfl Try.underlying22 info_intH rfl (by decide) HO.out rfl hsz B m cB rfl (ys.map (Value.int .i64)) L2.out (HSB.out _ HB.out) M2.out B1.out.2.2.1 B1.out.2.2.2 ?_; intro A3 c3 w3 hown3 hl3 hbk3; have HO3 := Lib.hid hown3; have HB3 := Lib.hid (hl3.below (Nat.le_refl _) HB.out); clear hown3 hl3 hbk3)
          go_roundw
          case rel => exact ⟨A3, k + m, c3, zs ++ ys, rfl, by rw [List.map_append]; exact HO3.out, HB3.out, .inr (.inr ⟨rfl, rfl, rfl⟩)⟩
          case measure => simp [intOf]
        · have HO := Lib.hid hown
          have HB := Lib.hid hb
          clear hown hb
          go_wp2
          go_ret
          exact ⟨D, d, rfl, HO.out, HB.out⟩
end Go.Proofs.Ytoncakcfibahaaa
