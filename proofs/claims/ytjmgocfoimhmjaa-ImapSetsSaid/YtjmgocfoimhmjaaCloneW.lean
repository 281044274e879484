/- slices.Clone of places and of ints that are not nil, walked. -/
import Derived.Test.YtjmgocfoimhmjaaLikeW
import Derived.WalkSpells
namespace Go.Proofs.Ytjmgocfoimhmjaa
open Go.RowKit

theorem own_empty (W : World) (o : Obj) (B size : Nat) (hB : B ≤ W.heap.size) : Owns (W.alloc o) B size (.slice (some ⟨W.heap.size, 0, none⟩) 0 0) 0 [] :=
  ⟨by simp, .inr ⟨W.heap.size, 0, 0, rfl, hB, by simp, Nat.le_refl _, Nat.zero_le _, fun j u h => by simp at h, fun j h => by omega⟩⟩

theorem run_eql_nil2 {P : Program} (w : World) (t e : TypeId) (a : Option Addr) (n c n' c' : Nat) (h : P.underlying t = some (.slice e)) :
    (binOp .eql t (.slice a n c) (.slice none n' c')).run P w = .ok (.bool a.isNone) w := by
  simp only [binOp]
  simp [Op.equal, Op.maxDepth, Lib.run_equalIn_slice_nil w 9999 t e a n c n' c' h]

set_option maxRecDepth 20000 in
set_option maxHeartbeats 400000 in
theorem clonep_any (A : Option Addr) (n c : Nat) (xs : List PlaceD) (B : Nat) (w : World) (r : RowsIn w B A n c PlaceD.cells 2 xs) (hB : B ≤ w.heap.size) (h0 : 0 < n) (hn : n ≤ 1000) :
    Calls Try.prog 19 #[.slice A n c] w fun e w' => ∃ D d, e = .returned (.slice D n d) ∧ Owns w' w.heap.size 2 (.slice D n d) n (xs.flatMap PlaceD.cells) ∧ Below w.heap.size w w' := by
  obtain ⟨b, o, rfl, hb⟩ := rows_some r h0
  have hlen := r.len
  subst hlen
  have R := Lib.hid r
  have L1 : Hid ((xs.flatMap PlaceD.cells).length = xs.length * 2) := by simp only [Hid]; rw [flat_pl_len]; omega
  have M1 : Hid (∀ u ∈ xs.flatMap PlaceD.cells, u.oneCell' = true) := fun u hu => by
    obtain ⟨y, _, hy⟩ := List.mem_flatMap.1 hu
    simp [PlaceD.cells] at hy
    rcases hy with rfl | rfl <;> rfl
  have HEQ := fun W : World => run_eql_nil2 (P := Try.prog) W 22 27 (some ⟨b, o, none⟩) xs.length c 0 0 Try.underlying22
  have HNN : Hid (∀ W, Below w.heap.size w W → B ≤ w.heap.size → ∀ j u, (xs.flatMap PlaceD.cells)[j]? = some u → W.cell? (Addr.add ⟨b, o, none⟩ j) = some u) := fun W h hB => flat_cells (r.below (h.mono hB))
  clear r
  go_enter Try.func19, Try.ntmps19
  have HBW : Hid (Below w.heap.size w (w.alloc (.cells #[] 27))) := (Below.refl _ _).alloc (Nat.le_refl _) _
  go_wp2_with (at_builtin; refine wpList_appN rfl rfl Try.underlying22 info_placeL rfl (by omega) (own_empty w _ w.heap.size 2 (Nat.le_refl _)) rfl (by simp) rfl (xs.flatMap PlaceD.cells) L1.out (HNN.out _ HBW.out hB) M1.out ?_ ?_ ?_; (unfold maxLen; omega); omega; intro A3 c3 w3 hown3 hl3 hbk3)
  simp only [Nat.zero_add, List.nil_append] at hown3
  go_ret
  exact ⟨A3, c3, rfl, hown3, hl3.below (Nat.le_refl _) HBW.out⟩

set_option maxRecDepth 20000 in
set_option maxHeartbeats 400000 in
theorem clonei_any (A : Option Addr) (n c : Nat) (xs : List Int) (B : Nat) (w : World) (r : RowsIn w B A n c (fun z => [.int .i64 z]) 1 xs) (hB : B ≤ w.heap.size) (h0 : 0 < n) (hn : n ≤ 1000) :
    Calls Try.prog 20 #[.slice A n c] w fun e w' => ∃ D d, e = .returned (.slice D n d) ∧ Owns w' w.heap.size 1 (.slice D n d) n (xs.map (Value.int .i64)) ∧ Below w.heap.size w w' := by
  obtain ⟨b, o, rfl, hb⟩ := rows_some r h0
  have hlen := r.len
  subst hlen
  have R := Lib.hid r
  have L1 : Hid ((xs.map (Value.int .i64)).length = xs.length * 1) := by simp [Hid]
  have M1 : Hid (∀ u ∈ xs.map (Value.int .i64), u.oneCell' = true) := fun u hu => by obtain ⟨y, _, rfl⟩ := List.mem_map.1 hu; rfl
  have HEQ := fun W : World => run_eql_nil2 (P := Try.prog) W 23 3 (some ⟨b, o, none⟩) xs.length c 0 0 Try.underlying23
  have HNN : Hid (∀ W, Below w.heap.size w W → B ≤ w.heap.size → ∀ j u, (xs.map (Value.int .i64))[j]? = some u → W.cell? (Addr.add ⟨b, o, none⟩ j) = some u) := fun W h hB => rows_cells (r.below (h.mono hB))
  clear r
  go_enter Try.func20, Try.ntmps20
  have HBW : Hid (Below w.heap.size w (w.alloc (.cells #[] 3))) := (Below.refl _ _).alloc (Nat.le_refl _) _
  go_wp2_with (at_builtin; refine wpList_appN rfl rfl Try.underlying23 info_i64l rfl (by omega) (own_empty w _ w.heap.size 1 (Nat.le_refl _)) rfl (by simp) rfl (xs.map (Value.int .i64)) L1.out (HNN.out _ HBW.out hB) M1.out ?_ ?_ ?_; (unfold maxLen; omega); omega; intro A3 c3 w3 hown3 hl3 hbk3)
  simp only [Nat.zero_add, List.nil_append] at hown3
  go_ret
  exact ⟨A3, c3, rfl, hown3, hl3.below (Nat.le_refl _) HBW.out⟩
end Go.Proofs.Ytjmgocfoimhmjaa
