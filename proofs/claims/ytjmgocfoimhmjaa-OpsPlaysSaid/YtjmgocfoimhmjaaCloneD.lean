/- slices.Clone of strings and of puts, nil or not, walked. -/
import Derived.Test.YtjmgocfoimhmjaaLikeD
import Derived.Test.YtjmgocfoimhmjaaCloneN
namespace Go.Proofs.Ytjmgocfoimhmjaa
open Go.RowKit

set_option maxRecDepth 20000 in
set_option maxHeartbeats 400000 in
theorem clones_any (A : Option Addr) (n c : Nat) (xs : List ByteArray) (B : Nat) (w : World) (r : RowsIn w B A n c (fun z => [.string z]) 1 xs) (hB : B ≤ w.heap.size) (hn : n ≤ 1000) :
    Calls Try.prog 63 #[.slice A n c] w fun e w' => ∃ D d, e = .returned (.slice D n d) ∧ Owns w' w.heap.size 1 (.slice D n d) n (xs.map Value.string) ∧ Below w.heap.size w w' := by
  have hlen := r.len
  subst hlen
  have L1 : Hid ((xs.map Value.string).length = xs.length * 1) := by simp [Hid]
  have M1 : Hid (∀ u ∈ xs.map Value.string, u.oneCell' = true) := fun u hu => by obtain ⟨y, _, rfl⟩ := List.mem_map.1 hu; rfl
  have HS : Hid (∀ W, Below w.heap.size w W → Src W A xs.length (xs.map Value.string)) := fun W h => src_strs (r.below (h.mono hB))
  have HBW : Hid (Below w.heap.size w (w.alloc (.cells #[] 9))) := (Below.refl _ _).alloc (Nat.le_refl _) _
  have H0 : Hid (A = none → xs = []) := fun h => List.eq_nil_of_length_eq_zero ((src_strs r).1 h)
  have HEQ := fun W : World => run_eql_nil3 (P := Try.prog) W 38 9 A xs.length c 0 0 Try.underlying38
  clear r
  cases A with
  | none =>
    obtain rfl := H0.out rfl
    clear HEQ
    show Calls Try.prog 63 #[.slice none 0 c] w _
    have HEQ := fun W : World => run_eql_nil3 (P := Try.prog) W 38 9 none 0 c 0 0 Try.underlying38
    go_enter Try.func63, Try.ntmps63
    go_wp2
    go_ret
    exact ⟨none, 0, rfl, Owns.nil _ _ _, Below.refl _ _⟩
  | some ad =>
    go_enter Try.func63, Try.ntmps63
    go_wp2_with (at_builtin; refine wpList_appO rfl (.tmp 5) (.tmp 6) 38 rfl Try.underlying38 info_strL rfl (by decide) (own_empty3 w _ w.heap.size 1 (Nat.le_refl _)) rfl (by simp) (some ad) xs.length c rfl (xs.map Value.string) L1.out (HS.out _ HBW.out) M1.out ?_ ?_ ?_; (unfold maxLen; omega); omega; intro A3 c3 w3 hown3 hl3 hbk3)
    simp only [Nat.zero_add, List.nil_append] at hown3
    go_ret
    exact ⟨A3, c3, rfl, hown3, hl3.below (Nat.le_refl _) HBW.out⟩
set_option maxRecDepth 20000 in
set_option maxHeartbeats 400000 in
theorem cloneq_any (A : Option Addr) (n c : Nat) (xs : List PutD) (B : Nat) (w : World) (r : RowsIn w B A n c PutD.cells 2 xs) (hB : B ≤ w.heap.size) (hn : n ≤ 1000) :
    Calls Try.prog 64 #[.slice A n c] w fun e w' => ∃ D d, e = .returned (.slice D n d) ∧ Owns w' w.heap.size 2 (.slice D n d) n (xs.flatMap PutD.cells) ∧ Below w.heap.size w w' := by
  have hlen := r.len
  subst hlen
  have L1 : Hid ((xs.flatMap PutD.cells).length = xs.length * 2) := put_len xs
  have M1 : Hid (∀ u ∈ xs.flatMap PutD.cells, u.oneCell' = true) := put_one xs
  have HS : Hid (∀ W, Below w.heap.size w W → Src W A xs.length (xs.flatMap PutD.cells)) := fun W h => src_puts (r.below (h.mono hB))
  have HBW : Hid (Below w.heap.size w (w.alloc (.cells #[] 100))) := (Below.refl _ _).alloc (Nat.le_refl _) _
  have H0 : Hid (A = none → xs = []) := fun h => List.eq_nil_of_length_eq_zero ((src_puts r).1 h)
  have HEQ := fun W : World => run_eql_nil3 (P := Try.prog) W 39 100 A xs.length c 0 0 Try.underlying39
  clear r
  cases A with
  | none =>
    obtain rfl := H0.out rfl
    clear HEQ
    show Calls Try.prog 64 #[.slice none 0 c] w _
    have HEQ := fun W : World => run_eql_nil3 (P := Try.prog) W 39 100 none 0 c 0 0 Try.underlying39
    go_enter Try.func64, Try.ntmps64
    go_wp2
    go_ret
    exact ⟨none, 0, rfl, Owns.nil _ _ _, Below.refl _ _⟩
  | some ad =>
    go_enter Try.func64, Try.ntmps64
    go_wp2_with (at_builtin; refine wpList_appO rfl (.tmp 5) (.tmp 6) 39 rfl Try.underlying39 info_putL rfl (by decide) (own_empty3 w _ w.heap.size 2 (Nat.le_refl _)) rfl (by simp) (some ad) xs.length c rfl (xs.flatMap PutD.cells) L1.out (HS.out _ HBW.out) M1.out ?_ ?_ ?_; (unfold maxLen; omega); omega; intro A3 c3 w3 hown3 hl3 hbk3)
    simp only [Nat.zero_add, List.nil_append] at hown3
    go_ret
    exact ⟨A3, c3, rfl, hown3, hl3.below (Nat.le_refl _) HBW.out⟩
end Go.Proofs.Ytjmgocfoimhmjaa
