/- An empty slice of the call's own; a slice beside nil. -/
import Derived.Test.YtnnmiolgffcgkaaMem
import Derived.WalkSpells
namespace Go.Proofs.Ytnnmiolgffcgkaa
open Go.RowKit

theorem own_empty3 (W : World) (o : Obj) (B size : Nat) (hB : B ≤ W.heap.size) : Owns (W.alloc o) B size (.slice (some ⟨W.heap.size, 0, none⟩) 0 0) 0 [] :=
  ⟨by simp, .inr ⟨W.heap.size, 0, 0, rfl, hB, by simp, Nat.le_refl _, Nat.zero_le _, fun j u h => by simp at h, fun j h => by omega⟩⟩
theorem run_eql_nil3 {P : Program} (w : World) (t e : TypeId) (a : Option Addr) (n c n' c' : Nat) (h : P.underlying t = some (.slice e)) :
    (binOp .eql t (.slice a n c) (.slice none n' c')).run P w = .ok (.bool a.isNone) w := by
  simp only [binOp]
  simp [Op.equal, Op.maxDepth, Lib.run_equalIn_slice_nil w 9999 t e a n c n' c' h]
end Go.Proofs.Ytnnmiolgffcgkaa
