/- linenref.CodeRead, walked. -/
import Derived.Test.YtebgcemglicjiaaWoJa
import Derived.Test.YtebgcemglicjiaaBitsR
namespace Go.Proofs.Ytebgcemglicjiaa
open Go.RowKit Go.PlainAid

theorem sg_hit {l : List Int} {s : ByteArray} {a x k : Nat} {w w' : World} {e : Ending} (h : SgPost l s a w e w') (ho : one l s a = ((x : Int), (k : Int), 0)) : ∃ q k' : Nat, w' = w.drewN q ∧ e = .returned (.tuple #[.int .i64 x, .int .i64 k', .int .i64 0]) ∧ k = a + k' := by
  obtain ⟨⟨q, hq⟩, ⟨x', k', he, hone⟩ | ⟨z, hz, he, hone⟩⟩ := h
  · rw [ho] at hone
    simp only [Prod.mk.injEq] at hone
    obtain ⟨h1, h2, _⟩ := hone
    exact ⟨q, k', hq, by rw [he, h1], by omega⟩
  · rw [ho] at hone
    simp only [Prod.mk.injEq] at hone
    exact absurd hone.2.2.symm hz
theorem sg_bad {l : List Int} {s : ByteArray} {a : Nat} {z : Int} {w w' : World} {e : Ending} (h : SgPost l s a w e w') (ho : one l s a = (0, 0, z)) (hz : z ≠ 0) : ∃ q : Nat, w' = w.drewN q ∧ e = .returned (.tuple #[.int .i64 0, .int .i64 0, .int .i64 z]) := by
  obtain ⟨⟨q, hq⟩, ⟨x', k', he, hone⟩ | ⟨z', hz', he, hone⟩⟩ := h
  · rw [ho] at hone
    simp only [Prod.mk.injEq] at hone
    exact absurd hone.2.2 hz
  · rw [ho] at hone
    simp only [Prod.mk.injEq] at hone
    exact ⟨q, hq, by rw [he, hone.2.2]⟩

end Go.Proofs.Ytebgcemglicjiaa
