/- A call that starts no goroutine, in a row that says 'leaving': whoever is alone at the return has nobody who leaves. -/
import Derived.JoinedCond
import Derived.ClaimOpenTies
import Derived.JoinedOf
namespace Go.Proofs.Ytdoaogfpahjmmaa

theorem leaves_of_alone (P : Program) (m : Machine) (w : World) (t : Trace) (h : aloneAtReturn P m w t) : leavingAtReturn P m w t := by
  obtain ⟨⟨hd, ht⟩, ho, he⟩ := h
  refine ⟨ho, ⟨fun g hg => ⟨0, ?_⟩, ht⟩, he⟩
  unfold Machine.othersDone at hd
  have := List.all_eq_true.1 hd g hg
  show g.status = .finished
  exact beq_iff_eq.1 this

/-- A row that says 'leaving' holds where the same row that says 'alone' does. -/
theorem holds_leaving {p : Pinned} {s : OpenSpec} {c : OpenClaim} (hl : c.leaving = true) (ha : c.again = false) (hs : c.start = .entering) (hst : c.stops = []) (h : OpenClaim.holds p s { c with leaving := false }) : c.holds p s := by
  obtain ⟨h1, h2, h3, h4, h5, h6, h7, h8, f, fn, g1, g2, g3, g4, g5, g6, g7, g8, g9, g10, g11, g12, g13, g14, g15, g16, g17, g18, g19, g20, g21, L, hL, hall⟩ := h
  refine ⟨?_, h2, h3, h4, h5, h6, h7, h8, f, fn, g1, g2, g3, g4, g5, g6, g7, g8, g9, g10, g11, g12, g13, g14, g15, g16, g17, g18, g19, g20, g21, L, hL, fun os st q H enc inj => ?_⟩
  · have e : ∀ b : Bool, ({ c with leaving := b } : OpenClaim).wf s = ({ c with leaving := false } : OpenClaim).wf s := fun b => by
      unfold OpenClaim.wf
      simp only [ha, Bool.false_and]
      rfl
    have := e c.leaving
    rw [show ({ c with leaving := c.leaving } : OpenClaim) = c from rfl] at this
    rw [this]; exact h1
  · have := hall os st q H enc inj
    unfold OpenClaim.form at this ⊢
    simp only [hs, hst] at this ⊢
    intro F
    refine ReturnsInOpen.mono ?_ (fun _ x => x) (this F)
    intro m w t hh
    unfold OpenClaim.atReturn at hh ⊢
    rw [hl]
    exact leaves_of_alone _ _ _ _ hh
end Go.Proofs.Ytdoaogfpahjmmaa
