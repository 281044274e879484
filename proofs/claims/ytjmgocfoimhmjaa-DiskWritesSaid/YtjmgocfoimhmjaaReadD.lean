/- disk.Read, walked. -/
import Derived.Test.YtjmgocfoimhmjaaLandW
import Derived.Test.YtjmgocfoimhmjaaDnowW
import Derived.Test.YtjmgocfoimhmjaaPlayP
import Derived.Test.YtjmgocfoimhmjaaDiskW
namespace Go.Proofs.Ytjmgocfoimhmjaa
open Go.RowKit

def rdE (cs : List ByteArray) (ws : List PutD) (a : Int) : Int := if dskE cs ws ≠ 0 then dskE cs ws else if a < 0 ∨ (cs.length : Int) ≤ a then 1 else 0
def rdS (cs : List ByteArray) (ws : List PutD) (a : Int) : ByteArray := if dskE cs ws ≠ 0 then ⟨#[]⟩ else if a < 0 ∨ (cs.length : Int) ≤ a then ⟨#[]⟩ else nowS cs ws a
theorem rd_dsk {cs : List ByteArray} {ws : List PutD} {a : Int} (h : dskE cs ws ≠ 0) : rdE cs ws a = dskE cs ws ∧ rdS cs ws a = ⟨#[]⟩ := by unfold rdE rdS; rw [if_pos h, if_pos h]; exact ⟨rfl, rfl⟩
theorem rd_arg {cs : List ByteArray} {ws : List PutD} {a : Int} (h : dskE cs ws = 0) (ha : a < 0 ∨ (cs.length : Int) ≤ a) : rdE cs ws a = 1 ∧ rdS cs ws a = ⟨#[]⟩ := by have e : ¬ (dskE cs ws ≠ 0) := fun g => g h; unfold rdE rdS; rw [if_neg e, if_neg e, if_pos ha, if_pos ha]; exact ⟨rfl, rfl⟩
theorem rd_ok {cs : List ByteArray} {ws : List PutD} {a : Int} (h : dskE cs ws = 0) (ha : ¬ (a < 0 ∨ (cs.length : Int) ≤ a)) : rdE cs ws a = 0 ∧ rdS cs ws a = nowS cs ws a := by have e : ¬ (dskE cs ws ≠ 0) := fun g => g h; unfold rdE rdS; rw [if_neg e, if_neg e, if_neg ha, if_neg ha]; exact ⟨rfl, rfl⟩

set_option maxRecDepth 20000 in
set_option maxHeartbeats 1000000 in
theorem dread_any (A : Option Addr) (n c : Nat) (cs : List ByteArray) (A' : Option Addr) (n' c' : Nat) (ws : List PutD) (a : Int) (w : World) (r : RowsIn w w.heap.size A n c (fun z => [.string z]) 1 cs) (r' : RowsIn w w.heap.size A' n' c' PutD.cells 2 ws) :
    Calls Try.prog 24 #[.agg #[.slice A n c, .slice A' n' c'], .int .i64 a] w fun e w' => e = .returned (.tuple #[.string (rdS cs ws a), .int .i64 (rdE cs ws a)]) ∧ Below w.heap.size w w' := by
  have hlen := r.len
  subst hlen
  have hlen' := r'.len
  subst hlen'
  obtain ⟨wa, hwa⟩ : ∃ wa, wa = w.alloc (.cells #[.slice A cs.length c, .slice A' ws.length c'] 41) := ⟨_, rfl⟩
  have hza : wa.heap.size = w.heap.size + 1 := by rw [hwa]; simp
  have hba : Below w.heap.size w wa := by rw [hwa]; exact (Below.refl _ _).alloc (Nat.le_refl _) _
  have hrb : wa.heap[w.heap.size]? = some (.cells #[.slice A cs.length c, .slice A' ws.length c'] 41 (0, 0)) := by
    rw [hwa]; exact heap_alloc_new w _
  have hle : w.heap.size ≤ wa.heap.size := by omega
  have RA := Lib.hid ((r.below hba).more hle)
  have RA' := Lib.hid ((r'.below hba).more hle)
  have HC := Lib.hid (dchk_any A cs.length c cs A' ws.length c' ws wa RA.out RA'.out)
  have HRB := Lib.hid hrb
  have HWA := Lib.hid hwa
  have HBA := Lib.hid hba
  clear r r' hwa hza hba hrb hle
  by_cases hd : dskE cs ws = 0
  · obtain ⟨z1, z2, _, _, z3⟩ := dsk_zero hd
    rw [hd] at HC
    by_cases ha : a < 0 ∨ (cs.length : Int) ≤ a
    · obtain ⟨e1, e2⟩ := rd_arg (a := a) hd ha
      rw [e1, e2]
      clear e1 e2 hd
      rcases (show a < 0 ∨ (0 ≤ a ∧ (cs.length : Int) ≤ a) by omega) with h | ⟨h, h'⟩ <;> clear ha
      all_goals
        go_enter Try.func24, Try.ntmps24
        go_wp2_with (go_at_call 60; rw [← HWA.out]; refine HC.out.mono ?_; rintro e w1 ⟨rfl, hb1⟩; have hrb1 := row_below HRB.out (row_lt HRB.out) hb1; have q0 : w1.cell? ⟨w.heap.size, 0, none⟩ = some (.slice A cs.length c) := row_cell hrb1 0; have HB1 := Lib.hid hb1; clear hrb1 hb1)
        go_ret2
        exact ⟨rfl, HBA.out.trans (HB1.out.mono HBA.out.size)⟩
    · obtain ⟨e1, e2⟩ := rd_ok (a := a) hd ha
      obtain ⟨k, rfl⟩ : ∃ k : Nat, a = k := ⟨a.toNat, by omega⟩
      have i1 : (k : Int) < (cs.length : Int) := by omega
      have HN : Hid (∀ W, Below wa.heap.size wa W → Calls Try.prog 65 #[.agg #[.slice A cs.length c, .slice A' ws.length c'], .int .i64 k] W fun e w' => e = .returned (.string (nowS cs ws k)) ∧ Below W.heap.size W w') := fun W h => now_any A _ c cs A' _ c' ws k W ((RA.out.below h).more h.size) ((RA'.out.below h).more h.size) (by omega) z3
      rw [e1, e2]
      clear e1 e2 hd ha
      generalize nowS cs ws k = s at *
      go_enter Try.func24, Try.ntmps24
      go_wp2_with (first
        | (go_at_call 60; rw [← HWA.out]; refine HC.out.mono ?_; rintro e w1 ⟨rfl, hb1⟩; have hrb1 := row_below HRB.out (row_lt HRB.out) hb1; have q0 : w1.cell? ⟨w.heap.size, 0, none⟩ = some (.slice A cs.length c) := row_cell hrb1 0; have q1 : w1.cell? ⟨w.heap.size, 1, none⟩ = some (.slice A' ws.length c') := row_cell hrb1 1; have HB1 := Lib.hid hb1; clear hrb1 hb1)
        | (go_at_call 65; refine (HN.out _ HB1.out).mono ?_; rintro e w2 ⟨rfl, hb2⟩))
      go_ret2
      exact ⟨rfl, HBA.out.trans ((HB1.out.trans (hb2.mono HB1.out.size)).mono HBA.out.size)⟩
  · obtain ⟨e1, e2⟩ := rd_dsk (a := a) hd
    rw [e1, e2]
    have i4 : (dskE cs ws != 0) = true := bne_iff_ne.2 hd
    generalize dskE cs ws = de at *
    clear hd e1 e2
    go_enter Try.func24, Try.ntmps24
    go_wp2_with (go_at_call 60; rw [← HWA.out]; refine HC.out.mono ?_; rintro e w1 ⟨rfl, hb1⟩; have HB1 := Lib.hid hb1; clear hb1)
    go_ret2
    exact ⟨rfl, HBA.out.trans (HB1.out.mono HBA.out.size)⟩
end Go.Proofs.Ytjmgocfoimhmjaa
