/- disk.Crash, walked. -/
import Derived.Test.YtjmgocfoimhmjaaSyncW
namespace Go.Proofs.Ytjmgocfoimhmjaa
open Go.RowKit

set_option maxRecDepth 20000 in
set_option maxHeartbeats 1000000 in
theorem crash_any (Ak : Option Addr) (nk ck : Nat) (ks : List Bool) (A : Option Addr) (n c : Nat) (cs : List ByteArray) (A' : Option Addr) (n' c' : Nat) (ws : List PutD) (w : World) (r : RowsIn w w.heap.size A n c (fun z => [.string z]) 1 cs) (r' : RowsIn w w.heap.size A' n' c' PutD.cells 2 ws) (rk : RowsIn w w.heap.size Ak nk ck (fun z => [.bool z]) 1 ks) :
    Calls Try.prog 69 #[.agg #[.slice A n c, .slice A' n' c'], .slice Ak nk ck] w (SyPost (keepB ks) cs ws w) := by
  obtain ⟨wa, hwa⟩ : ∃ wa, wa = ((w.alloc (.cells #[.slice A n c, .slice A' n' c'] 41)).alloc (.cells #[.slice Ak nk ck] 55)).alloc (.cells zeroDsk 41) := ⟨_, rfl⟩
  have hza : wa.heap.size = w.heap.size + 3 := by rw [hwa]; simp
  have hba : Below w.heap.size w wa := by rw [hwa]; exact (((Below.refl _ _).alloc (Nat.le_refl _) _).alloc (by simp) _).alloc (by simp; omega) _
  have hra : wa.heap[w.heap.size + 2]? = some (.cells zeroDsk 41 (0, 0)) := by
    rw [hwa]
    have := heap_alloc_new ((w.alloc (.cells #[.slice A n c, .slice A' n' c'] 41)).alloc (.cells #[.slice Ak nk ck] 55)) (.cells zeroDsk 41)
    rw [show ((w.alloc (.cells #[.slice A n c, .slice A' n' c'] 41)).alloc (.cells #[.slice Ak nk ck] 55)).heap.size = w.heap.size + 2 by simp] at this
    exact this
  have hrk : wa.heap[w.heap.size + 1]? = some (.cells #[.slice Ak nk ck] 55 (0, 0)) := by
    rw [hwa]
    have := heap_alloc_new (w.alloc (.cells #[.slice A n c, .slice A' n' c'] 41)) (.cells #[.slice Ak nk ck] 55)
    rw [show (w.alloc (.cells #[.slice A n c, .slice A' n' c'] 41)).heap.size = w.heap.size + 1 by simp] at this
    exact (heap_alloc_old _ _ (by simp)).trans this
  have hrb : wa.heap[w.heap.size]? = some (.cells #[.slice A n c, .slice A' n' c'] 41 (0, 0)) := by
    rw [hwa]; exact (heap_alloc_old _ _ (by simp; omega)).trans ((heap_alloc_old _ _ (by simp)).trans (heap_alloc_new w _))
  have rk2 := (rk.below hba).more (show w.heap.size ≤ wa.heap.size by omega)
  have hck : wa.cell? ⟨w.heap.size + 1, 0, none⟩ = some (.slice Ak nk ck) := row_cell hrk 0
  have ra := (r.below hba).more (show w.heap.size ≤ wa.heap.size by omega)
  have ra' := (r'.below hba).more (show w.heap.size ≤ wa.heap.size by omega)
  have HC := Lib.hid (dchk_any A n c cs A' n' c' ws wa ra ra')
  have hone0 : Hid ((zeroDsk : Array Value).all (·.oneCell') = true) := by simp [Hid, Value.oneCell']
  have HZ := Lib.hid hza
  have HRA := Lib.hid hra
  have HRB := Lib.hid hrb
  have HWA := Lib.hid hwa
  have HBA := Lib.hid hba
  by_cases hE : dskE cs ws = 0
  · obtain ⟨z1, z2, _, z3, z4⟩ := dsk_zero hE
    have HL : Hid (∀ W, Below wa.heap.size wa W → Calls Try.prog 96 #[.agg #[.slice A n c, .slice A' n' c'], .func (.func 98) #[] #[.pointer (some ⟨w.heap.size + 1, 0, none⟩)]] W fun e w' => ∃ D d, e = .returned (.agg #[.slice D cs.length d, .slice none 0 0]) ∧ Owns w' W.heap.size 1 (.slice D cs.length d) cs.length ((landL (keepB ks) cs ws).map Value.string) ∧ Below W.heap.size W w') := fun W hW =>
      landed_any _ #[.pointer (some ⟨w.heap.size + 1, 0, none⟩)] (keepB ks) A n c cs A' n' c' ws W ((ra.below hW).more hW.size) ((ra'.below hW).more hW.size) z1 z2 z4 (fun p hp => ⟨(wait_all z3 p hp).1, (wait_all z3 p hp).2.1⟩) (keeps_crash _ Ak nk ck ks _ _ W ((hW.cell (p := ⟨w.heap.size + 1, 0, none⟩) (show w.heap.size + 1 < wa.heap.size by omega)).trans hck) (by have := hW.size; omega) ((rk2.below hW).more hW.size)) cf_crash
    have HE := Lib.hid hE
    rw [hE] at HC
    clear r r' ra ra' rk rk2 hck hrk hE hwa hza hba hra hrb z3
    go_enter Try.func69, Try.ntmps69
    go_wp2_with (first
      | (go_at_call 60; rw [← HWA.out]; refine HC.out.mono ?_; rintro e w1 ⟨rfl, hb1⟩; have hrb1 := row_below HRB.out (row_lt HRB.out) hb1; have hra1 := row_below HRA.out (row_lt HRA.out) hb1; have q0 : w1.cell? ⟨w.heap.size, 0, none⟩ = some (.slice A n c) := row_cell hrb1 0; have q1 : w1.cell? ⟨w.heap.size, 1, none⟩ = some (.slice A' n' c') := row_cell hrb1 1; have HRA1 := Lib.hid hra1; have hz1 : w.heap.size + 1 < w1.heap.size := (by have := HZ.out; have := hb1.size; omega); have HB1 := Lib.hid hb1; clear hrb1 hra1 hb1)
      | (go_at_call 96; refine (HL.out _ HB1.out).mono ?_; rintro e w2 ⟨D, d, rfl, r2, hb2⟩; have HRA2 := Lib.hid (row_below HRA1.out (row_lt HRA1.out) hb2); have HB2 := Lib.hid hb2; have HR2 := Lib.hid r2; have hone : Hid ((#[.slice D cs.length d, .slice none 0 0] : Array Value).all (·.oneCell') = true) := (by simp [Hid, Value.oneCell']); clear hb2 r2)
      | (refine wpList_store_rowTo rfl _ _ _ rfl rfl (w.heap.size + 2) #[.slice D cs.length d, .slice none 0 0] rfl rfl 41 zeroDsk HRA2.out info_dsk rfl hone.out ?_))
    refine bodyPost_ret (results_cell_tmp_row rfl _ _ (w.heap.size + 2) _ #[.slice D cs.length d, .slice none 0 0] (0, 0) _ rfl (row_set HRA2.out) Try.underlying41 rfl info_dsk) rfl ?_
    have hb := (HBA.out.trans (HB1.out.mono (by have := HBA.out.size; omega))).trans (HB2.out.mono (Nat.le_trans HBA.out.size HB1.out.size))
    exact syPost_ok HE.out (own_strs (HR2.out.setRow (by have := HZ.out; have := HB1.out.size; omega) _)) (below_setRow hb (by omega) _)
  · have hne : (dskE cs ws != 0) = true := bne_iff_ne.2 hE
    have F : Hid (∀ w', Below w.heap.size w w' → SyPost (keepB ks) cs ws w (.returned (.tuple #[.agg zeroDsk, .int .i64 (dskE cs ws)])) w') := fun w' hb => syPost_no rfl hE hb
    generalize dskE cs ws = E at *
    clear r r' ra ra' rk rk2 hck hrk hE hwa hza hba hra hrb
    go_enter Try.func69, Try.ntmps69
    go_wp2_with (first
      | (go_at_call 60; rw [← HWA.out]; refine HC.out.mono ?_; rintro e w1 ⟨rfl, hb1⟩; have hra1 := row_below HRA.out (row_lt HRA.out) hb1; have HRA1 := Lib.hid hra1; have HB1 := Lib.hid hb1; clear hra1 hb1)
      | (refine wpList_store_rowTo rfl _ _ _ rfl rfl (w.heap.size + 2) zeroDsk rfl rfl 41 zeroDsk HRA1.out info_dsk rfl hone0.out ?_))
    refine bodyPost_ret (results_cell_tmp_row rfl _ _ (w.heap.size + 2) _ zeroDsk (0, 0) _ rfl (row_set HRA1.out) Try.underlying41 rfl info_dsk) rfl ?_
    exact F.out _ (below_setRow (HBA.out.trans (HB1.out.mono (by have := HBA.out.size; omega))) (by omega) _)
end Go.Proofs.Ytjmgocfoimhmjaa
