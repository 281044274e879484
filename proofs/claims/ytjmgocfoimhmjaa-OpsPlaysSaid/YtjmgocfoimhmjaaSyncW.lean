/- disk.Sync, disk.Crash and what they say of each write, walked. -/
import Derived.Test.YtjmgocfoimhmjaaLandW
namespace Go.Proofs.Ytjmgocfoimhmjaa
open Go.RowKit

def keepB (ks : List Bool) : Nat → Bool := fun i => ks.getD i false
theorem cf_sync : ∀ (args : Array Value) (W : World), (callFunc 97 args).run Try.prog W = .ok (.enter 97 args) W := fun args W => by kernel_rfl
theorem cf_crash : ∀ (args : Array Value) (W : World), (callFunc 98 args).run Try.prog W = .ok (.enter 98 args) W := fun args W => by kernel_rfl

set_option maxHeartbeats 400000 in
theorem keeps_sync (B : Nat) (w : World) (N : Nat) : Keeps 97 #[] B w N allB := fun i W _ _ => by
  show Calls Try.prog 97 #[.int .i64 (i : Int)] W _
  go_enter Try.func97, Try.ntmps97
  go_wp2
  go_ret
  exact ⟨rfl, Below.refl _ _⟩
set_option maxRecDepth 20000 in
set_option maxHeartbeats 400000 in
theorem crash1_any (i : Nat) (p : Nat) (A : Option Addr) (n c : Nat) (ks : List Bool) (B : Nat) (W : World) (hp : W.cell? ⟨p, 0, none⟩ = some (.slice A n c)) (r : RowsIn W B A n c (fun z => [.bool z]) 1 ks) :
    Calls Try.prog 98 #[.int .i64 (i : Int), .pointer (some ⟨p, 0, none⟩)] W fun e w' => e = .returned (.bool (keepB ks i)) ∧ Below W.heap.size W w' := by
  have hlen := r.len
  obtain rfl := hlen
  have htop := r.top
  have hle := r.le
  unfold maxLen at htop
  by_cases hlt : i < ks.length
  · have e1 := List.getElem?_eq_getElem hlt
    obtain ⟨b, o, rfl, hb, hc⟩ := r.one e1
    have F : Hid (keepB ks i = ks[i]) := by simp only [Hid]; unfold keepB; simp [List.getD_eq_getElem?_getD, e1]
    have i1 : (i : Int) < (ks.length : Int) := by omega
    generalize ks[i] = x at *
    clear e1
    cases x
    all_goals
      go_enter Try.func98, Try.ntmps98
      go_wp2
      go_ret
      exact ⟨by rw [F.out]; rfl, Below.refl _ _⟩
  · have F : Hid (keepB ks i = false) := by simp only [Hid]; unfold keepB; simp [List.getD_eq_getElem?_getD, List.getElem?_eq_none (show ks.length ≤ i by omega)]
    have i1 : decide ((i : Int) < (ks.length : Int)) = false := by simp; omega
    have i2 : ¬ (i : Int) < (ks.length : Int) := by omega
    go_enter Try.func98, Try.ntmps98
    go_wp2
    go_ret
    exact ⟨by rw [F.out]; rfl, Below.refl _ _⟩
theorem keeps_crash (p : Nat) (A : Option Addr) (n c : Nat) (ks : List Bool) (B N : Nat) (w : World) (hp : w.cell? ⟨p, 0, none⟩ = some (.slice A n c)) (hpB : p < B) (r : RowsIn w B A n c (fun z => [.bool z]) 1 ks) : Keeps 98 #[.pointer (some ⟨p, 0, none⟩)] B w N (keepB ks) := fun i W _ hb =>
  crash1_any i p A n c ks B W ((hb.cell (p := ⟨p, 0, none⟩) hpB).trans hp) (r.below hb)

noncomputable def syncX (K : Nat → Bool) (cs : List ByteArray) (ws : List PutD) : List ByteArray := if dskE cs ws = 0 then landL K cs ws else []
theorem no_strs (w : World) (B : Nat) : RowsIn w B none 0 0 (fun z => [.string z]) 1 ([] : List ByteArray) := ⟨rfl, Nat.le_refl _, Nat.zero_le _, fun i x h => by simp at h⟩
def SyPost (K : Nat → Bool) (cs : List ByteArray) (ws : List PutD) (w : World) (e : Ending) (w' : World) : Prop := ∃ D q d, e = .returned (.tuple #[.agg #[.slice D q d, .slice none 0 0], .int .i64 (dskE cs ws)]) ∧ RowsIn w' w'.heap.size D q d (fun z => [.string z]) 1 (syncX K cs ws) ∧ Below w.heap.size w w'
theorem syPost_no {K : Nat → Bool} {cs : List ByteArray} {ws : List PutD} {w w' : World} {E : Int} (h : dskE cs ws = E) (h0 : E ≠ 0) (hb : Below w.heap.size w w') : SyPost K cs ws w (.returned (.tuple #[.agg zeroDsk, .int .i64 E])) w' :=
  ⟨none, 0, 0, by rw [h], by unfold syncX; rw [if_neg (by rw [h]; exact h0)]; exact no_strs _ _, hb⟩
theorem syPost_ok {K : Nat → Bool} {cs : List ByteArray} {ws : List PutD} {w w' : World} {D : Option Addr} {q d : Nat} (h : dskE cs ws = 0) (r : RowsIn w' w'.heap.size D q d (fun z => [.string z]) 1 (landL K cs ws)) (hb : Below w.heap.size w w') : SyPost K cs ws w (.returned (.tuple #[.agg #[.slice D q d, .slice none 0 0], .int .i64 0])) w' :=
  ⟨D, q, d, by rw [h], by unfold syncX; rw [if_pos h]; exact r, hb⟩

set_option maxRecDepth 20000 in
set_option maxHeartbeats 1000000 in
theorem sync_any (A : Option Addr) (n c : Nat) (cs : List ByteArray) (A' : Option Addr) (n' c' : Nat) (ws : List PutD) (w : World) (r : RowsIn w w.heap.size A n c (fun z => [.string z]) 1 cs) (r' : RowsIn w w.heap.size A' n' c' PutD.cells 2 ws) :
    Calls Try.prog 68 #[.agg #[.slice A n c, .slice A' n' c']] w (SyPost allB cs ws w) := by
  obtain ⟨wa, hwa⟩ : ∃ wa, wa = (w.alloc (.cells #[.slice A n c, .slice A' n' c'] 41)).alloc (.cells zeroDsk 41) := ⟨_, rfl⟩
  have hza : wa.heap.size = w.heap.size + 2 := by rw [hwa]; simp
  have hba : Below w.heap.size w wa := by rw [hwa]; exact ((Below.refl _ _).alloc (Nat.le_refl _) _).alloc (by simp) _
  have hra : wa.heap[w.heap.size + 1]? = some (.cells zeroDsk 41 (0, 0)) := by
    rw [hwa]
    have := heap_alloc_new (w.alloc (.cells #[.slice A n c, .slice A' n' c'] 41)) (.cells zeroDsk 41)
    rw [show (w.alloc (.cells #[.slice A n c, .slice A' n' c'] 41)).heap.size = w.heap.size + 1 by simp] at this
    exact this
  have hrb : wa.heap[w.heap.size]? = some (.cells #[.slice A n c, .slice A' n' c'] 41 (0, 0)) := by
    rw [hwa]; exact (heap_alloc_old _ _ (by simp)).trans (heap_alloc_new w _)
  have ra := (r.below hba).more (show w.heap.size ≤ wa.heap.size by omega)
  have ra' := (r'.below hba).more (show w.heap.size ≤ wa.heap.size by omega)
  have HC := Lib.hid (dchk_any A n c cs A' n' c' ws wa ra ra')
  have hone0 : Hid ((zeroDsk : Array Value).all (·.oneCell') = true) := by simp [Hid, Value.oneCell']
  have HZ := Lib.hid hza
  have HRA := Lib.hid hra
  have HRB := Lib.hid hrb
  have HWA := Lib.hid hwa
  have HBA := Lib.hid hba
  by_cases hE : dskE cs ws = 0
  · obtain ⟨z1, z2, _, z3, z4⟩ := dsk_zero hE
    have HL : Hid (∀ W, Below wa.heap.size wa W → Calls Try.prog 96 #[.agg #[.slice A n c, .slice A' n' c'], .func (.func 97) #[] #[]] W fun e w' => ∃ D d, e = .returned (.agg #[.slice D cs.length d, .slice none 0 0]) ∧ Owns w' W.heap.size 1 (.slice D cs.length d) cs.length ((landL allB cs ws).map Value.string) ∧ Below W.heap.size W w') := fun W hW =>
      landed_any _ #[] allB A n c cs A' n' c' ws W ((ra.below hW).more hW.size) ((ra'.below hW).more hW.size) z1 z2 z4 (fun p hp => ⟨(wait_all z3 p hp).1, (wait_all z3 p hp).2.1⟩) (keeps_sync _ _ _) cf_sync
    have HE := Lib.hid hE
    rw [hE] at HC
    clear r r' ra ra' hE hwa hza hba hra hrb z3
    go_enter Try.func68, Try.ntmps68
    go_wp2_with (first
      | (go_at_call 60; rw [← HWA.out]; refine HC.out.mono ?_; rintro e w1 ⟨rfl, hb1⟩; have hrb1 := row_below HRB.out (row_lt HRB.out) hb1; have hra1 := row_below HRA.out (row_lt HRA.out) hb1; have q0 : w1.cell? ⟨w.heap.size, 0, none⟩ = some (.slice A n c) := row_cell hrb1 0; have q1 : w1.cell? ⟨w.heap.size, 1, none⟩ = some (.slice A' n' c') := row_cell hrb1 1; have HRA1 := Lib.hid hra1; have HB1 := Lib.hid hb1; clear hrb1 hra1 hb1)
      | (go_at_call 96; refine (HL.out _ HB1.out).mono ?_; rintro e w2 ⟨D, d, rfl, r2, hb2⟩; have HRA2 := Lib.hid (row_below HRA1.out (row_lt HRA1.out) hb2); have HB2 := Lib.hid hb2; have HR2 := Lib.hid r2; have hone : Hid ((#[.slice D cs.length d, .slice none 0 0] : Array Value).all (·.oneCell') = true) := (by simp [Hid, Value.oneCell']); clear hb2 r2)
      | (refine wpList_store_rowTo rfl _ _ _ rfl rfl (w.heap.size + 1) #[.slice D cs.length d, .slice none 0 0] rfl rfl 41 zeroDsk HRA2.out info_dsk rfl hone.out ?_))
    refine bodyPost_ret (results_cell_tmp_row rfl _ _ (w.heap.size + 1) _ #[.slice D cs.length d, .slice none 0 0] (0, 0) _ rfl (row_set HRA2.out) Try.underlying41 rfl info_dsk) rfl ?_
    have hb := (HBA.out.trans (HB1.out.mono (by have := HBA.out.size; omega))).trans (HB2.out.mono (Nat.le_trans HBA.out.size HB1.out.size))
    exact syPost_ok HE.out (own_strs (HR2.out.setRow (by have := HZ.out; have := HB1.out.size; omega) _)) (below_setRow hb (by omega) _)
  · have hne : (dskE cs ws != 0) = true := bne_iff_ne.2 hE
    have F : Hid (∀ w', Below w.heap.size w w' → SyPost allB cs ws w (.returned (.tuple #[.agg zeroDsk, .int .i64 (dskE cs ws)])) w') := fun w' hb => syPost_no rfl hE hb
    generalize dskE cs ws = E at *
    clear r r' ra ra' hE hwa hza hba hra hrb
    go_enter Try.func68, Try.ntmps68
    go_wp2_with (first
      | (go_at_call 60; rw [← HWA.out]; refine HC.out.mono ?_; rintro e w1 ⟨rfl, hb1⟩; have hra1 := row_below HRA.out (row_lt HRA.out) hb1; have HRA1 := Lib.hid hra1; have HB1 := Lib.hid hb1; clear hra1 hb1)
      | (refine wpList_store_rowTo rfl _ _ _ rfl rfl (w.heap.size + 1) zeroDsk rfl rfl 41 zeroDsk HRA1.out info_dsk rfl hone0.out ?_))
    refine bodyPost_ret (results_cell_tmp_row rfl _ _ (w.heap.size + 1) _ zeroDsk (0, 0) _ rfl (row_set HRA1.out) Try.underlying41 rfl info_dsk) rfl ?_
    exact F.out _ (below_setRow (HBA.out.trans (HB1.out.mono (by have := HBA.out.size; omega))) (by omega) _)
end Go.Proofs.Ytjmgocfoimhmjaa
