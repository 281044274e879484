/- linenref.Landed, walked. -/
import Derived.Test.YtjmgocfoimhmjaaLandW
import Derived.Test.YtjmgocfoimhmjaaStep
namespace Go.Proofs.Ytjmgocfoimhmjaa
open Go.RowKit

theorem cf_cell : ∀ (args : Array Value) (W : World), (callFunc 27 args).run Try.prog W = .ok (.enter 27 args) W := fun args W => by kernel_rfl
theorem landL_take {K : Nat → Bool} {cs : List ByteArray} {ws : List PutD} {i : Nat} (h : i < cs.length) : ((landL K cs ws).take (i + 1)).map Value.string = ((landL K cs ws).take i).map Value.string ++ [.string (lastP i K 0 ws (cs.getD i ⟨#[]⟩))] := by
  have e : (landL K cs ws)[i]? = some (lastP i K 0 ws (cs.getD i ⟨#[]⟩)) := by unfold landL; rw [List.getElem?_map, List.getElem?_range h]; rfl
  rw [List.take_add_one, e, List.map_append]; rfl
theorem keepL {W : World} {a0 a1 a2 : Addr} {v0 v1 v2 : Value} (h : W.cell? a0 = some v0 ∧ W.cell? a1 = some v1 ∧ W.cell? a2 = some v2) : W.drew.cell? a0 = some v0 ∧ W.drew.cell? a1 = some v1 ∧ W.drew.cell? a2 = some v2 := h
theorem keepLb {W W' : World} {a0 a1 a2 : Addr} {v0 v1 v2 : Value} (b0 : a0.block < W.heap.size) (b1 : a1.block < W.heap.size) (b2 : a2.block < W.heap.size) (h : W.cell? a0 = some v0 ∧ W.cell? a1 = some v1 ∧ W.cell? a2 = some v2) (hb : Below W.heap.size W W') : W'.cell? a0 = some v0 ∧ W'.cell? a1 = some v1 ∧ W'.cell? a2 = some v2 :=
  ⟨(hb.cell (p := a0) b0).trans h.1, (hb.cell (p := a1) b1).trans h.2.1, (hb.cell (p := a2) b2).trans h.2.2⟩
theorem keepLa {W : World} {o : Obj} {a0 a1 a2 : Addr} {v0 v1 v2 : Value} (b0 : a0.block < W.heap.size) (b1 : a1.block < W.heap.size) (b2 : a2.block < W.heap.size) (h : W.cell? a0 = some v0 ∧ W.cell? a1 = some v1 ∧ W.cell? a2 = some v2) : (W.alloc o).cell? a0 = some v0 ∧ (W.alloc o).cell? a1 = some v1 ∧ (W.alloc o).cell? a2 = some v2 :=
  keepLb b0 b1 b2 h ((Below.refl _ _).alloc (Nat.le_refl _) _)
theorem keepLl {W W' : World} {base : Nat} {row : Option Nat} {a0 a1 a2 : Addr} {v0 v1 v2 : Value} (n0 : row ≠ some a0.block) (n1 : row ≠ some a1.block) (n2 : row ≠ some a2.block) (h : W.cell? a0 = some v0 ∧ W.cell? a1 = some v1 ∧ W.cell? a2 = some v2) (hl : Left W W' base row) : W'.cell? a0 = some v0 ∧ W'.cell? a1 = some v1 ∧ W'.cell? a2 = some v2 :=
  ⟨hl.cell h.1 n0, hl.cell h.2.1 n1, hl.cell h.2.2 n2⟩

set_option maxRecDepth 20000 in
set_option maxHeartbeats 2000000 in
theorem landr_any (f : FuncId) (caps : Array Value) (K : Nat → Bool) (A : Option Addr) (n c : Nat) (cs : List ByteArray) (A' : Option Addr) (n' c' : Nat) (ws : List PutD) (w : World) (r : RowsIn w w.heap.size A n c (fun z => [.string z]) 1 cs) (r' : RowsIn w w.heap.size A' n' c' PutD.cells 2 ws) (h128 : cs.length ≤ 128) (hws : ws.length ≤ 400) (hK : Keeps f caps w.heap.size w ws.length K) (hcf : ∀ args W, (callFunc f args).run Try.prog W = .ok (.enter f args) W) :
    Calls Try.prog 31 #[.agg #[.slice A n c, .slice A' n' c'], .func (.func f) #[] caps] w fun e w' => ∃ D d, e = .returned (.agg #[.slice D cs.length d, .slice none 0 0]) ∧ Owns w' w.heap.size 1 (.slice D cs.length d) cs.length ((landL K cs ws).map Value.string) ∧ Below w.heap.size w w' := by
  have hlen := r.len
  obtain rfl := hlen
  have hlen' := r'.len
  obtain rfl := hlen'
  obtain ⟨wa, hwa⟩ : ∃ wa, wa = ((w.alloc (.cells #[.slice A cs.length c, .slice A' ws.length c'] 41)).alloc (.cells zeroDsk 41)).alloc (.cells zeroDsk 41) := ⟨_, rfl⟩
  have hza : wa.heap.size = w.heap.size + 3 := by rw [hwa]; simp
  have hba : Below w.heap.size w wa := by rw [hwa]; exact (((Below.refl _ _).alloc (Nat.le_refl _) _).alloc (by simp) _).alloc (by simp; omega) _
  have hra2 : wa.heap[w.heap.size + 2]? = some (.cells zeroDsk 41 (0, 0)) := by
    rw [hwa]
    have := heap_alloc_new ((w.alloc (.cells #[.slice A cs.length c, .slice A' ws.length c'] 41)).alloc (.cells zeroDsk 41)) (.cells zeroDsk 41)
    rw [show ((w.alloc (.cells #[.slice A cs.length c, .slice A' ws.length c'] 41)).alloc (.cells zeroDsk 41)).heap.size = w.heap.size + 2 by simp] at this
    exact this
  have hra : wa.heap[w.heap.size + 1]? = some (.cells zeroDsk 41 (0, 0)) := by
    rw [hwa]
    have := heap_alloc_new (w.alloc (.cells #[.slice A cs.length c, .slice A' ws.length c'] 41)) (.cells zeroDsk 41)
    rw [show (w.alloc (.cells #[.slice A cs.length c, .slice A' ws.length c'] 41)).heap.size = w.heap.size + 1 by simp] at this
    exact (heap_alloc_old _ _ (by simp)).trans this
  have hrb : wa.heap[w.heap.size]? = some (.cells #[.slice A cs.length c, .slice A' ws.length c'] 41 (0, 0)) := by
    rw [hwa]; exact (heap_alloc_old _ _ (by simp; omega)).trans ((heap_alloc_old _ _ (by simp)).trans (heap_alloc_new w _))
  have HK := Lib.hid hK
  have R := Lib.hid r
  have R' := Lib.hid r'
  have HRA2 := Lib.hid hra2
  have HRA := Lib.hid hra
  have HRB := Lib.hid hrb
  have HWA := Lib.hid hwa
  have HBA := Lib.hid hba
  have HZA := Lib.hid hza
  clear hwa hza hba hra hra2 hrb hK r r'
  go_enter Try.func31, Try.ntmps31
  go_wp2
  rw [← HWA.out]
  go_loopw [6, 10] (fun _ v10 wr => ∃ (i : Nat) (AO : Option Addr) (cO : Nat), i ≤ cs.length ∧ v10 = .int .i64 i ∧ Owns wr (w.heap.size + 3) 1 (.slice AO i cO) i (((landL K cs ws).take i).map Value.string) ∧ wr.heap[w.heap.size + 1 + 1]? = some (.cells #[.slice AO i cO, .slice none 0 0] 41 (0, 0)) ∧ wr.heap[w.heap.size + 1]? = some (.cells zeroDsk 41 (0, 0)) ∧ wr.heap[w.heap.size]? = some (.cells #[.slice A cs.length c, .slice A' ws.length c'] 41 (0, 0)) ∧ Below w.heap.size w wr ∧ w.heap.size + 3 ≤ wr.heap.size) (fun _ v10 _ => cs.length - (intOf v10).toNat)
  case atStart => exact ⟨0, none, 0, Nat.zero_le _, rfl, Owns.nil _ _ _, HRA2.out, HRA.out, HRB.out, HBA.out, by rw [HZA.out]; omega⟩
  case round =>
    obtain ⟨i, AO, cO, hi, rfl, hown, hrm, hrr, hrb, hb, hz⟩ := hrel
    by_cases hlt : i < cs.length
    · have i1 : (i : Int) < (cs.length : Int) := by omega
      have HT := Lib.hid (landL_take (K := K) (ws := ws) hlt)
      have HC : Hid (∀ W, Below wr.heap.size wr W → Calls Try.prog 27 #[.agg #[.slice A cs.length c, .slice A' ws.length c'], .int .i64 i, .func (.func f) #[] caps] W fun e w' => e = .returned (.string (lastP i K 0 ws (cs.getD i ⟨#[]⟩))) ∧ Below W.heap.size W w') := fun W hW => by
        have hbW : Below w.heap.size w W := hb.trans (hW.mono hb.size)
        exact cell_any f caps K A cs.length c cs A' ws.length c' ws i W ((R.out.below hbW).more hbW.size) ((R'.out.below hbW).more hbW.size) hlt hws (fun j W2 hj hW2 => HK.out j W2 hj (hbW.trans (hW2.mono hbW.size))) hcf
      generalize lastP i K 0 ws (cs.getD i ⟨#[]⟩) = V at *
      generalize hU : ((landL K cs ws).take i).map Value.string = U at *
      have HS0 := Lib.hid (show wr.cell? ⟨w.heap.size + 1 + 1, 0, none⟩ = some (.slice AO i cO) ∧ wr.cell? ⟨w.heap.size, 0, none⟩ = some (.slice A cs.length c) ∧ wr.cell? ⟨w.heap.size, 1, none⟩ = some (.slice A' ws.length c') from ⟨row_cell hrm 0, row_cell hrb 0, row_cell hrb 1⟩)
      have HOW := Lib.hid hown
      have HRM := Lib.hid hrm
      have HRR := Lib.hid hrr
      have HRB2 := Lib.hid hrb
      have HB := Lib.hid hb
      have HZ := Lib.hid hz
      clear hown hrm hrr hrb hb hU
      have G2 : Hid (∀ u ∈ (#[.string V] : Array Value).toList, u.oneCell' = true) := by simp [Hid, Value.oneCell']
      have G3 : Hid (i + 1 ≤ maxLen ∧ (i + 1) * 16 ≤ 140737488355328) := by unfold maxLen Hid; omega
      have G4 : Hid (0 < 1) := by simp [Hid]
      have GC : Hid (w.heap.size + 1 + 1 < wr.heap.size ∧ w.heap.size < wr.heap.size) := ⟨by have := HZ.out; omega, by have := HZ.out; omega⟩
      have GN : Hid (Value.ownBlock (.slice AO i cO) ≠ some (w.heap.size + 1 + 1) ∧ Value.ownBlock (.slice AO i cO) ≠ some w.heap.size ∧ Value.ownBlock (.slice AO i cO) ≠ some (w.heap.size + 1)) := ⟨fun e => by have := (HOW.out.lt _ e).1; omega, fun e => by have := (HOW.out.lt _ e).1; omega, fun e => by have := (HOW.out.lt _ e).1; omega⟩
      go_wp2
      have hs0 := HS0.out
      obtain ⟨hs1, hs2, hs3⟩ := hs0
      go_region_law
        (first
          | (refine step_app1 (P := Try.prog) (e := 9) (z := .string ⟨#[]⟩) (size := 1) (bytes := 16) (base := w.heap.size + 3) rfl (.tmp 14) (.tmp 19) 38 rfl Try.underlying38 info_strL rfl G4.out AO i cO U rfl GO.out GB.out w2.heap.size 1 #[.string V] 9 rfl GH.out rfl G2.out G3.out.1 G3.out.2 ?_; intro A3 c3 w3 hown3 hl2 hn3; have hq1 := row_left GR.out hl2 GN.out.1; have hf := row_cold hq1 0; have hq : w3.cell? ⟨w.heap.size + 1 + 1, 0, none⟩ = some (.slice AO i cO) := row_cell hq1 0)
          | (refine step_enter rfl 27 #[.agg #[.slice A cs.length c, .slice A' ws.length c'], .int .i64 i, .func (.func f) #[] caps] (.string V) (by simp [go_sem]) (HC.out wr.drew (Below.refl _ _).drew) ?_; intro w2 hb2; have GC2 : Hid (w.heap.size + 1 + 1 < w2.heap.size ∧ w.heap.size < w2.heap.size) := ⟨Nat.lt_of_lt_of_le GC.out.1 hb2.size, Nat.lt_of_lt_of_le GC.out.2 hb2.size⟩; have GO : Hid (Owns (w2.alloc (.cells #[.string V] 9)) (w.heap.size + 3) 1 (.slice AO i cO) i U) := (HOW.out.drew.fresh_below hb2).alloc _; have GB : Hid (w.heap.size + 3 ≤ (w2.alloc (.cells #[.string V] 9)).heap.size) := Nat.le_trans (Nat.le_trans HZ.out hb2.size) (by simp); have GH : Hid ((w2.alloc (.cells #[.string V] 9)).heap[w2.heap.size]? = some (.cells #[.string V] 9)) := heap_alloc_new w2 _; have GR := Lib.hid (row_alloc (row_below (w := wr.drew) HRM.out GC.out.1 hb2) (.cells #[.string V] 9)); have u1 := keepLb (W := wr.drew) GC.out.1 GC.out.2 GC.out.2 HS0.out hb2; obtain ⟨u2, u3, u4⟩ := u1; have u5 : (w2.alloc (.cells #[.string V] 9)).cell? ⟨w.heap.size + 1 + 1, 0, none⟩ = some (.slice AO i cO) := row_cell GR.out 0; have u6 := GC2.out.1))
      all_goals
        have hr3 := Lib.hid (row_other (a := ⟨w.heap.size + 1 + 1, 0, none⟩) (v := .slice A3 (i + 1) c3) (row_left (row_alloc (row_below (w := wr.drew) HRR.out (show w.heap.size + 1 < wr.heap.size by have := HZ.out; omega) hb2) (.cells #[.string V] 9)) hl2 GN.out.2.2) (show w.heap.size + 1 ≠ w.heap.size + 1 + 1 by omega))
        have hb3 := Lib.hid (row_other (a := ⟨w.heap.size + 1 + 1, 0, none⟩) (v := .slice A3 (i + 1) c3) (row_left (row_alloc (row_below (w := wr.drew) HRB2.out GC.out.2 hb2) (.cells #[.string V] 9)) hl2 GN.out.2.1) (show w.heap.size ≠ w.heap.size + 1 + 1 by omega))
        have hm3 := Lib.hid (row_store (j := 0) (v := .slice A3 (i + 1) c3) hq1)
        have ho3 := Lib.hid (hown3.setOther (p := ⟨w.heap.size + 1 + 1, 0, none⟩) (fun e => by have e2 : w.heap.size + 3 ≤ w.heap.size + 1 + 1 := (hown3.lt _ e).1; omega) (.slice A3 (i + 1) c3))
        have hbel : Hid (Below w.heap.size w (w3.setCell ⟨w.heap.size + 1 + 1, 0, none⟩ (.slice A3 (i + 1) c3))) := (hl2.below (by omega) ((HB.out.drew.trans (hb2.mono HB.out.size)).alloc (by have := GC2.out.2; omega) _)).setCell (show w.heap.size ≤ w.heap.size + 1 + 1 by omega) _
        have hz3 : w.heap.size + 3 ≤ (w3.setCell ⟨w.heap.size + 1 + 1, 0, none⟩ (.slice A3 (i + 1) c3)).heap.size := Nat.le_trans (Nat.le_trans GB.out hl2.size) (by simp [World.setCell])
        clear hq hown3 hl2 hn3 hq1 hf hb2
        generalize w3.setCell ⟨w.heap.size + 1 + 1, 0, none⟩ (.slice A3 (i + 1) c3) = w4 at *
        go_wp2
        go_roundw
        case rel => exact ⟨i + 1, A3, c3, by omega, by go_num, by rw [HT.out]; exact ho3.out, hm3.out, hr3.out, hb3.out, hbel.out, hz3⟩
        case measure => (simp [intOf]; try omega)
    · obtain rfl : i = cs.length := by omega
      have i1 : ¬ (cs.length : Int) < (cs.length : Int) := by omega
      have ht : (landL K cs ws).take cs.length = landL K cs ws := List.take_of_length_le (by rw [landL_length]; omega)
      rw [ht] at hown
      have m0 : wr.cell? ⟨w.heap.size + 1 + 1, 0, none⟩ = some (.slice AO cs.length cO) := row_cell hrm 0
      have m1 : wr.cell? ⟨w.heap.size + 1 + 1, 1, none⟩ = some (.slice none 0 0) := row_cell hrm 1
      have HOW := Lib.hid hown
      have HRR := Lib.hid hrr
      have HB := Lib.hid hb
      have hone : Hid ((#[.slice AO cs.length cO, .slice none 0 0] : Array Value).all (·.oneCell') = true) := by simp [Hid, Value.oneCell']
      clear hown hrm hrr hb hrb ht
      go_wp2_with (refine wpList_store_rowTo rfl _ _ _ rfl rfl (w.heap.size + 1) #[.slice AO cs.length cO, .slice none 0 0] rfl rfl 41 zeroDsk HRR.out info_dsk rfl hone.out ?_)
      refine bodyPost_ret (results_cell_row rfl _ _ (w.heap.size + 1) _ #[.slice AO cs.length cO, .slice none 0 0] (0, 0) _ rfl (row_set HRR.out) Try.underlying41 rfl info_dsk) rfl ?_
      exact ⟨_, _, rfl, (HOW.out.setRow (by omega) _).more (by omega), below_setRow HB.out (by omega) _⟩
end Go.Proofs.Ytjmgocfoimhmjaa
