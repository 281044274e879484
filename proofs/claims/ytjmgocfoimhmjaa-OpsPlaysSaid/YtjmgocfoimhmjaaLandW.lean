/- disk.landed, walked, for whatever function says which writes land. -/
import Derived.Test.YtjmgocfoimhmjaaCellR
import Derived.Test.YtjmgocfoimhmjaaTwo
import Derived.Test.YtjmgocfoimhmjaaApp
namespace Go.Proofs.Ytjmgocfoimhmjaa
open Go.RowKit

abbrev zeroDsk : Array Value := #[.slice none 0 0, .slice none 0 0]
theorem info_dsk : (Try.prog.info? 41).map (·.size) = some 2 := by kernel_rfl
theorem info_strL : (Try.prog.info? 9).map (fun i => (i.zero, i.size, i.bytes)) = some (some (.string ⟨#[]⟩), 1, 16) := by kernel_rfl
theorem rows_cellsS {B n c : Nat} {b o : Nat} {xs : List ByteArray} {w : World} (h : RowsIn w B (some ⟨b, o, none⟩) n c (fun z => [.string z]) 1 xs) : ∀ j u, (xs.map Value.string)[j]? = some u → w.cell? (Addr.add ⟨b, o, none⟩ j) = some u := fun j u hu => by
  rw [List.getElem?_map] at hu
  cases hx : xs[j]? with
  | none => rw [hx] at hu; cases hu
  | some x =>
    rw [hx] at hu
    injection hu with hu
    obtain ⟨b', o', e, _, hc⟩ := h.one hx
    injection e with e; injection e with e1 e2 _
    subst e1; subst e2
    rw [add_form, ← hu]; exact hc
theorem flat_strs (xs : List ByteArray) : xs.flatMap (fun z => [Value.string z]) = xs.map Value.string := by
  induction xs with
  | nil => rfl
  | cons x r ih => simp [List.flatMap_cons, ih]
theorem own_strs {w : World} {base n c : Nat} {A : Option Addr} {xs : List ByteArray} (h : Owns w base 1 (.slice A n c) n (xs.map Value.string)) : RowsIn w w.heap.size A n c (fun z => [.string z]) 1 xs := by
  rw [← flat_strs] at h
  exact h.rows (enc := fun z => [Value.string z]) (k := 1) (fun _ => rfl) Nat.one_pos

set_option maxRecDepth 20000 in
set_option maxHeartbeats 2000000 in
theorem landed_any (f : FuncId) (caps : Array Value) (K : Nat → Bool) (A : Option Addr) (n c : Nat) (cs : List ByteArray) (A' : Option Addr) (n' c' : Nat) (ws : List PutD) (w : World) (r : RowsIn w w.heap.size A n c (fun z => [.string z]) 1 cs) (r' : RowsIn w w.heap.size A' n' c' PutD.cells 2 ws) (h0 : 0 < cs.length) (h128 : cs.length ≤ 128) (hws : ws.length ≤ 400) (hall : ∀ p ∈ ws, 0 ≤ p.At ∧ p.At < cs.length) (hK : Keeps f caps w.heap.size w ws.length K) (hcf : ∀ args W, (callFunc f args).run Try.prog W = .ok (.enter f args) W) :
    Calls Try.prog 96 #[.agg #[.slice A n c, .slice A' n' c'], .func (.func f) #[] caps] w fun e w' => ∃ D d, e = .returned (.agg #[.slice D cs.length d, .slice none 0 0]) ∧ Owns w' w.heap.size 1 (.slice D cs.length d) cs.length ((landL K cs ws).map Value.string) ∧ Below w.heap.size w w' := by
  have hlen := r.len
  obtain rfl := hlen
  have hlen' := r'.len
  obtain rfl := hlen'
  obtain ⟨b0, o0, rfl, hb0⟩ := rows_some r h0
  obtain ⟨wa, hwa⟩ : ∃ wa, wa = (w.alloc (.cells #[.slice (some ⟨b0, o0, none⟩) cs.length c, .slice A' ws.length c'] 41)).alloc (.cells zeroDsk 41) := ⟨_, rfl⟩
  have hza : wa.heap.size = w.heap.size + 2 := by rw [hwa]; simp
  have hba : Below w.heap.size w wa := by rw [hwa]; exact ((Below.refl _ _).alloc (Nat.le_refl _) _).alloc (by simp) _
  have hra : wa.heap[w.heap.size + 1]? = some (.cells zeroDsk 41 (0, 0)) := by
    rw [hwa]
    have := heap_alloc_new (w.alloc (.cells #[.slice (some ⟨b0, o0, none⟩) cs.length c, .slice A' ws.length c'] 41)) (.cells zeroDsk 41)
    rw [show (w.alloc (.cells #[.slice (some ⟨b0, o0, none⟩) cs.length c, .slice A' ws.length c'] 41)).heap.size = w.heap.size + 1 by simp] at this
    exact this
  have hrb : wa.heap[w.heap.size]? = some (.cells #[.slice (some ⟨b0, o0, none⟩) cs.length c, .slice A' ws.length c'] 41 (0, 0)) := by
    rw [hwa]; exact (heap_alloc_old _ _ (by simp)).trans (heap_alloc_new w _)
  have HN := Lib.hid (rows_cellsS (r.below hba))
  have HL1 : Hid ((cs.map Value.string).length = cs.length * 1) := by simp [Hid]
  have HM : Hid (∀ u ∈ cs.map Value.string, u.oneCell' = true) := fun u hu => by obtain ⟨y, _, rfl⟩ := List.mem_map.1 hu; rfl
  have HO0 : Hid (Owns wa (w.heap.size + 2) 1 (.slice none 0 0) 0 []) := Owns.nil _ _ _
  have HZA : Hid (w.heap.size + 2 ≤ wa.heap.size) := by simp only [Hid]; omega
  have HRA := Lib.hid hra
  have HRB := Lib.hid hrb
  have HWA := Lib.hid hwa
  have HBA := Lib.hid hba
  have HK := Lib.hid hK
  have HALL := Lib.hid hall
  have R' := Lib.hid r'
  generalize hU : cs.map Value.string = U at *
  have HU := Lib.hid hU
  clear hwa hza hba hra hrb hK hall r r' hU
  go_enter Try.func96, Try.ntmps96
  go_wp2_with (at_builtin; rw [← HWA.out]; refine wpList_appN rfl rfl Try.underlying38 info_strL rfl Nat.one_pos HO0.out rfl HZA.out rfl U HL1.out HN.out HM.out ?_ ?_ ?_; (unfold maxLen; omega); omega; intro A1 c1 w1 hown1 hl1 hbk1; have hrb1 := row_left HRB.out hl1 (fun e => by cases e); have hra1 := row_left HRA.out hl1 (fun e => by cases e); have hq1 : w1.cell? ⟨w.heap.size, 1, none⟩ = some (.slice A' ws.length c') := row_cell hrb1 1; have hlt1 : w.heap.size < w1.heap.size := row_lt hrb1)
  rw [Nat.zero_add, List.nil_append] at hown1
  have HO1 := Lib.hid hown1
  have HRA1 := Lib.hid hra1
  have hz1 : w.heap.size + 2 ≤ w1.heap.size := Nat.le_trans HZA.out hl1.size
  have HB1 := Lib.hid (hl1.below (by omega) HBA.out)
  clear hown1 hl1 hbk1 hrb1 hra1 hq1
  obtain ⟨g, off, hA1, hg1, hg2⟩ : ∃ g off, A1 = some ⟨g, off, none⟩ ∧ w.heap.size + 2 ≤ g ∧ g < w1.heap.size := by
    rcases HO1.out.2 with ⟨_, e⟩ | ⟨g, off, cap, e, h1, h2, _⟩
    · omega
    · injection e with e _ _
      exact ⟨g, off, e, h1, h2⟩
  subst hA1
  go_loopw [6, 7, 15] (fun _ _ v15 wr => ∃ i : Nat, i ≤ ws.length ∧ v15 = .int .i64 i ∧ Owns wr (w.heap.size + 2) 1 (.slice (some ⟨g, off, none⟩) cs.length c1) cs.length ((landTo K cs ws i).map Value.string) ∧ wr.heap[w1.heap.size]? = some (.cells #[.slice (some ⟨g, off, none⟩) cs.length c1, .slice none 0 0] 41 (0, 0)) ∧ wr.heap[w.heap.size + 1]? = some (.cells zeroDsk 41 (0, 0)) ∧ Below w.heap.size w wr ∧ w1.heap.size < wr.heap.size) (fun _ _ v15 _ => ws.length - (intOf v15).toNat)
  case atStart => exact ⟨0, Nat.zero_le _, rfl, by rw [landTo_zero, HU.out]; exact HO1.out.alloc _, heap_alloc_new w1 _, row_alloc HRA1.out _, HB1.out.alloc (by omega) _, by simp⟩
  case round =>
    obtain ⟨i, hi, rfl, hown, hrm, hrr, hb, hz⟩ := hrel
    by_cases hlt : i < ws.length
    · obtain ⟨pa, pt, e1⟩ : ∃ pa pt, ws[i]? = some (⟨pa, pt⟩ : PutD) := ⟨ws[i].At, ws[i].Text, List.getElem?_eq_getElem hlt⟩
      obtain ⟨b, o, rfl, hbB, hp0, hp1⟩ := putCells (R'.out.below hb) e1
      simp only at hp0 hp1
      have hpa := HALL.out _ (List.mem_iff_getElem?.2 ⟨i, e1⟩)
      simp only at hpa
      obtain ⟨j, rfl⟩ : ∃ j : Nat, pa = j := ⟨pa.toNat, by omega⟩
      have i1 : (i : Int) < (ws.length : Int) := by omega
      have hbs := hb.size
      have HC2 : Hid (Calls Try.prog f (#[.int .i64 (i : Int)] ++ caps) (wr.alloc (.cells #[.int .i64 (j : Int), .string pt] 100)) fun e w' => e = .returned (.bool (K i)) ∧ Below (wr.alloc (.cells #[.int .i64 (j : Int), .string pt] 100)).heap.size (wr.alloc (.cells #[.int .i64 (j : Int), .string pt] 100)) w') := HK.out i _ hlt (hb.alloc hbs _)
      have HOW := Lib.hid hown
      have HRM := Lib.hid hrm
      have HRR := Lib.hid hrr
      have HB := Lib.hid hb
      have HNO := Lib.hid (fun h => landTo_no (K := K) (cs := cs) e1 h)
      have HYES := Lib.hid (fun h => landTo_yes (K := K) (cs := cs) (j := j) e1 h rfl (by omega))
      have hgj : (j : Int) < (cs.length : Int) := hpa.2
      generalize landTo K cs ws i = L at *
      clear hown hrm hrr hb e1 hpa
      generalize hx : K i = x at *
      have HX := Lib.hid hx
      clear hx
      cases x
      · go_wp2_with (refine HC2.out.mono ?_; rintro e w2 ⟨rfl, hb2⟩; obtain ⟨k0, k1, kz⟩ := kept2 hb2; have HB2 := Lib.hid hb2; clear hb2)
        go_roundw
        case rel => exact ⟨i + 1, by omega, by go_num, by rw [HNO.out trivial]; exact (HOW.out.alloc _).fresh_below HB2.out, row_below (row_alloc HRM.out _) (by simp; omega) HB2.out, row_below (row_alloc HRR.out _) (by simp; omega) HB2.out, (HB.out.alloc hbs _).trans (HB2.out.mono (by simp; omega)), by omega⟩
        case measure => (simp [intOf]; try omega)
      · have HQ : Hid (∀ w2, Below (wr.alloc (.cells #[.int .i64 (j : Int), .string pt] 100)).heap.size (wr.alloc (.cells #[.int .i64 (j : Int), .string pt] 100)) w2 → (∃ u, w2.cell? ⟨g, off + j, none⟩ = some u) ∧ w2.frozen? ⟨g, off + j, none⟩ = false ∧ w2.cell? ⟨w1.heap.size, 0, none⟩ = some (.slice (some ⟨g, off, none⟩) cs.length c1)) := fun w2 hb2 => by
          have ho := (HOW.out.alloc (.cells #[.int .i64 (j : Int), .string pt] 100)).fresh_below hb2
          have hjl : j < L.length := by have := HOW.out.1; rw [List.length_map] at this; omega
          obtain ⟨_, _, _, e, _, _, c1, f1⟩ := ho.at_ (j := j) (u := .string L[j]) (by rw [List.getElem?_map, List.getElem?_eq_getElem hjl]; rfl)
          injection e with e _ _; injection e with e; injection e with e1 e2 _
          subst e1; subst e2
          exact ⟨⟨_, c1⟩, f1, row_cell (row_below (row_alloc HRM.out _) (by simp; omega) hb2) 0⟩
        go_wp2_with (refine HC2.out.mono ?_; rintro e w2 ⟨rfl, hb2⟩; obtain ⟨k0, k1, kz⟩ := kept2 hb2; obtain ⟨⟨u, q0⟩, q1, q2⟩ := HQ.out w2 hb2; have HB2 := Lib.hid hb2; clear hb2)
        go_roundw
        case rel => exact ⟨i + 1, by omega, by go_num, by rw [HYES.out trivial, List.map_set]; exact ((HOW.out.alloc _).fresh_below HB2.out).set j (.string pt), row_other (row_below (row_alloc HRM.out _) (by simp; omega) HB2.out) (show w1.heap.size ≠ g by omega), row_other (row_below (row_alloc HRR.out _) (by simp; omega) HB2.out) (show w.heap.size + 1 ≠ g by omega), ((HB.out.alloc hbs _).trans (HB2.out.mono (by simp; omega))).setCell (show w.heap.size ≤ g by omega) _, by simp [World.setCell]; omega⟩
        case measure => (simp [intOf]; try omega)
    · obtain rfl : i = ws.length := by omega
      have i1 : ¬ (ws.length : Int) < (ws.length : Int) := by omega
      rw [landTo_end] at hown
      have m0 : wr.cell? ⟨w1.heap.size, 0, none⟩ = some (.slice (some ⟨g, off, none⟩) cs.length c1) := row_cell hrm 0
      have m1 : wr.cell? ⟨w1.heap.size, 1, none⟩ = some (.slice none 0 0) := row_cell hrm 1
      have HOW := Lib.hid hown
      have HRR := Lib.hid hrr
      have HB := Lib.hid hb
      have hone : Hid ((#[.slice (some ⟨g, off, none⟩) cs.length c1, .slice none 0 0] : Array Value).all (·.oneCell') = true) := by simp [Hid, Value.oneCell']
      clear hown hrm hrr hb
      go_wp2_with (refine wpList_store_rowTo rfl _ _ _ rfl rfl (w.heap.size + 1) #[.slice (some ⟨g, off, none⟩) cs.length c1, .slice none 0 0] rfl rfl 41 zeroDsk HRR.out info_dsk rfl hone.out ?_)
      refine bodyPost_ret (results_cell_row rfl _ _ (w.heap.size + 1) _ #[.slice (some ⟨g, off, none⟩) cs.length c1, .slice none 0 0] (0, 0) _ rfl (row_set HRR.out) Try.underlying41 rfl info_dsk) rfl ?_
      exact ⟨_, _, rfl, (HOW.out.setRow (by omega) _).more (by omega), below_setRow HB.out (by omega) _⟩
end Go.Proofs.Ytjmgocfoimhmjaa
