/- ops.Play, walked. -/
import Derived.Test.YtjmgocfoimhmjaaPlayQ
import Derived.Test.YtjmgocfoimhmjaaBtP
import Derived.Deep.DeepCutAuto
namespace Go.Proofs.Ytjmgocfoimhmjaa
open Go.RowKit

theorem opCells2 {w : World} {B n c : Nat} {A : Option Addr} {l : List OpD} (r : RowsIn w B A n c OpD.cells 3 l) {i : Nat} {p : OpD} (h : l[i]? = some p) : ∃ b o, A = some ⟨b, o, none⟩ ∧ b < B ∧ w.cell? ⟨b, o + i * 3, none⟩ = some (.int .i64 p.Kind) ∧ w.cell? ⟨b, o + i * 3 + 1, none⟩ = some (.int .i64 p.At) ∧ w.cell? ⟨b, o + i * 3 + 2, none⟩ = some (.string p.Text) := by
  obtain ⟨b, o, e, hb, hc⟩ := r.at_ i p h
  exact ⟨b, o, e, hb, hc 0 _ rfl, hc 1 _ rfl, hc 2 _ rfl⟩
theorem op_at2 {l : List OpD} {k : Nat} (h : k < l.length) : ∃ ok oa ot, l[k]? = some (⟨ok, oa, ot⟩ : OpD) := ⟨l[k].Kind, l[k].At, l[k].Text, List.getElem?_eq_getElem h⟩
theorem bad_of2 {cs : List ByteArray} {ws : List PutD} {l : List OpD} {e : Int} (h : pl cs ws l = (e, [], [])) (h2 : dskE cs ws = 0) : plE cs ws l = e ∧ plX cs ws l = [] ∧ plY cs ws l = [] := by
  have h3 := pl_ok (l := l) h2
  rw [h] at h3; exact h3
theorem kpQa {W : World} {M : Nat} {u v : Value} {o : Obj} (hM : M < W.heap.size) (h : W.cell? ⟨M, 0, none⟩ = some u ∧ W.cell? ⟨M, 1, none⟩ = some v) : (W.alloc o).cell? ⟨M, 0, none⟩ = some u ∧ (W.alloc o).cell? ⟨M, 1, none⟩ = some v :=
  ⟨(World.cell?_alloc_lt _ _ _ hM).trans h.1, (World.cell?_alloc_lt _ _ _ hM).trans h.2⟩
section
variable {w W W' : World} {B : Nat} {t : TypeId} {u v : Value}
theorem kS_drew (h : W.cell? ⟨B, 0, none⟩ = some u ∧ W.cell? ⟨B, 1, none⟩ = some v ∧ W.heap[B + 1]? = some (.cells zeroDsk t (0, 0)) ∧ B + 2 ≤ W.heap.size ∧ Below w.heap.size w W) : W.drew.cell? ⟨B, 0, none⟩ = some u ∧ W.drew.cell? ⟨B, 1, none⟩ = some v ∧ W.drew.heap[B + 1]? = some (.cells zeroDsk t (0, 0)) ∧ B + 2 ≤ W.drew.heap.size ∧ Below w.heap.size w W.drew := ⟨h.1, h.2.1, h.2.2.1, h.2.2.2.1, h.2.2.2.2.drew⟩
theorem kS_left (hl : Left W W' (w.heap.size + 2) none) (h : W.cell? ⟨B, 0, none⟩ = some u ∧ W.cell? ⟨B, 1, none⟩ = some v ∧ W.heap[B + 1]? = some (.cells zeroDsk t (0, 0)) ∧ B + 2 ≤ W.heap.size ∧ Below w.heap.size w W) : W'.cell? ⟨B, 0, none⟩ = some u ∧ W'.cell? ⟨B, 1, none⟩ = some v ∧ W'.heap[B + 1]? = some (.cells zeroDsk t (0, 0)) ∧ B + 2 ≤ W'.heap.size ∧ Below w.heap.size w W' :=
  ⟨hl.cell h.1 (fun e => by cases e), hl.cell h.2.1 (fun e => by cases e), row_left h.2.2.1 hl (fun e => by cases e), Nat.le_trans h.2.2.2.1 hl.size, hl.below (by omega) h.2.2.2.2⟩
theorem kS_alloc {o : Obj} (h : W.cell? ⟨B, 0, none⟩ = some u ∧ W.cell? ⟨B, 1, none⟩ = some v ∧ W.heap[B + 1]? = some (.cells zeroDsk t (0, 0)) ∧ B + 2 ≤ W.heap.size ∧ Below w.heap.size w W) : (W.alloc o).cell? ⟨B, 0, none⟩ = some u ∧ (W.alloc o).cell? ⟨B, 1, none⟩ = some v ∧ (W.alloc o).heap[B + 1]? = some (.cells zeroDsk t (0, 0)) ∧ B + 2 ≤ (W.alloc o).heap.size ∧ Below w.heap.size w (W.alloc o) :=
  ⟨(World.cell?_alloc_lt _ _ _ (show B < W.heap.size by omega)).trans h.1, (World.cell?_alloc_lt _ _ _ (show B < W.heap.size by omega)).trans h.2.1, row_alloc h.2.2.1 _, by simp; omega, h.2.2.2.2.alloc h.2.2.2.2.size _⟩
theorem kS_sets {M : Nat} {x y : Value} (hM : B + 2 ≤ M) (h : W.cell? ⟨B, 0, none⟩ = some u ∧ W.cell? ⟨B, 1, none⟩ = some v ∧ W.heap[B + 1]? = some (.cells zeroDsk t (0, 0)) ∧ B + 2 ≤ W.heap.size ∧ Below B w W) : ((W.setCell ⟨M, 0, none⟩ x).setCell ⟨M, 1, none⟩ y).cell? ⟨B, 0, none⟩ = some u ∧ ((W.setCell ⟨M, 0, none⟩ x).setCell ⟨M, 1, none⟩ y).cell? ⟨B, 1, none⟩ = some v ∧ ((W.setCell ⟨M, 0, none⟩ x).setCell ⟨M, 1, none⟩ y).heap[B + 1]? = some (.cells zeroDsk t (0, 0)) ∧ B + 2 ≤ ((W.setCell ⟨M, 0, none⟩ x).setCell ⟨M, 1, none⟩ y).heap.size ∧ Below B w ((W.setCell ⟨M, 0, none⟩ x).setCell ⟨M, 1, none⟩ y) := by
  obtain ⟨h1, h2, h3, h4, h5⟩ := h
  obtain ⟨k1, k2⟩ := kpQs (M := B) (b := M) (x := x) (y := y) (by omega) ⟨h1, h2⟩
  exact ⟨k1, k2, row_other (row_other h3 (show B + 1 ≠ M by omega)) (show B + 1 ≠ M by omega), by simp [World.setCell]; omega, (h5.setCell (show B ≤ M by omega) _).setCell (show B ≤ M by omega) _⟩
theorem kS_size (h : W.cell? ⟨B, 0, none⟩ = some u ∧ W.cell? ⟨B, 1, none⟩ = some v ∧ W.heap[B + 1]? = some (.cells zeroDsk t (0, 0)) ∧ B + 2 ≤ W.heap.size ∧ Below w.heap.size w W) : B + 2 ≤ W.heap.size := h.2.2.2.1
theorem kS_below (h : W.cell? ⟨B, 0, none⟩ = some u ∧ W.cell? ⟨B, 1, none⟩ = some v ∧ W.heap[B + 1]? = some (.cells zeroDsk t (0, 0)) ∧ B + 2 ≤ W.heap.size ∧ Below w.heap.size w W) : Below w.heap.size w W := h.2.2.2.2
end
/-- The copy that ops.Play works on, in block M. -/
structure PwM (cs : List ByteArray) (ws : List PutD) (t : TypeId) (M : Nat) (w wr : World) : Prop where
  st : ∃ D q d D' q' d', wr.heap[M]? = some (.cells #[.slice D q d, .slice D' q' d'] t (0, 0)) ∧ RowsIn wr wr.heap.size D q d (fun z => [.string z]) 1 cs ∧ RowsIn wr wr.heap.size D' q' d' PutD.cells 2 ws
  row : wr.heap[w.heap.size + 1]? = some (.cells zeroDsk t (0, 0))
  below : Below w.heap.size w wr
  lo : w.heap.size + 2 ≤ M
  hi : M < wr.heap.size
theorem row_leftn {w w' : World} {b base : Nat} {x : Obj} (h : w.heap[b]? = some x) (hl : Left w w' base (Value.ownBlock (.slice none 0 0))) : w'.heap[b]? = some x := row_left h hl (fun e => by cases e)
theorem pwM_new {cs : List ByteArray} {ws : List PutD} {t : TypeId} {w w3 : World} {A1 A2 : Option Addr} {c1 c2 B : Nat} {U U' : List Value} (o1 : Owns w3 B 1 (.slice A1 cs.length c1) cs.length U) (o2 : Owns w3 B 2 (.slice A2 ws.length c2) ws.length U') (hU : cs.map Value.string = U) (hU' : ws.flatMap PutD.cells = U')
    (hr : w3.heap[w.heap.size + 1]? = some (.cells zeroDsk t (0, 0))) (hb : Below w.heap.size w w3) (hg : w.heap.size + 2 ≤ w3.heap.size) : PwM cs ws t w3.heap.size w (w3.alloc (.cells #[.slice A1 cs.length c1, .slice A2 ws.length c2] t)) := by
  subst hU; subst hU'
  exact ⟨⟨A1, _, c1, A2, _, c2, heap_alloc_new w3 _, own_strs (o1.alloc _), own_puts (base := B) (o2.alloc _)⟩, row_alloc hr _, hb.alloc hb.size _, hg, by simp⟩
theorem pwM_old {cs : List ByteArray} {ws : List PutD} {t : TypeId} {w w3 : World} {A1 A2 : Option Addr} {c1 c2 B M : Nat} {U U' : List Value} (hM : w3.heap[M]? = some (.cells zeroDsk t (0, 0))) (o1 : Owns w3 B 1 (.slice A1 cs.length c1) cs.length U) (o2 : Owns w3 B 2 (.slice A2 ws.length c2) ws.length U') (hU : cs.map Value.string = U) (hU' : ws.flatMap PutD.cells = U')
    (hr : w3.heap[w.heap.size + 1]? = some (.cells zeroDsk t (0, 0))) (hb : Below w.heap.size w w3) (hg : w.heap.size + 2 ≤ M) (n1 : Value.ownBlock (.slice A1 cs.length c1) ≠ some M) (n2 : Value.ownBlock (.slice A2 ws.length c2) ≠ some M) : PwM cs ws t M w ((w3.setCell ⟨M, 0, none⟩ (.slice A1 cs.length c1)).setCell ⟨M, 1, none⟩ (.slice A2 ws.length c2)) := by
  subst hU; subst hU'
  have hm := row_store (j := 1) (v := .slice A2 ws.length c2) (row_store (j := 0) (v := .slice A1 cs.length c1) hM)
  exact ⟨⟨A1, _, c1, A2, _, c2, hm, own_strs ((o1.setOther n1 _).setOther n1 _), own_puts (base := B) ((o2.setOther n2 _).setOther n2 _)⟩, row_other (row_other hr (show w.heap.size + 1 ≠ M by omega)) (show w.heap.size + 1 ≠ M by omega), (hb.setCell (show w.heap.size ≤ M by omega) _).setCell (show w.heap.size ≤ M by omega) _, hg, row_lt hm⟩
theorem ba_nil2 {b : ByteArray} (h : b.size = 0) : b = ⟨#[]⟩ := by
  obtain ⟨⟨l⟩⟩ := b
  have : l = [] := List.eq_nil_of_length_eq_zero h
  rw [this]

set_option maxRecDepth 20000 in
set_option maxHeartbeats 4000000 in
theorem play_any (A : Option Addr) (n c : Nat) (cs : List ByteArray) (A' : Option Addr) (n' c' : Nat) (ws : List PutD) (L : Option Addr) (nl cl : Nat) (l : List OpD) (w : World) (r : RowsIn w w.heap.size A n c (fun z => [.string z]) 1 cs) (r' : RowsIn w w.heap.size A' n' c' PutD.cells 2 ws) (rl : RowsIn w w.heap.size L nl cl OpD.cells 3 l) (hs : n * 16 ≤ 140737488355328) (hs' : n' * 24 ≤ 140737488355328) :
    Calls Try.prog 29 #[.agg #[.slice A n c, .slice A' n' c'], .slice L nl cl] w (DkPost (plE cs ws l) (plX cs ws l) (plY cs ws l) w) := by
  have hlen := r.len
  subst hlen
  have hlen' := r'.len
  subst hlen'
  have hlenl := rl.len
  subst hlenl
  have htop : l.length ≤ 9223372036854775807 := by have h1 := rl.le; have h2 := rl.top; unfold maxLen at h2; omega
  obtain ⟨wa, hwa⟩ : ∃ wa, wa = (w.alloc (.cells #[.slice A cs.length c, .slice A' ws.length c'] 41)).alloc (.cells zeroDsk 41) := ⟨_, rfl⟩
  have hza : wa.heap.size = w.heap.size + 2 := by rw [hwa]; simp
  have hba : Below w.heap.size w wa := by rw [hwa]; exact ((Below.refl _ _).alloc (Nat.le_refl _) _).alloc (by simp) _
  have hra : wa.heap[w.heap.size + 1]? = some (.cells zeroDsk 41 (0, 0)) := by
    rw [hwa]
    have := heap_alloc_new (w.alloc (.cells #[.slice A cs.length c, .slice A' ws.length c'] 41)) (.cells zeroDsk 41)
    rw [show (w.alloc (.cells #[.slice A cs.length c, .slice A' ws.length c'] 41)).heap.size = w.heap.size + 1 by simp] at this
    exact this
  have hrb : wa.heap[w.heap.size]? = some (.cells #[.slice A cs.length c, .slice A' ws.length c'] 41 (0, 0)) := by
    rw [hwa]; exact (heap_alloc_old _ _ (by simp)).trans (heap_alloc_new w _)
  have hle : w.heap.size ≤ wa.heap.size := by omega
  have N1 : Hid (∀ W, Below w.heap.size w W → Src W A cs.length (cs.map Value.string)) := fun W h => src_strs (r.below h)
  have N2 : Hid (∀ W, Below w.heap.size w W → Src W A' ws.length (ws.flatMap PutD.cells)) := fun W h => src_puts (r'.below h)
  have L1 : Hid ((cs.map Value.string).length = cs.length * 1) := by simp [Hid]
  have L2 : Hid ((ws.flatMap PutD.cells).length = ws.length * 2) := put_len ws
  have M1 : Hid (∀ u ∈ cs.map Value.string, u.oneCell' = true) := fun u hu => by obtain ⟨y, _, rfl⟩ := List.mem_map.1 hu; rfl
  have M2 : Hid (∀ u ∈ ws.flatMap PutD.cells, u.oneCell' = true) := put_one ws
  have O1 : Hid (∀ W, Owns W (w.heap.size + 2) 1 (.slice none 0 0) 0 []) := fun W => Owns.nil _ _ _
  have O2 : Hid (∀ W, Owns W (w.heap.size + 2) 2 (.slice none 0 0) 0 []) := fun W => Owns.nil _ _ _
  have G4 : Hid (0 < 2 ∧ 0 < 1) := by simp [Hid]
  have G3 : Hid (0 + cs.length ≤ maxLen ∧ (0 + cs.length) * 16 ≤ 140737488355328 ∧ 0 + ws.length ≤ maxLen ∧ (0 + ws.length) * 24 ≤ 140737488355328) := by
    have := r.le; have := r.top; have := r'.le; have := r'.top
    simp only [Hid]; exact ⟨by omega, by omega, by omega, by omega⟩
  have RA := Lib.hid ((r.below hba).more hle)
  have RA' := Lib.hid ((r'.below hba).more hle)
  have RL := Lib.hid rl
  have HC := Lib.hid (dchk_any A cs.length c cs A' ws.length c' ws wa RA.out RA'.out)
  have hone0 : Hid ((zeroDsk : Array Value).all (·.oneCell') = true) := by simp [Hid, Value.oneCell']
  have hone : Hid (∀ (A A' : Option Addr) (n c n' c' : Nat), ((#[.slice A n c, .slice A' n' c'] : Array Value).all (·.oneCell')) = true) := fun _ _ _ _ _ _ => by simp [Value.oneCell']
  have HRA := Lib.hid hra
  have HRB := Lib.hid hrb
  have HWA := Lib.hid hwa
  have HBA := Lib.hid hba
  have HZA := Lib.hid hza
  clear r r' rl hwa hza hba hra hrb hle hs hs'
  generalize hde : dskE cs ws = de at *
  have HDE := Lib.hid hde
  clear hde
  generalize hUU : cs.map Value.string = U at *
  generalize hUU' : ws.flatMap PutD.cells = U' at *
  have HUU := Lib.hid hUU
  have HUU' := Lib.hid hUU'
  clear hUU hUU'
  go_enter Try.func29, Try.ntmps29
  go_wp2_with (go_at_call 60; rw [← HWA.out]; refine HC.out.mono ?_; rintro e w1 ⟨rfl, hb1⟩; have hrb1 := row_below HRB.out (row_lt HRB.out) hb1; have hs : w1.cell? ⟨w.heap.size, 0, none⟩ = some (.slice A cs.length c) ∧ w1.cell? ⟨w.heap.size, 1, none⟩ = some (.slice A' ws.length c') := ⟨row_cell hrb1 0, row_cell hrb1 1⟩; have HS1 := Lib.hid hs; have HB1 := Lib.hid (HBA.out.trans (hb1.mono HBA.out.size)); have HZ1 : Hid (w.heap.size + 2 ≤ w1.heap.size) := (by rw [← HZA.out]; exact hb1.size); have HR1 := Lib.hid (row_below HRA.out (row_lt HRA.out) hb1); clear hrb1 hb1)
  have hS1 : w1.cell? ⟨w.heap.size, 0, none⟩ = some (.slice A cs.length c) ∧ w1.cell? ⟨w.heap.size, 1, none⟩ = some (.slice A' ws.length c') ∧ w1.heap[w.heap.size + 1]? = some (.cells zeroDsk 41 (0, 0)) ∧ w.heap.size + 2 ≤ w1.heap.size ∧ Below w.heap.size w w1 := ⟨HS1.out.1, HS1.out.2, HR1.out, HZ1.out, HB1.out⟩
  go_upto_region 2 with fail
  go_cut [7] (fun s7 wx => ∃ M, s7 = .pointer (some ⟨M, 0, none⟩) ∧ PwM cs ws 41 M w wx)
  case first =>
    go_region_held_law (fun W => W.cell? ⟨w.heap.size, 0, none⟩ = some (.slice A cs.length c) ∧ W.cell? ⟨w.heap.size, 1, none⟩ = some (.slice A' ws.length c') ∧ W.heap[w.heap.size + 1]? = some (.cells zeroDsk 41 (0, 0)) ∧ w.heap.size + 2 ≤ W.heap.size ∧ Below w.heap.size w W)
      (first | assumption | exact kS_drew (by assumption) | exact kS_left hl2 (by assumption) | exact kS_left hl1 (by assumption) | exact kS_alloc (by assumption) | exact kS_sets hge3 (by assumption) | exact kS_sets hge2 (by assumption) | exact kS_sets hge1 (by assumption))
      (first
        | (refine step_appO (P := Try.prog) (e := 9) (z := .string ⟨#[]⟩) (size := 1) (bytes := 16) (base := w.heap.size + 2) rfl (.const (.slice none 0 0)) (.tmp 13) 38 rfl Try.underlying38 info_strL rfl G4.out.2 none 0 0 [] rfl (O1.out _) ?_ A cs.length c U rfl L1.out ?_ M1.out G3.out.1 G3.out.2.1 ?_; (exact kS_size (by assumption)); (exact N1.out _ (kS_below (by assumption))); intro A1 c1 w2 hown1 hl1 hn1; have hge2 : w.heap.size + 2 ≤ w2.heap.size := Nat.le_trans (kS_size (by assumption)) hl1.size; (try (have hM1 : w2.heap[w1.heap.size]? = some (.cells zeroDsk 41 (0, 0)) := row_leftn (w := (w1.alloc (.cells zeroDsk 41)).drew) (heap_alloc_new w1 _) hl1)))
        | (refine step_appO (P := Try.prog) (e := 100) (z := .agg #[.int .i64 0, .string ⟨#[]⟩]) (size := 2) (bytes := 24) (base := w.heap.size + 2) rfl (.const (.slice none 0 0)) (.tmp 16) 39 rfl Try.underlying39 info_putL rfl G4.out.1 none 0 0 [] rfl (O2.out _) ?_ A' ws.length c' U' rfl L2.out ?_ M2.out G3.out.2.2.1 G3.out.2.2.2 ?_; (exact kS_size (by assumption)); (exact N2.out _ (kS_below (by assumption))); intro A2 c2 w3 hown2 hl2 hn2; have hS3 := kS_left hl2 (by assumption); have hge1 : w.heap.size + 2 ≤ w1.heap.size := HZ1.out; have hge3 : w.heap.size + 2 ≤ w3.heap.size := kS_size hS3; have hnew := heap_alloc_new w3 (.cells zeroDsk 41); have v0 : (w3.alloc (.cells zeroDsk 41)).cell? ⟨w3.heap.size, 0, none⟩ = some (.slice none 0 0) := row_cell hnew 0; have v1 : (w3.alloc (.cells zeroDsk 41)).cell? ⟨w3.heap.size, 1, none⟩ = some (.slice none 0 0) := row_cell hnew 1; have v2 := row_cold hnew 0; have v3 := row_cold hnew 1; (try (have hM2 : w3.heap[w2.heap.size]? = some (.cells zeroDsk 41 (0, 0)) := row_leftn (w := w2.alloc (.cells zeroDsk 41)) (heap_alloc_new w2 _) hl2; have q0 : w3.cell? ⟨w2.heap.size, 0, none⟩ = some (.slice none 0 0) := row_cell hM2 0; have q1 : w3.cell? ⟨w2.heap.size, 1, none⟩ = some (.slice none 0 0) := row_cell hM2 1; have q2 := row_cold hM2 0; have q3 := row_cold hM2 1)); (try (have hM3 : w3.heap[w1.heap.size]? = some (.cells zeroDsk 41 (0, 0)) := row_leftn hM1 hl2; have r0 : w3.cell? ⟨w1.heap.size, 0, none⟩ = some (.slice none 0 0) := row_cell hM3 0; have r1 : w3.cell? ⟨w1.heap.size, 1, none⟩ = some (.slice none 0 0) := row_cell hM3 1; have r2 := row_cold hM3 0; have r3 := row_cold hM3 1))))
    · simp only [Nat.zero_add, List.nil_append] at hown1 hown2 hn1 hn2
      go_wp2_with fail
      go_meet
      case rel => exact ⟨_, rfl, pwM_new (hown1.apart hl2 (Apart.nil _ _ _)) hown2 HUU.out HUU'.out hS3.2.2.1 hS3.2.2.2.2 hge3⟩
    · simp only [Nat.zero_add, List.nil_append] at hown1 hown2 hn1 hn2
      go_wp2_with fail
      go_meet
      case rel => exact ⟨_, rfl, pwM_old hM2 ((hown1.alloc _).apart hl2 (Apart.nil _ _ _)) hown2 HUU.out HUU'.out hS3.2.2.1 hS3.2.2.2.2 hge2 (fun e => Nat.lt_irrefl _ (hown1.lt _ e).2) (fun e => by
        rcases hn2 with h | h
        · rw [h] at e; cases e
        · have := h _ e; simp at this; omega)⟩
    · simp only [Nat.zero_add, List.nil_append] at hown1 hown2 hn1 hn2
      go_wp2_with fail
      go_meet
      case rel => exact ⟨_, rfl, pwM_old hM3 (hown1.apart hl2 (Apart.nil _ _ _)) hown2 HUU.out HUU'.out hS3.2.2.1 hS3.2.2.2.2 hge1 (fun e => by
        rcases hn1 with h | h
        · rw [h] at e; cases e
        · have h2 : w1.heap.size + 1 ≤ w1.heap.size := (by have := h _ e; simpa using this); omega) (fun e => by
        rcases hn2 with h | h
        · rw [h] at e; cases e
        · have := h _ e; have h2 : w1.heap.size + 1 ≤ w2.heap.size := (by have := hl1.size; simpa using this); omega)⟩
  case rest =>
    obtain ⟨M, rfl, hM⟩ := hcut
    obtain ⟨w2, rfl⟩ : ∃ z : World, z = wc := ⟨_, rfl⟩
    have HI0 : Hid (PwI cs ws l 41 M w 0 de w2) := by
      refine { st := ?_, row := hM.row, below := hM.below, lo := hM.lo, hi := hM.hi }
      by_cases hd : de = 0
      · exact .inl ⟨hd, HDE.out.trans hd, cs, ws, PlI.start (HDE.out.trans hd), hM.st⟩
      · obtain ⟨e1, e2, e3⟩ := pl_bad (cs := cs) (ws := ws) (l := l) (by rw [HDE.out]; exact hd)
        exact .inr ⟨hd, e1.trans HDE.out, e2, e3⟩
    clear hM hs hS1 HS1 HB1 HZ1 HR1 N1 N2 L1 L2 M1 M2 O1 O2 G4 G3 RA RA' HC HRA HRB HWA HBA HZA
    go_wp2
    go_loopw [6, 21] (fun v6 v21 wr => ∃ (k : Nat) (e : Int), k ≤ l.length ∧ v21 = .int .i64 k ∧ v6 = .int .i64 e ∧ Hid (PwI cs ws l 41 M w k e wr)) (fun _ v21 _ => l.length - (intOf v21).toNat)
    case atStart => exact ⟨0, de, Nat.zero_le _, rfl, rfl, HI0.out⟩
    case round =>
      obtain ⟨k, e, hk, rfl, rfl, hP⟩ := hrel
      obtain ⟨wq, rfl⟩ : ∃ z : World, z = wr := ⟨_, rfl⟩
      clear HI0
      by_cases hlt : k < l.length
      · obtain ⟨ok, oa, ot, e1⟩ := op_at2 hlt
        have E1 := Lib.hid e1
        obtain ⟨b, o, rfl, hbB, p0, p1, p2⟩ := opCells2 (RL.out.below hP.out.below) e1
        simp only at p0 p1 p2
        have i1 : (k : Int) < (l.length : Int) := by omega
        obtain ⟨wo, hwo⟩ : ∃ z : World, z = wq.alloc (.cells #[.int .i64 ok, .int .i64 oa, .string ot] 46) := ⟨_, rfl⟩
        have hro := heap_alloc_new wq (.cells #[.int .i64 ok, .int .i64 oa, .string ot] 46)
        rw [← hwo] at hro
        have HRO := row_alloc hP.out.row (.cells #[.int .i64 ok, .int .i64 oa, .string ot] 46)
        rw [← hwo] at HRO
        have HRO := Lib.hid HRO
        have hbo : Below w.heap.size w wo := by rw [hwo]; exact hP.out.below.alloc hP.out.below.size _
        have hqo : Below wq.heap.size wq wo := by rw [hwo]; exact (Below.refl _ _).alloc (Nat.le_refl _) _
        have HBO := Lib.hid hbo
        have HQO := Lib.hid hqo
        have HWO := Lib.hid hwo
        have c0 : wo.cell? ⟨wq.heap.size, 0, none⟩ = some (.int .i64 ok) := row_cell hro 0
        have c1 : wo.cell? ⟨wq.heap.size, 1, none⟩ = some (.int .i64 oa) := row_cell hro 1
        have c2 : wo.cell? ⟨wq.heap.size, 2, none⟩ = some (.string ot) := row_cell hro 2
        clear e1 hbo hqo hwo hro hlt hk
        go_upto_region 6 with fail
        rw [← HWO.out]
        rcases hP.out.st with ⟨rfl, hd0, C, W, hI, D, q, d, D', q', d', hrM, hrC, hrW⟩ | ⟨he, hbad⟩
        · have HI := Lib.hid hI
          have hlo := hP.out.lo
          have hhi := hP.out.hi
          have hrMo := row_below hrM hhi HQO.out
          have RM := Lib.hid hrMo
          have RC := Lib.hid ((hrC.below HQO.out).more HQO.out.size)
          have RW := Lib.hid ((hrW.below HQO.out).more HQO.out.size)
          have m0 : wo.cell? ⟨M, 0, none⟩ = some (.slice D q d) := row_cell hrMo 0
          have m1 : wo.cell? ⟨M, 1, none⟩ = some (.slice D' q' d') := row_cell hrMo 1
          have HD0 := Lib.hid hd0
          clear hd0
          clear hI hrM hrMo hrC hrW
          by_cases hk1 : ok = 1
          · subst hk1
            have HWR := Lib.hid (dwrite_any D q d C D' q' d' W oa ot wo RC.out RW.out)
            have HPN := Lib.hid (HI.out.write E1.out)
            generalize wrE C W oa ot = we at *
            generalize wrX C W oa ot = wx at *
            generalize wrY C W oa ot = wy at *
            unfold DkPost at HWR
            go_wp2_with (first
              | (go_at_call 22; refine HWR.out.mono ?_; rintro e w5 ⟨D5, q5, d5, D5', q5', d5', rfl, r5, r5', hb5⟩; have RM5 := Lib.hid (row_below RM.out (row_lt RM.out) hb5); have R5 := Lib.hid r5; have R5' := Lib.hid r5'; have HB5 := Lib.hid hb5; clear r5 r5' hb5)
              | (refine wpList_store_rowTo rfl _ _ _ rfl rfl M #[.slice D5 q5 d5, .slice D5' q5' d5'] rfl rfl 41 #[.slice D q d, .slice D' q' d'] RM5.out info_dsk rfl (hone.out _ _ _ _ _ _) ?_))
            go_roundw
            case rel =>
              refine ⟨k + 1, we, by omega, by go_num, rfl, ?_⟩
              have hz5 := HB5.out.size
              have hM5 := row_lt RM5.out
              refine { st := ?_, row := (setRow_other w5 M (w.heap.size + 1) _ (by omega)).trans (row_below HRO.out (row_lt HRO.out) HB5.out), below := below_setRow (HBO.out.trans (HB5.out.mono HBO.out.size)) (by omega) _, lo := hlo, hi := by simpa using hM5 }
              rcases HPN.out with ⟨h0, h1⟩ | ⟨h0, h1⟩
              · exact .inl ⟨h0, HD0.out, _, _, h1, D5, q5, d5, D5', q5', d5', row_set RM5.out, (R5.out.aside RM5.out str_no _).more (by simp), (R5'.out.aside RM5.out put_no _).more (by simp)⟩
              · exact .inr ⟨h0, bad_of2 h1 HD0.out⟩
            case measure => (simp [intOf]; try omega)
          · have i7 : (ok == 1) = false := beq_eq_false_iff_ne.2 hk1
            have i7' : (ok != 1) = true := bne_iff_ne.2 hk1
            by_cases hs0 : ok = 2 ∧ oa = 0 ∧ ot.size = 0
            · obtain ⟨rfl, rfl, hsz⟩ := hs0
              obtain rfl : ot = ⟨#[]⟩ := ba_nil2 hsz
              have HSY := Lib.hid (sync_any D q d C D' q' d' W wo RC.out RW.out)
              have HPN := Lib.hid (HI.out.sync E1.out rfl rfl rfl)
              have hr0 := HI.out.right
              have hX : syncX allB C W = landL allB C W := by unfold syncX; rw [if_pos hr0]
              unfold SyPost at HSY
              rw [hX, hr0] at HSY
              generalize landL allB C W = wx at *
              clear hX hr0 hk1 hsz
              go_wp2_with (first
                | (go_at_call 68; refine HSY.out.mono ?_; rintro e w5 ⟨D5, q5, d5, rfl, r5, hb5⟩; have RM5 := Lib.hid (row_below RM.out (row_lt RM.out) hb5); have R5 := Lib.hid r5; have HB5 := Lib.hid hb5; clear r5 hb5)
                | (refine wpList_store_rowTo rfl _ _ _ rfl rfl M #[.slice D5 q5 d5, .slice none 0 0] rfl rfl 41 #[.slice D q d, .slice D' q' d'] RM5.out info_dsk rfl (hone.out _ _ _ _ _ _) ?_))
              go_roundw
              case rel =>
                refine ⟨k + 1, 0, by omega, by go_num, rfl, ?_⟩
                have hz5 := HB5.out.size
                have hM5 := row_lt RM5.out
                refine { st := .inl ⟨rfl, HD0.out, _, _, HPN.out, D5, q5, d5, none, 0, 0, row_set RM5.out, (R5.out.aside RM5.out str_no _).more (by simp), no_puts2 _ _⟩, row := (setRow_other w5 M (w.heap.size + 1) _ (by omega)).trans (row_below HRO.out (row_lt HRO.out) HB5.out), below := below_setRow (HBO.out.trans (HB5.out.mono HBO.out.size)) (by omega) _, lo := hlo, hi := by simpa using hM5 }
              case measure => (simp [intOf]; try omega)
            · have HB4 : Hid (PwI cs ws l 41 M w (k + 1) 4 wo) := { st := .inr ⟨by decide, bad_of2 (HI.out.form E1.out hs0 hk1) HD0.out⟩, row := HRO.out, below := HBO.out, lo := hlo, hi := Nat.lt_of_lt_of_le hhi HQO.out.size }
              by_cases h2 : ok = 2
              · subst h2
                by_cases h3 : oa = 0
                · subst h3
                  have h4 : ot ≠ ⟨#[]⟩ := fun e => hs0 ⟨rfl, rfl, by rw [e]; rfl⟩
                  have i8 := str_ne h4
                  have i9 : (ot.toList == []) = false := by simpa using i8
                  clear hs0 hk1 h4
                  go_wp2_with fail
                  go_roundw
                  case rel => exact ⟨k + 1, 4, by omega, by go_num, rfl, HB4.out⟩
                  case measure => (simp [intOf]; try omega)
                · have i8 : (oa == 0) = false := beq_eq_false_iff_ne.2 h3
                  have i9 : (oa != 0) = true := bne_iff_ne.2 h3
                  clear hs0 hk1 h3
                  go_wp2_with fail
                  go_roundw
                  case rel => exact ⟨k + 1, 4, by omega, by go_num, rfl, HB4.out⟩
                  case measure => (simp [intOf]; try omega)
              · have i8 : (ok == 2) = false := beq_eq_false_iff_ne.2 h2
                clear hs0 hk1 h2
                go_wp2_with fail
                go_roundw
                case rel => exact ⟨k + 1, 4, by omega, by go_num, rfl, HB4.out⟩
                case measure => (simp [intOf]; try omega)
        · have F := Lib.hid hbad
          have i9 : (e != 0) = true := bne_iff_ne.2 he
          clear he hbad
          go_wp2_with (refine wpList_store_rowTo rfl _ _ _ rfl rfl (w.heap.size + 1) zeroDsk rfl rfl 41 zeroDsk HRO.out info_dsk rfl hone0.out ?_)
          refine bodyPost_ret (results_cell_tmp_row rfl _ _ (w.heap.size + 1) _ zeroDsk (0, 0) _ rfl (row_set HRO.out) Try.underlying41 rfl info_dsk) rfl ?_
          exact dkPost_bad F.out.1 F.out.2 (below_setRow HBO.out (by omega) _)
      · obtain rfl : k = l.length := by omega
        have i1 : ¬ (l.length : Int) < (l.length : Int) := by omega
        have hlo := hP.out.lo
        rcases hP.out.st with ⟨rfl, hd0, C, W, hI, D, q, d, D', q', d', hrM, hrC, hrW⟩ | ⟨he, hbad⟩
        · have HE := Lib.hid (hI.end_ (Nat.le_refl _))
          have F0 := pl_ok (l := l) hd0
          rw [HE.out] at F0
          have F := Lib.hid F0
          have RC := Lib.hid hrC
          have RW := Lib.hid hrW
          have m0 : wq.cell? ⟨M, 0, none⟩ = some (.slice D q d) := row_cell hrM 0
          have m1 : wq.cell? ⟨M, 1, none⟩ = some (.slice D' q' d') := row_cell hrM 1
          clear F0 hI hrM hrC hrW hd0
          have HRO := Lib.hid hP.out.row
          go_wp2_with (refine wpList_store_rowTo rfl _ _ _ rfl rfl (w.heap.size + 1) #[.slice D q d, .slice D' q' d'] rfl rfl 41 zeroDsk HRO.out info_dsk rfl (hone.out _ _ _ _ _ _) ?_)
          refine bodyPost_ret (results_cell_tmp_row rfl _ _ (w.heap.size + 1) _ #[.slice D q d, .slice D' q' d'] (0, 0) _ rfl (row_set HRO.out) Try.underlying41 rfl info_dsk) rfl ?_
          exact dkPost_ok F.out.1 F.out.2.1 F.out.2.2 ((RC.out.aside HRO.out str_no _).more (by simp)) ((RW.out.aside HRO.out put_no _).more (by simp)) (below_setRow hP.out.below (by omega) _)
        · have F := Lib.hid hbad
          have i9 : (e != 0) = true := bne_iff_ne.2 he
          have HRO := Lib.hid hP.out.row
          clear he hbad
          go_wp2_with (refine wpList_store_rowTo rfl _ _ _ rfl rfl (w.heap.size + 1) zeroDsk rfl rfl 41 zeroDsk HRO.out info_dsk rfl hone0.out ?_)
          refine bodyPost_ret (results_cell_tmp_row rfl _ _ (w.heap.size + 1) _ zeroDsk (0, 0) _ rfl (row_set HRO.out) Try.underlying41 rfl info_dsk) rfl ?_
          exact dkPost_bad F.out.1 F.out.2 (below_setRow hP.out.below (by omega) _)
end Go.Proofs.Ytjmgocfoimhmjaa
