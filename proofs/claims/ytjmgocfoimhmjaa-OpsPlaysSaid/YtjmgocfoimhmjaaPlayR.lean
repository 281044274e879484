/- linenref.Play, walked. -/
import Derived.Test.YtjmgocfoimhmjaaCloneD
import Derived.Test.YtjmgocfoimhmjaaWriteD
import Derived.Test.YtjmgocfoimhmjaaBtP
import Derived.Deep.RegionHeld3
import Derived.Deep.DeepCutAuto
namespace Go.Proofs.Ytjmgocfoimhmjaa
open Go.RowKit

theorem kp2d {w0 W : World} {B H : Nat} {u v : Value} (h : W.cell? ⟨B, 0, none⟩ = some u ∧ W.cell? ⟨B, 1, none⟩ = some v ∧ Below H w0 W ∧ H ≤ W.heap.size ∧ B < W.heap.size) : W.drew.cell? ⟨B, 0, none⟩ = some u ∧ W.drew.cell? ⟨B, 1, none⟩ = some v ∧ Below H w0 W.drew ∧ H ≤ W.drew.heap.size ∧ B < W.drew.heap.size := ⟨h.1, h.2.1, h.2.2.1.drew, h.2.2.2⟩
theorem kp2w {w0 W : World} {B H : Nat} {u v : Value} (h : W.cell? ⟨B, 0, none⟩ = some u ∧ W.cell? ⟨B, 1, none⟩ = some v ∧ Below H w0 W ∧ H ≤ W.heap.size ∧ B < W.heap.size) : Below H w0 W := h.2.2.1
theorem kp2b {w0 W W' : World} {B H : Nat} {u v : Value} (h : W.cell? ⟨B, 0, none⟩ = some u ∧ W.cell? ⟨B, 1, none⟩ = some v ∧ Below H w0 W ∧ H ≤ W.heap.size ∧ B < W.heap.size) (hb : Below W.heap.size W W') : W'.cell? ⟨B, 0, none⟩ = some u ∧ W'.cell? ⟨B, 1, none⟩ = some v ∧ Below H w0 W' ∧ H ≤ W'.heap.size ∧ B < W'.heap.size := by
  obtain ⟨h0, h1, h2, h3, h4⟩ := h
  have hz := hb.size
  exact ⟨(hb.cell (p := ⟨B, 0, none⟩) h4).trans h0, (hb.cell (p := ⟨B, 1, none⟩) h4).trans h1, h2.trans (hb.mono h3), by omega, by omega⟩

/-- The loop over the operations: the disk's cells in D, what waits in a slice of the call's own. -/
structure PrI (cs : List ByteArray) (ws : List PutD) (l : List OpD) (D : Option Addr) (d : Nat) (t : TypeId) (w : World) (k : Nat) (C : List ByteArray) (W : List PutD) (Aw : Option Addr) (cw : Nat) (wr : World) : Prop where
  pl : PlI cs ws l k C W
  own : Owns wr (w.heap.size + 2) 1 (.slice D cs.length d) cs.length (C.map Value.string)
  wait : Owns wr (w.heap.size + 2) 2 (.slice Aw W.length cw) W.length (W.flatMap PutD.cells)
  apart : Apart (.slice D cs.length d) (.slice Aw W.length cw)
  row : wr.heap[w.heap.size + 1]? = some (.cells zeroDsk t (0, 0))
  below : Below w.heap.size w wr
  size : w.heap.size + 2 ≤ wr.heap.size
theorem opCells {w : World} {B n c : Nat} {A : Option Addr} {l : List OpD} (r : RowsIn w B A n c OpD.cells 3 l) {i : Nat} {p : OpD} (h : l[i]? = some p) : ∃ b o, A = some ⟨b, o, none⟩ ∧ b < B ∧ w.cell? ⟨b, o + i * 3, none⟩ = some (.int .i64 p.Kind) ∧ w.cell? ⟨b, o + i * 3 + 1, none⟩ = some (.int .i64 p.At) ∧ w.cell? ⟨b, o + i * 3 + 2, none⟩ = some (.string p.Text) := by
  obtain ⟨b, o, e, hb, hc⟩ := r.at_ i p h
  exact ⟨b, o, e, hb, hc 0 _ rfl, hc 1 _ rfl, hc 2 _ rfl⟩
theorem op_at {l : List OpD} {k : Nat} (h : k < l.length) : ∃ ok oa ot, l[k]? = some (⟨ok, oa, ot⟩ : OpD) := ⟨l[k].Kind, l[k].At, l[k].Text, List.getElem?_eq_getElem h⟩

/-- The loop that lays down what waits. -/
structure PsI (C : List ByteArray) (W : List PutD) (g1 off1 n d : Nat) (t : TypeId) (Aw : Option Addr) (cw : Nat) (w : World) (i : Nat) (wr : World) : Prop where
  own : Owns wr (w.heap.size + 2) 1 (.slice (some ⟨g1, off1, none⟩) n d) n ((landTo allB C W i).map Value.string)
  wait : Owns wr (w.heap.size + 2) 2 (.slice Aw W.length cw) W.length (W.flatMap PutD.cells)
  row : wr.heap[w.heap.size + 1]? = some (.cells zeroDsk t (0, 0))
  below : Below w.heap.size w wr
  size : w.heap.size + 2 ≤ wr.heap.size
theorem own_here {W : World} {base size n c b o j : Nat} {xs : List Value} {u : Value} (h : Owns W base size (.slice (some ⟨b, o, none⟩) n c) n xs) (hu : xs[j]? = some u) : W.cell? ⟨b, o + j, none⟩ = some u ∧ W.frozen? ⟨b, o + j, none⟩ = false := by
  obtain ⟨_, _, _, e1, _, _, c1, f1⟩ := h.at_ hu
  injection e1 with e1 _ _; injection e1 with e1; injection e1 with e1 e2 _
  subst e1; subst e2
  exact ⟨c1, f1⟩
theorem bad_of {cs : List ByteArray} {ws : List PutD} {l : List OpD} {e : Int} (h : pl cs ws l = (e, [], [])) (h2 : plE cs ws l = (pl cs ws l).1 ∧ plX cs ws l = (pl cs ws l).2.1 ∧ plY cs ws l = (pl cs ws l).2.2) : plE cs ws l = e ∧ plX cs ws l = [] ∧ plY cs ws l = [] := by
  rw [h] at h2; exact h2
theorem ba_nil {b : ByteArray} (h : b.size = 0) : b = ⟨#[]⟩ := by
  obtain ⟨⟨l⟩⟩ := b
  have : l = [] := List.eq_nil_of_length_eq_zero h
  rw [this]
theorem own_some2 {w : World} {base size n c : Nat} {A : Option Addr} {xs : List Value} (h : Owns w base size (.slice A n c) n xs) (h0 : 0 < n) : ∃ g off, A = some ⟨g, off, none⟩ ∧ base ≤ g ∧ g < w.heap.size := by
  rcases h.2 with ⟨_, e⟩ | ⟨g, off, cap, e, h1, h2, _⟩
  · omega
  · injection e with e _ _
    exact ⟨g, off, e, h1, h2⟩

set_option maxRecDepth 20000 in
set_option maxHeartbeats 4000000 in
theorem playr_any (A : Option Addr) (n c : Nat) (cs : List ByteArray) (A' : Option Addr) (n' c' : Nat) (ws : List PutD) (L : Option Addr) (nl cl : Nat) (l : List OpD) (w : World) (r : RowsIn w w.heap.size A n c (fun z => [.string z]) 1 cs) (r' : RowsIn w w.heap.size A' n' c' PutD.cells 2 ws) (rl : RowsIn w w.heap.size L nl cl OpD.cells 3 l) :
    Calls Try.prog 23 #[.agg #[.slice A n c, .slice A' n' c'], .slice L nl cl] w (DkPost (plE cs ws l) (plX cs ws l) (plY cs ws l) w) := by
  have hlen := r.len
  subst hlen
  have hlen' := r'.len
  subst hlen'
  have hlenl := rl.len
  subst hlenl
  have htop : l.length ≤ 9223372036854775807 := by have h1 := rl.le; have h2 := rl.top; unfold maxLen at h2; omega
  obtain ⟨wa, hwa⟩ : ∃ wa, wa = (w.alloc (.cells #[.slice A cs.length c, .slice A' ws.length c'] 41)).alloc (.cells zeroDsk 41) := ⟨_, rfl⟩
  have hza : wa.heap.size = w.heap.size + 2 := by rw [hwa]; simp
  have hba : Below w.heap.size w wa := by rw [hwa]; exact ((Below.refl _ _).alloc (Nat.le_refl _) _).alloc (by simp) _
  have hra : wa.heap[w.heap.size + 1]? = some (.cells zeroDsk 41 (0, 0)) := by
    rw [hwa]
    have := heap_alloc_new (w.alloc (.cells #[.slice A cs.length c, .slice A' ws.length c'] 41)) (.cells zeroDsk 41)
    rw [show (w.alloc (.cells #[.slice A cs.length c, .slice A' ws.length c'] 41)).heap.size = w.heap.size + 1 by simp] at this
    exact this
  have hrb : wa.heap[w.heap.size]? = some (.cells #[.slice A cs.length c, .slice A' ws.length c'] 41 (0, 0)) := by
    rw [hwa]; exact (heap_alloc_old _ _ (by simp)).trans (heap_alloc_new w _)
  have hle : w.heap.size ≤ wa.heap.size := by omega
  have RA := Lib.hid ((r.below hba).more hle)
  have RA' := Lib.hid ((r'.below hba).more hle)
  have RL := Lib.hid rl
  have HC := Lib.hid (dskr_any A cs.length c cs A' ws.length c' ws wa RA.out RA'.out)
  have hone0 : Hid ((zeroDsk : Array Value).all (·.oneCell') = true) := by simp [Hid, Value.oneCell']
  have hone : Hid (∀ (A A' : Option Addr) (n c n' c' : Nat), ((#[.slice A n c, .slice A' n' c'] : Array Value).all (·.oneCell')) = true) := fun _ _ _ _ _ _ => by simp [Value.oneCell']
  have HRA := Lib.hid hra
  have HRB := Lib.hid hrb
  have HWA := Lib.hid hwa
  have HBA := Lib.hid hba
  have HZA := Lib.hid hza
  clear r r' rl hwa hza hba hra hrb hle
  by_cases hd : dskE cs ws = 0
  · obtain ⟨z1, z2, _, _, z3⟩ := dsk_zero hd
    have HCS : Hid (∀ W, Below wa.heap.size wa W → Calls Try.prog 63 #[.slice A cs.length c] W fun e w' => ∃ D d, e = .returned (.slice D cs.length d) ∧ Owns w' W.heap.size 1 (.slice D cs.length d) cs.length (cs.map Value.string) ∧ Below W.heap.size W w') := fun W h => clones_any A _ c cs W.heap.size W ((RA.out.below h).more h.size) (Nat.le_refl _) (by omega)
    have HCQ : Hid (∀ W, Below wa.heap.size wa W → Calls Try.prog 64 #[.slice A' ws.length c'] W fun e w' => ∃ D d, e = .returned (.slice D ws.length d) ∧ Owns w' W.heap.size 2 (.slice D ws.length d) ws.length (ws.flatMap PutD.cells) ∧ Below W.heap.size W w') := fun W h => cloneq_any A' _ c' ws W.heap.size W ((RA'.out.below h).more h.size) (Nat.le_refl _) (by omega)
    have HST := Lib.hid (PlI.start (l := l) hd)
    have HPL := Lib.hid (pl_ok (l := l) hd)
    rw [hd] at HC
    have Z1 := Lib.hid z1
    have Z2 := Lib.hid z2
    clear hd z1 z2 z3
    go_enter Try.func23, Try.ntmps23
    go_wp2_with (go_at_call 26; rw [← HWA.out]; refine HC.out.mono ?_; rintro e w1 ⟨rfl, hb1⟩; have hrb1 := row_below HRB.out (row_lt HRB.out) hb1; have hs : w1.cell? ⟨w.heap.size, 0, none⟩ = some (.slice A cs.length c) ∧ w1.cell? ⟨w.heap.size, 1, none⟩ = some (.slice A' ws.length c') ∧ Below wa.heap.size wa w1 ∧ wa.heap.size ≤ w1.heap.size ∧ w.heap.size < w1.heap.size := ⟨row_cell hrb1 0, row_cell hrb1 1, hb1, hb1.size, row_lt hrb1⟩; clear hrb1 hb1)
    go_region_held3 (fun W => W.cell? ⟨w.heap.size, 0, none⟩ = some (.slice A cs.length c) ∧ W.cell? ⟨w.heap.size, 1, none⟩ = some (.slice A' ws.length c') ∧ Below wa.heap.size wa W ∧ wa.heap.size ≤ W.heap.size ∧ w.heap.size < W.heap.size)
      (first | assumption | exact kp2d (by assumption) | exact kp2b (by assumption) (by assumption))
      (first
        | (go_at_call 63; refine (HCS.out _ ?_).mono ?_; (exact kp2w (by assumption)); rintro e w2 ⟨D, d, rfl, o2, hb2⟩; have OO2 := Lib.hid o2; clear o2)
        | (go_at_call 64; refine (HCQ.out _ ?_).mono ?_; (exact kp2w (by assumption)); rintro e w3 ⟨E, q, rfl, o3, hb3⟩; have OO3 := Lib.hid o3; clear o3))
    rename_i hHeld
    have hb3w := kp2w hHeld
    have hz3 := hb3w.size
    have hza := HZA.out
    have hz1 : wa.heap.size ≤ w1.drew.heap.size := hs.2.2.2.1
    have hz23 := hb3.size
    have hz12 := hb2.size
    have P0 : PrI cs ws l D d 41 w 0 cs ws E q w3 :=
      { pl := HST.out, own := (OO2.out.fresh_below hb3).more (by omega), wait := OO3.out.more (by omega),
        apart := fun g e e' => by have h1 := (OO2.out.lt g e).2; have h2 := (OO3.out.lt g e').1; omega,
        row := row_below HRA.out (row_lt HRA.out) hb3w, below := HBA.out.trans (hb3w.mono HBA.out.size), size := by omega }
    have PP0 := Lib.hid P0
    clear hHeld hs hb3w hz3 hz1 hz23 hz12 P0 OO2 OO3 hb2 hb3 HCS HCQ HC HRB
    obtain ⟨g1, off1, hD, _, _⟩ := own_some2 PP0.out.own Z1.out
    subst hD
    go_wp2
    go_loopw [8, 27] (fun v8 v27 wr => ∃ (k : Nat) (C : List ByteArray) (W : List PutD) (Aw : Option Addr) (cw : Nat), k ≤ l.length ∧ v27 = .int .i64 k ∧ v8 = .slice Aw W.length cw ∧ Hid (PrI cs ws l (some ⟨g1, off1, none⟩) d 41 w k C W Aw cw wr)) (fun _ v27 _ => l.length - (intOf v27).toNat)
    case atStart => exact ⟨0, cs, ws, E, q, Nat.zero_le _, rfl, rfl, PP0.out⟩
    case round =>
      obtain ⟨k, C, W, Aw, cw, hk, rfl, rfl, hP⟩ := hrel
      obtain ⟨wq, rfl⟩ : ∃ z : World, z = wr := ⟨_, rfl⟩
      by_cases hlt : k < l.length
      · obtain ⟨ok, oa, ot, e1⟩ := op_at hlt
        have E1 := Lib.hid e1
        obtain ⟨b, o, rfl, hbB, p0, p1, p2⟩ := opCells (RL.out.below hP.out.below) e1
        simp only at p0 p1 p2
        have i1 : (k : Int) < (l.length : Int) := by omega
        have HRR := Lib.hid hP.out.row
        have HSZ := Lib.hid hP.out.size
        obtain ⟨wo, hwo⟩ : ∃ z : World, z = wq.alloc (.cells #[.int .i64 ok, .int .i64 oa, .string ot] 46) := ⟨_, rfl⟩
        have hro := heap_alloc_new wq (.cells #[.int .i64 ok, .int .i64 oa, .string ot] 46)
        rw [← hwo] at hro
        have HRRo := row_alloc HRR.out (.cells #[.int .i64 ok, .int .i64 oa, .string ot] 46)
        rw [← hwo] at HRRo
        have hbo : Below w.heap.size w wo := by rw [hwo]; exact hP.out.below.alloc hP.out.below.size _
        have HRO := Lib.hid HRRo
        have HBO := Lib.hid hbo
        have HWO := Lib.hid hwo
        have HNEW := Lib.hid hro
        have c0 : wo.cell? ⟨wq.heap.size, 0, none⟩ = some (.int .i64 ok) := row_cell hro 0
        have c1 : wo.cell? ⟨wq.heap.size, 1, none⟩ = some (.int .i64 oa) := row_cell hro 1
        have c2 : wo.cell? ⟨wq.heap.size, 2, none⟩ = some (.string ot) := row_cell hro 2
        clear e1 HRRo hbo hwo hro hlt hk
        go_upto_region 9 with fail
        rw [← HWO.out]
        by_cases hk1 : ok = 1
        · subst hk1
          by_cases hp : putE C.length oa ot.size = 0
          · obtain ⟨pa0, pa1, pa2⟩ := put_zero hp
            rw [hP.out.pl.len] at pa1
            have j2 : ¬ (1024 : Int) < (ot.size : Int) := by omega
            by_cases h4 : W.length = 400
            · have F := Lib.hid (bad_of (hP.out.pl.full E1.out rfl hp h4) HPL.out)
              have i4 : ((W.length : Int) == 400) = true := by simp; omega
              have i5 : decide ((W.length : Int) = 400) = true := by simp; omega
              clear hp h4
              go_wp2_with (refine wpList_store_rowTo rfl _ _ _ rfl rfl (w.heap.size + 1) zeroDsk rfl rfl 41 zeroDsk HRO.out info_dsk rfl hone0.out ?_)
              refine bodyPost_ret (results_cell_tmp_row rfl _ _ (w.heap.size + 1) _ zeroDsk (0, 0) _ rfl (row_set HRO.out) Try.underlying41 rfl info_dsk) rfl ?_
              exact dkPost_bad F.out.1 F.out.2 (below_setRow HBO.out (by omega) _)
            · have HPN := Lib.hid (hP.out.pl.add E1.out rfl hp h4)
              have hW := hP.out.pl.right
              have hw4 : W.length ≤ 400 := (dsk_zero hW).2.2.2.2
              have i4 : ((W.length : Int) == 400) = false := by simp; omega
              have G2 : Hid (∀ u ∈ (#[.int .i64 oa, .string ot] : Array Value).toList, u.oneCell' = true) := by simp [Hid, Value.oneCell']
              have G3 : Hid (W.length + 1 ≤ maxLen ∧ (W.length + 1) * 24 ≤ 140737488355328) := by unfold maxLen Hid; omega
              have G4 : Hid (0 < 2) := by simp [Hid]
              have OW : Hid (Owns wo (w.heap.size + 2) 2 (.slice Aw W.length cw) W.length (W.flatMap PutD.cells)) := by rw [HWO.out]; exact hP.out.wait.alloc _
              have OC : Hid (Owns wo (w.heap.size + 2) 1 (.slice (some ⟨g1, off1, none⟩) cs.length d) cs.length (C.map Value.string)) := by rw [HWO.out]; exact hP.out.own.alloc _
              have SZ : Hid (w.heap.size + 2 ≤ wo.heap.size) := by have := hP.out.size; rw [HWO.out]; simp only [Hid, World.size_alloc]; omega
              clear hp h4 hW hw4
              go_wp2_with (at_builtin; refine wpList_add1 (size := 2) (bytes := 24) (base := w.heap.size + 2) (news := #[.int .i64 oa, .string ot]) rfl rfl Try.underlying39 info_putL rfl G4.out OW.out rfl SZ.out rfl rfl rfl G2.out G3.out.1 G3.out.2 ?_; intro A3 c3 w5 hown5 hl5 hn5)
              go_roundw
              case rel =>
                refine ⟨k + 1, C, W ++ [⟨oa, ot⟩], A3, c3, by omega, by go_num, by simp, ?_⟩
                exact { pl := HPN.out, own := OC.out.apart hl5 (Apart.symm hP.out.apart), wait := by
                          rw [List.flatMap_append]
                          have e : (W ++ [(⟨oa, ot⟩ : PutD)]).length = W.length + 1 := by simp
                          rw [e]; exact hown5,
                        apart := by
                          have e : (W ++ [(⟨oa, ot⟩ : PutD)]).length = W.length + 1 := by simp
                          rw [e]; exact Apart.symm ((Apart.symm hP.out.apart).grow (N := wo.heap.size) hn5 (fun g h => (OC.out.lt g h).2)),
                        row := row_left HRO.out hl5 (fun e => by have := (hP.out.wait.lt _ e).1; omega), below := hl5.below (by omega) HBO.out, size := Nat.le_trans SZ.out hl5.size }
              case measure => (simp [intOf]; try omega)
          · have F := Lib.hid (bad_of (hP.out.pl.put E1.out rfl hp) HPL.out)
            have hCl := hP.out.pl.len
            rw [hCl] at hp F
            rcases (show oa < 0 ∨ (0 ≤ oa ∧ (cs.length : Int) ≤ oa) ∨ (0 ≤ oa ∧ oa < (cs.length : Int)) by omega) with h | ⟨h0, h⟩ | ⟨h0, h⟩
            · have e : putE (cs.length : Int) oa ot.size = 1 := putE_arg (.inl h)
              rw [e] at F
              clear hp e hCl
              go_wp2_with (refine wpList_store_rowTo rfl _ _ _ rfl rfl (w.heap.size + 1) zeroDsk rfl rfl 41 zeroDsk HRO.out info_dsk rfl hone0.out ?_)
              refine bodyPost_ret (results_cell_tmp_row rfl _ _ (w.heap.size + 1) _ zeroDsk (0, 0) _ rfl (row_set HRO.out) Try.underlying41 rfl info_dsk) rfl ?_
              exact dkPost_bad F.out.1 F.out.2 (below_setRow HBO.out (by omega) _)
            · have e : putE (cs.length : Int) oa ot.size = 1 := putE_arg (.inr h)
              rw [e] at F
              clear hp e hCl
              go_wp2_with (refine wpList_store_rowTo rfl _ _ _ rfl rfl (w.heap.size + 1) zeroDsk rfl rfl 41 zeroDsk HRO.out info_dsk rfl hone0.out ?_)
              refine bodyPost_ret (results_cell_tmp_row rfl _ _ (w.heap.size + 1) _ zeroDsk (0, 0) _ rfl (row_set HRO.out) Try.underlying41 rfl info_dsk) rfl ?_
              exact dkPost_bad F.out.1 F.out.2 (below_setRow HBO.out (by omega) _)
            · have hb : 1024 < ot.size := by
                rcases Nat.lt_or_ge 1024 ot.size with hb | hb
                · exact hb
                · exact absurd (putE_ok h0 h (by omega)) hp
              have e : putE (cs.length : Int) oa ot.size = 2 := putE_large h0 h hb
              have i5 : (1024 : Int) < (ot.size : Int) := by omega
              rw [e] at F
              clear hp e hCl
              go_wp2_with (refine wpList_store_rowTo rfl _ _ _ rfl rfl (w.heap.size + 1) zeroDsk rfl rfl 41 zeroDsk HRO.out info_dsk rfl hone0.out ?_)
              refine bodyPost_ret (results_cell_tmp_row rfl _ _ (w.heap.size + 1) _ zeroDsk (0, 0) _ rfl (row_set HRO.out) Try.underlying41 rfl info_dsk) rfl ?_
              exact dkPost_bad F.out.1 F.out.2 (below_setRow HBO.out (by omega) _)
        · by_cases hs0 : ok = 2 ∧ oa = 0 ∧ ot.size = 0
          · obtain ⟨rfl, rfl, hsz⟩ := hs0
            obtain rfl : ot = ⟨#[]⟩ := ba_nil hsz
            have HPN := Lib.hid (hP.out.pl.sync E1.out rfl rfl rfl)
            have HW := Lib.hid (dsk_zero hP.out.pl.right)
            have hCl := Lib.hid hP.out.pl.len
            have AP := Lib.hid hP.out.apart
            have OW : Hid (Owns wo (w.heap.size + 2) 2 (.slice Aw W.length cw) W.length (W.flatMap PutD.cells)) := by rw [HWO.out]; exact hP.out.wait.alloc _
            have OC : Hid (Owns wo (w.heap.size + 2) 1 (.slice (some ⟨g1, off1, none⟩) cs.length d) cs.length (C.map Value.string)) := by rw [HWO.out]; exact hP.out.own.alloc _
            have SZ : Hid (w.heap.size + 2 ≤ wo.heap.size) := by have := hP.out.size; rw [HWO.out]; simp only [Hid, World.size_alloc]; omega
            have hw4 : W.length ≤ 400 := HW.out.2.2.2.2
            have S0 : Hid (PsI C W g1 off1 cs.length d 41 Aw cw w 0 wo) := ⟨by rw [landTo_zero]; exact OC.out, OW.out, HRO.out, HBO.out, SZ.out⟩
            clear hk1 hsz p0 p1 p2
            go_wp2
            go_loopw [55] (fun v55 wr => ∃ i : Nat, i ≤ W.length ∧ v55 = .int .i64 i ∧ Hid (PsI C W g1 off1 cs.length d 41 Aw cw w i wr)) (fun v55 _ => W.length - (intOf v55).toNat)
            case atStart => exact ⟨0, Nat.zero_le _, rfl, S0.out⟩
            case round =>
              obtain ⟨i, hi, rfl, hS⟩ := hrel
              by_cases hil : i < W.length
              · obtain ⟨pa, pt, e1⟩ : ∃ pa pt, W[i]? = some (⟨pa, pt⟩ : PutD) := ⟨W[i].At, W[i].Text, List.getElem?_eq_getElem hil⟩
                obtain ⟨b', o', rfl, hbB', hp0, hp1⟩ := putCells (own_puts hS.out.wait) e1
                simp only at hp0 hp1
                have hpa := wait_all HW.out.2.2.2.1 _ (List.mem_iff_getElem?.2 ⟨i, e1⟩)
                simp only at hpa
                obtain ⟨j, rfl⟩ : ∃ j : Nat, pa = j := ⟨pa.toNat, by omega⟩
                have i2 : (i : Int) < (W.length : Int) := by omega
                have hgj : (j : Int) < (cs.length : Int) := by rw [← hCl.out]; exact hpa.2.1
                have HYES := Lib.hid (landTo_yes (K := allB) (cs := C) (j := j) e1 rfl rfl (by omega))
                have hoc := hS.out.own.alloc (.cells #[.int .i64 (j : Int), .string pt] 100)
                have hjl : j < (landTo allB C W i).length := by have := hS.out.own.1; rw [List.length_map] at this; omega
                obtain ⟨q0, q1⟩ := own_here hoc (j := j) (u := .string (landTo allB C W i)[j]) (by rw [List.getElem?_map, List.getElem?_eq_getElem hjl]; rfl)
                generalize (landTo allB C W i)[j] = old at *
                have hk0 := heap_alloc_new wr (.cells #[.int .i64 (j : Int), .string pt] 100)
                have k0 : (wr.alloc (.cells #[.int .i64 (j : Int), .string pt] 100)).cell? ⟨wr.heap.size, 0, none⟩ = some (.int .i64 (j : Int)) := row_cell hk0 0
                have k1 : (wr.alloc (.cells #[.int .i64 (j : Int), .string pt] 100)).cell? ⟨wr.heap.size, 1, none⟩ = some (.string pt) := row_cell hk0 1
                have HOC := Lib.hid hoc
                clear hoc hk0 hjl e1 hpa hi hil
                go_wp2_with fail
                go_roundw
                case rel =>
                  have hsz := hS.out.size
                  have hg := (hS.out.own.lt g1 rfl).1
                  exact ⟨i + 1, by omega, by go_num, { own := by rw [HYES.out, List.map_set]; exact HOC.out.set j (.string pt), wait := (hS.out.wait.alloc _).setOther (p := ⟨g1, off1 + j, none⟩) (fun e => AP.out g1 rfl e) _, row := row_other (row_alloc hS.out.row _) (show w.heap.size + 1 ≠ g1 by omega), below := (hS.out.below.alloc hS.out.below.size _).setCell (show w.heap.size ≤ g1 by omega) _, size := by simp [World.setCell]; omega }⟩
                case measure => (simp [intOf]; try omega)
              · obtain rfl : i = W.length := by omega
                have i2 : ¬ (W.length : Int) < (W.length : Int) := by omega
                go_wp2
                go_roundw
                case rel => exact ⟨k + 1, landL allB C W, [], none, 0, by omega, by go_num, rfl, { pl := HPN.out, own := by rw [← landTo_end]; exact hS.out.own, wait := Owns.nil _ _ _, apart := Apart.symm (Apart.nil _ _ _), row := hS.out.row, below := hS.out.below, size := hS.out.size }⟩
                case measure => (simp [intOf]; try omega)
          · have F := Lib.hid (bad_of (hP.out.pl.form E1.out hs0 hk1) HPL.out)
            have i7 : (ok != 1) = true := bne_iff_ne.2 hk1
            by_cases h2 : ok = 2
            · subst h2
              by_cases h3 : oa = 0
              · subst h3
                have h4 : ot ≠ ⟨#[]⟩ := fun e => hs0 ⟨rfl, rfl, by rw [e]; rfl⟩
                have i8 := str_ne h4
                have i9 : (ot.toList == []) = false := by simpa using i8
                clear hs0 hk1 h4
                go_wp2_with (refine wpList_store_rowTo rfl _ _ _ rfl rfl (w.heap.size + 1) zeroDsk rfl rfl 41 zeroDsk HRO.out info_dsk rfl hone0.out ?_)
                refine bodyPost_ret (results_cell_tmp_row rfl _ _ (w.heap.size + 1) _ zeroDsk (0, 0) _ rfl (row_set HRO.out) Try.underlying41 rfl info_dsk) rfl ?_
                exact dkPost_bad F.out.1 F.out.2 (below_setRow HBO.out (by omega) _)
              · have i8 : (oa == 0) = false := beq_eq_false_iff_ne.2 h3
                clear hs0 hk1 h3
                go_wp2_with (refine wpList_store_rowTo rfl _ _ _ rfl rfl (w.heap.size + 1) zeroDsk rfl rfl 41 zeroDsk HRO.out info_dsk rfl hone0.out ?_)
                refine bodyPost_ret (results_cell_tmp_row rfl _ _ (w.heap.size + 1) _ zeroDsk (0, 0) _ rfl (row_set HRO.out) Try.underlying41 rfl info_dsk) rfl ?_
                exact dkPost_bad F.out.1 F.out.2 (below_setRow HBO.out (by omega) _)
            · have i8 : (ok == 2) = false := beq_eq_false_iff_ne.2 h2
              clear hs0 hk1 h2
              go_wp2_with (refine wpList_store_rowTo rfl _ _ _ rfl rfl (w.heap.size + 1) zeroDsk rfl rfl 41 zeroDsk HRO.out info_dsk rfl hone0.out ?_)
              refine bodyPost_ret (results_cell_tmp_row rfl _ _ (w.heap.size + 1) _ zeroDsk (0, 0) _ rfl (row_set HRO.out) Try.underlying41 rfl info_dsk) rfl ?_
              exact dkPost_bad F.out.1 F.out.2 (below_setRow HBO.out (by omega) _)
      · obtain rfl : k = l.length := by omega
        have i1 : ¬ (l.length : Int) < (l.length : Int) := by omega
        have HE := Lib.hid (hP.out.pl.end_ (Nat.le_refl _))
        have F0 := HPL.out
        rw [HE.out] at F0
        have F := Lib.hid F0
        clear F0
        go_wp2_with (refine wpList_store_rowTo rfl _ _ _ rfl rfl (w.heap.size + 1) #[.slice (some ⟨g1, off1, none⟩) cs.length d, .slice Aw W.length cw] rfl rfl 41 zeroDsk hP.out.row info_dsk rfl (hone.out _ _ _ _ _ _) ?_)
        refine bodyPost_ret (results_cell_tmp_row rfl _ _ (w.heap.size + 1) _ #[.slice (some ⟨g1, off1, none⟩) cs.length d, .slice Aw W.length cw] (0, 0) _ rfl (row_set hP.out.row) Try.underlying41 rfl info_dsk) rfl ?_
        exact dkPost_ok F.out.1 F.out.2.1 F.out.2.2 (own_strs (hP.out.own.setRow (by omega) _)) (own_puts (base := w.heap.size + 2) (hP.out.wait.setRow (by omega) _)) (below_setRow hP.out.below (by omega) _)
  · obtain ⟨e1, e2, e3⟩ := pl_bad (l := l) hd
    have F := Lib.hid e1
    have F2 := Lib.hid (And.intro e2 e3)
    have i4 : (dskE cs ws != 0) = true := bne_iff_ne.2 hd
    generalize dskE cs ws = de at *
    clear hd e1 e2 e3
    go_enter Try.func23, Try.ntmps23
    go_wp2_with (first
      | (go_at_call 26; rw [← HWA.out]; refine HC.out.mono ?_; rintro e w1 ⟨rfl, hb1⟩; have HRA1 := Lib.hid (row_below HRA.out (row_lt HRA.out) hb1); have HB1 := Lib.hid hb1; clear hb1)
      | (refine wpList_store_rowTo rfl _ _ _ rfl rfl (w.heap.size + 1) zeroDsk rfl rfl 41 zeroDsk HRA1.out info_dsk rfl hone0.out ?_))
    refine bodyPost_ret (results_cell_tmp_row rfl _ _ (w.heap.size + 1) _ zeroDsk (0, 0) _ rfl (row_set HRA1.out) Try.underlying41 rfl info_dsk) rfl ?_
    exact dkPost_bad F.out F2.out (below_setRow (HBA.out.trans (HB1.out.mono HBA.out.size)) (by omega) _)
end Go.Proofs.Ytjmgocfoimhmjaa
