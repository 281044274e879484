/- disk.Write, walked. -/
import Derived.Test.YtjmgocfoimhmjaaLikeD
import Derived.Test.YtjmgocfoimhmjaaPlayP
import Derived.Test.YtjmgocfoimhmjaaDiskW
namespace Go.Proofs.Ytjmgocfoimhmjaa
open Go.RowKit

def DkPost (E : Int) (X : List ByteArray) (Y : List PutD) (w : World) (e : Ending) (w' : World) : Prop := ∃ D q d D' q' d', e = .returned (.tuple #[.agg #[.slice D q d, .slice D' q' d'], .int .i64 E]) ∧ RowsIn w' w'.heap.size D q d (fun z => [.string z]) 1 X ∧ RowsIn w' w'.heap.size D' q' d' PutD.cells 2 Y ∧ Below w.heap.size w w'
theorem no_strs2 (w : World) (B : Nat) : RowsIn w B none 0 0 (fun z => [.string z]) 1 ([] : List ByteArray) := ⟨rfl, Nat.le_refl _, Nat.zero_le _, fun i x h => by simp at h⟩
theorem no_puts2 (w : World) (B : Nat) : RowsIn w B none 0 0 PutD.cells 2 ([] : List PutD) := ⟨rfl, Nat.le_refl _, Nat.zero_le _, fun i x h => by simp at h⟩
theorem dkPost_bad {E k : Int} {X : List ByteArray} {Y : List PutD} {w w' : World} (h : E = k) (h2 : X = [] ∧ Y = []) (hb : Below w.heap.size w w') : DkPost E X Y w (.returned (.tuple #[.agg zeroDsk, .int .i64 k])) w' :=
  ⟨none, 0, 0, none, 0, 0, by rw [h], by rw [h2.1]; exact no_strs2 _ _, by rw [h2.2]; exact no_puts2 _ _, hb⟩
theorem dkPost_ok {E : Int} {X X' : List ByteArray} {Y Y' : List PutD} {w w' : World} {D D' : Option Addr} {q d q' d' : Nat} (h : E = 0) (h1 : X = X') (h2 : Y = Y') (r : RowsIn w' w'.heap.size D q d (fun z => [.string z]) 1 X') (r' : RowsIn w' w'.heap.size D' q' d' PutD.cells 2 Y') (hb : Below w.heap.size w w') : DkPost E X Y w (.returned (.tuple #[.agg #[.slice D q d, .slice D' q' d'], .int .i64 0])) w' :=
  ⟨D, q, d, D', q', d', by rw [h], by rw [h1]; exact r, by rw [h2]; exact r', hb⟩

set_option maxRecDepth 20000 in
set_option maxHeartbeats 2000000 in
theorem dwrite_any (A : Option Addr) (n c : Nat) (cs : List ByteArray) (A' : Option Addr) (n' c' : Nat) (ws : List PutD) (a : Int) (t : ByteArray) (w : World) (r : RowsIn w w.heap.size A n c (fun z => [.string z]) 1 cs) (r' : RowsIn w w.heap.size A' n' c' PutD.cells 2 ws) :
    Calls Try.prog 22 #[.agg #[.slice A n c, .slice A' n' c'], .int .i64 a, .string t] w (DkPost (wrE cs ws a t) (wrX cs ws a t) (wrY cs ws a t) w) := by
  have hlen := r.len
  subst hlen
  have hlen' := r'.len
  subst hlen'
  obtain ⟨wa, hwa⟩ : ∃ wa, wa = (w.alloc (.cells #[.slice A cs.length c, .slice A' ws.length c'] 41)).alloc (.cells zeroDsk 41) := ⟨_, rfl⟩
  have hza : wa.heap.size = w.heap.size + 2 := by rw [hwa]; simp
  have hba : Below w.heap.size w wa := by rw [hwa]; exact ((Below.refl _ _).alloc (Nat.le_refl _) _).alloc (by simp) _
  have hra : wa.heap[w.heap.size + 1]? = some (.cells zeroDsk 41 (0, 0)) := by
    rw [hwa]
    have := heap_alloc_new (w.alloc (.cells #[.slice A cs.length c, .slice A' ws.length c'] 41)) (.cells zeroDsk 41)
    rw [show (w.alloc (.cells #[.slice A cs.length c, .slice A' ws.length c'] 41)).heap.size = w.heap.size + 1 by simp] at this
    exact this
  have hrb : wa.heap[w.heap.size]? = some (.cells #[.slice A cs.length c, .slice A' ws.length c'] 41 (0, 0)) := by
    rw [hwa]; exact (heap_alloc_old _ _ (by simp)).trans (heap_alloc_new w _)
  have hle : w.heap.size ≤ wa.heap.size := by omega
  have RA := Lib.hid ((r.below hba).more hle)
  have RA' := Lib.hid ((r'.below hba).more hle)
  have HC := Lib.hid (dchk_any A cs.length c cs A' ws.length c' ws wa RA.out RA'.out)
  have HP := Lib.hid (fun W => dput_any (cs.length : Int) a t W)
  have hone0 : Hid ((zeroDsk : Array Value).all (·.oneCell') = true) := by simp [Hid, Value.oneCell']
  have hone : Hid (∀ (A A' : Option Addr) (n c n' c' : Nat), ((#[.slice A n c, .slice A' n' c'] : Array Value).all (·.oneCell')) = true) := fun _ _ _ _ _ _ => by simp [Value.oneCell']
  have HRA := Lib.hid hra
  have HRB := Lib.hid hrb
  have HWA := Lib.hid hwa
  have HBA := Lib.hid hba
  have HZA := Lib.hid hza
  have htop : ws.length ≤ 9223372036854775807 := by have h1 := r'.le; have h2 := r'.top; unfold maxLen at h2; omega
  clear r r' hwa hza hba hra hrb hle
  by_cases hd : dskE cs ws = 0
  · obtain ⟨z1, z2, _, _, z3⟩ := dsk_zero hd
    have HLK : Hid (∀ W, Below wa.heap.size wa W → Calls Try.prog 62 #[.agg #[.slice A cs.length c, .slice A' ws.length c']] W (LdPost cs ws W)) := fun W h => liked_any A _ c cs A' _ c' ws W ((RA.out.below h).more h.size) ((RA'.out.below h).more h.size) (by omega) (by omega)
    unfold LdPost at HLK
    rw [hd] at HC
    by_cases hp : putE cs.length a t.size = 0
    · rw [hp] at HP
      by_cases h4 : ws.length = 400
      · have F := Lib.hid (wrE_full hd hp h4)
        have F2 := Lib.hid (wr_bad F.out (by decide))
        have i4 : ((ws.length : Int) == 400) = true := by simp; omega
        have i5 : decide ((ws.length : Int) = 400) = true := by simp; omega
        have H4 := Lib.hid h4
        clear hp hd h4 z1 z2 z3
        go_enter Try.func22, Try.ntmps22
        go_wp2_with (first
          | (go_at_call 60; rw [← HWA.out]; refine HC.out.mono ?_; rintro e w1 ⟨rfl, hb1⟩; have hrb1 := row_below HRB.out (row_lt HRB.out) hb1; have q0 : w1.cell? ⟨w.heap.size, 0, none⟩ = some (.slice A cs.length c) := row_cell hrb1 0; have q1 : w1.cell? ⟨w.heap.size, 1, none⟩ = some (.slice A' ws.length c') := row_cell hrb1 1; have q8 := row_lt hrb1; have HRA1 := Lib.hid (row_below HRA.out (row_lt HRA.out) hb1); have HB1 := Lib.hid hb1; clear hrb1 hb1)
          | (go_at_call 61; refine (HP.out _).mono ?_; rintro e w2 ⟨rfl, rfl⟩)
          | (refine wpList_store_rowTo rfl _ _ _ rfl rfl (w.heap.size + 1) zeroDsk rfl rfl 41 zeroDsk HRA1.out info_dsk rfl hone0.out ?_))
        refine bodyPost_ret (results_cell_tmp_row rfl _ _ (w.heap.size + 1) _ zeroDsk (0, 0) _ rfl (row_set HRA1.out) Try.underlying41 rfl info_dsk) rfl ?_
        exact dkPost_bad F.out F2.out (below_setRow (HBA.out.trans (HB1.out.mono HBA.out.size)) (by omega) _)
      · have F := Lib.hid (wrE_ok hd hp h4)
        have F2 := Lib.hid (wr_good F.out)
        have i4 : ((ws.length : Int) == 400) = false := by simp; omega
        have G2 : Hid (∀ u ∈ (#[.int .i64 a, .string t] : Array Value).toList, u.oneCell' = true) := by simp [Hid, Value.oneCell']
        have G3 : Hid (ws.length + 1 ≤ maxLen ∧ (ws.length + 1) * 24 ≤ 140737488355328) := by unfold maxLen Hid; omega
        have G4 : Hid (0 < 2) := by simp [Hid]
        clear hp hd z1 z2 z3 h4
        go_enter Try.func22, Try.ntmps22
        go_wp2_with (first
          | (go_at_call 60; rw [← HWA.out]; refine HC.out.mono ?_; rintro e w1 ⟨rfl, hb1⟩; have hrb1 := row_below HRB.out (row_lt HRB.out) hb1; have q0 : w1.cell? ⟨w.heap.size, 0, none⟩ = some (.slice A cs.length c) := row_cell hrb1 0; have q1 : w1.cell? ⟨w.heap.size, 1, none⟩ = some (.slice A' ws.length c') := row_cell hrb1 1; have q8 := row_lt hrb1; have HRA1 := Lib.hid (row_below HRA.out (row_lt HRA.out) hb1); have HB1 := Lib.hid hb1; clear hrb1 hb1)
          | (go_at_call 61; refine (HP.out _).mono ?_; rintro e w2 ⟨rfl, rfl⟩)
          | (refine wpList_store_rowTo rfl _ _ _ rfl rfl (w.heap.size + 1) #[.slice D cs.length d, .slice A3 (ws.length + 1) c3] rfl rfl 41 zeroDsk R5.out info_dsk rfl (hone.out _ _ _ _ _ _) ?_)
          | (go_at_call 62; refine (HLK.out _ HB1.out).mono ?_; rintro e w3 ⟨D, d, D', d', rfl, o1, o2, ap, hb3⟩; have OO1 := Lib.hid o1; have OO2 := Lib.hid o2; have AP := Lib.hid ap; have HB3 := Lib.hid hb3; have HRA3 := Lib.hid (row_below HRA1.out (row_lt HRA1.out) hb3); clear o1 o2 ap hb3)
          | (refine wpList_store_rowTo rfl _ _ _ rfl rfl w3.heap.size #[.slice D cs.length d, .slice D' ws.length d'] rfl rfl 41 zeroDsk (heap_alloc_new w3 _) info_dsk rfl (hone.out D D' _ d _ d') ?_; obtain ⟨w4, hw4⟩ : ∃ w4, (w3.alloc (.cells zeroDsk 41)).setRow w3.heap.size #[.slice D cs.length d, .slice D' ws.length d'] = w4 := ⟨_, rfl⟩; rw [hw4]; have hm4 : w4.heap[w3.heap.size]? = some (.cells #[.slice D cs.length d, .slice D' ws.length d'] 41 (0, 0)) := (by rw [← hw4]; exact row_set (heap_alloc_new w3 _)); have hb4 : Below w3.heap.size w3 w4 := (by rw [← hw4]; exact below_setRow ((Below.refl _ _).alloc (Nat.le_refl _) _) (Nat.le_refl _) _); have HB4 := Lib.hid hb4; have HM4 := Lib.hid hm4; have y1 : w4.cell? ⟨w3.heap.size, 1, none⟩ = some (.slice D' ws.length d') := row_cell hm4 1; clear hw4 hm4 hb4)
          | (at_builtin; refine wpList_add1 (size := 2) (bytes := 24) (base := w1.heap.size) (news := #[.int .i64 a, .string t]) rfl rfl Try.underlying39 info_putL rfl G4.out (OO2.out.fresh_below HB4.out) rfl (by have h1 := OO2.out; have h2 := HB3.out.size; have h3 := HB4.out.size; omega) rfl rfl rfl G2.out G3.out.1 G3.out.2 ?_; intro A3 c3 w5 hown5 hl5 hn5; have hne : Value.ownBlock (.slice D' ws.length d') ≠ some w3.heap.size := (fun e => Nat.lt_irrefl _ (OO2.out.lt _ e).2); have hne2 : Value.ownBlock (.slice D' ws.length d') ≠ some (w.heap.size + 1) := (fun e => by have := (OO2.out.lt _ e).1; have h2 : w.heap.size + 1 < w1.heap.size := row_lt HRA1.out; omega); have r5 := row_left HM4.out hl5 hne; have k0 := row_store (j := 1) (v := .slice A3 (ws.length + 1) c3) r5; have k1 : w5.cell? ⟨w3.heap.size, 1, none⟩ = some (.slice D' ws.length d') := row_cell r5 1; have k2 := row_cold r5 1; have k3 : (w5.setCell ⟨w3.heap.size, 1, none⟩ (.slice A3 (ws.length + 1) c3)).cell? ⟨w3.heap.size, 0, none⟩ = some (.slice D cs.length d) := row_cell k0 0; have k4 : (w5.setCell ⟨w3.heap.size, 1, none⟩ (.slice A3 (ws.length + 1) c3)).cell? ⟨w3.heap.size, 1, none⟩ = some (.slice A3 (ws.length + 1) c3) := row_cell k0 1; have R5 : Hid ((w5.setCell ⟨w3.heap.size, 1, none⟩ (.slice A3 (ws.length + 1) c3)).heap[w.heap.size + 1]? = some (.cells zeroDsk 41 (0, 0))) := row_other (row_left (row_below HRA3.out (row_lt HRA3.out) HB4.out) hl5 hne2) (show w.heap.size + 1 ≠ w3.heap.size by have h1 := row_lt HRA1.out; have h2 := HB3.out.size; omega); have HOW5 := Lib.hid hown5; have HL5 := Lib.hid hl5; have HN5 := Lib.hid hn5; clear r5 k0 hown5 hl5 hn5 hne hne2))
        refine bodyPost_ret (results_cell_tmp_row rfl _ _ (w.heap.size + 1) _ #[.slice D cs.length d, .slice A3 (ws.length + 1) c3] (0, 0) _ rfl (row_set R5.out) Try.underlying41 rfl info_dsk) rfl ?_
        have hz1 : w.heap.size + 1 < w1.heap.size := row_lt HRA1.out
        have hz3 : w1.heap.size ≤ w3.heap.size := HB3.out.size
        have o1 := (((OO1.out.fresh_below HB4.out).apart HL5.out (Apart.symm AP.out)).setOther (p := ⟨w3.heap.size, 1, none⟩) (fun e => Nat.lt_irrefl _ (OO1.out.lt _ e).2) (.slice A3 (ws.length + 1) c3)).setRow hz1 #[.slice D cs.length d, .slice A3 (ws.length + 1) c3]
        have o2 := (HOW5.out.setOther (p := ⟨w3.heap.size, 1, none⟩) (fun e => by
          rcases HN5.out with h | h
          · rw [h] at e; exact Nat.lt_irrefl _ (OO2.out.lt _ e).2
          · have := h _ e; have h4 := row_lt HM4.out; simp only at this; omega) (.slice A3 (ws.length + 1) c3)).setRow hz1 #[.slice D cs.length d, .slice A3 (ws.length + 1) c3]
        refine dkPost_ok F.out F2.out.1 F2.out.2 (own_strs o1) (own_puts (base := w1.heap.size) (xs := ws ++ [⟨a, t⟩]) ?_) ?_
        · rw [List.flatMap_append]
          have e : (ws ++ [(⟨a, t⟩ : PutD)]).length = ws.length + 1 := by simp
          exact o2
        · exact below_setRow ((HL5.out.below (show w.heap.size ≤ w1.heap.size by omega) ((HBA.out.trans (HB1.out.mono HBA.out.size)).trans ((HB3.out.trans (HB4.out.mono HB3.out.size)).mono (by omega)))).setCell (show w.heap.size ≤ w3.heap.size by omega) _) (by omega) _
    · have F := Lib.hid (wrE_put hd hp)
      have F2 := Lib.hid (wr_bad F.out hp)
      have i4 : (putE cs.length a t.size != 0) = true := bne_iff_ne.2 hp
      generalize putE cs.length a t.size = pe at *
      clear hp hd z1 z2 z3
      go_enter Try.func22, Try.ntmps22
      go_wp2_with (first
        | (go_at_call 60; rw [← HWA.out]; refine HC.out.mono ?_; rintro e w1 ⟨rfl, hb1⟩; have hrb1 := row_below HRB.out (row_lt HRB.out) hb1; have q0 : w1.cell? ⟨w.heap.size, 0, none⟩ = some (.slice A cs.length c) := row_cell hrb1 0; have q1 : w1.cell? ⟨w.heap.size, 1, none⟩ = some (.slice A' ws.length c') := row_cell hrb1 1; have q8 := row_lt hrb1; have HRA1 := Lib.hid (row_below HRA.out (row_lt HRA.out) hb1); have HB1 := Lib.hid hb1; clear hrb1 hb1)
        | (go_at_call 61; refine (HP.out _).mono ?_; rintro e w2 ⟨rfl, rfl⟩)
        | (refine wpList_store_rowTo rfl _ _ _ rfl rfl (w.heap.size + 1) zeroDsk rfl rfl 41 zeroDsk HRA1.out info_dsk rfl hone0.out ?_))
      refine bodyPost_ret (results_cell_tmp_row rfl _ _ (w.heap.size + 1) _ zeroDsk (0, 0) _ rfl (row_set HRA1.out) Try.underlying41 rfl info_dsk) rfl ?_
      exact dkPost_bad F.out F2.out (below_setRow (HBA.out.trans (HB1.out.mono HBA.out.size)) (by omega) _)
  · have F := Lib.hid (wrE_dsk (a := a) (t := t) hd)
    have F2 := Lib.hid (wr_bad F.out hd)
    have i4 : (dskE cs ws != 0) = true := bne_iff_ne.2 hd
    generalize dskE cs ws = de at *
    clear hd
    go_enter Try.func22, Try.ntmps22
    go_wp2_with (first
      | (go_at_call 60; rw [← HWA.out]; refine HC.out.mono ?_; rintro e w1 ⟨rfl, hb1⟩; have HRA1 := Lib.hid (row_below HRA.out (row_lt HRA.out) hb1); have HB1 := Lib.hid hb1; clear hb1)
      | (refine wpList_store_rowTo rfl _ _ _ rfl rfl (w.heap.size + 1) zeroDsk rfl rfl 41 zeroDsk HRA1.out info_dsk rfl hone0.out ?_))
    refine bodyPost_ret (results_cell_tmp_row rfl _ _ (w.heap.size + 1) _ zeroDsk (0, 0) _ rfl (row_set HRA1.out) Try.underlying41 rfl info_dsk) rfl ?_
    exact dkPost_bad F.out F2.out (below_setRow (HBA.out.trans (HB1.out.mono HBA.out.size)) (by omega) _)
end Go.Proofs.Ytjmgocfoimhmjaa
