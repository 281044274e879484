/- ops.Until, walked. -/
import Derived.Test.YtjmgocfoimhmjaaUntilP
import Derived.Test.YtjmgocfoimhmjaaPlayW
import Derived.Test.YtjmgocfoimhmjaaCrashW
import Derived.Test.YtjmgocfoimhmjaaStep
namespace Go.Proofs.Ytjmgocfoimhmjaa
open Go.RowKit

theorem calls_dk {f : FuncId} {args : Array Value} {W : World} {E : Int} {X : List ByteArray} {Y : List PutD} (h : Calls Try.prog f args W (DkPost E X Y W)) :
    Calls Try.prog f args W fun e w' => ∃ b : (Option Addr × Nat × Nat) × (Option Addr × Nat × Nat), e = .returned (.tuple #[.agg #[.slice b.1.1 b.1.2.1 b.1.2.2, .slice b.2.1 b.2.2.1 b.2.2.2], .int .i64 E]) ∧ (RowsIn w' w'.heap.size b.1.1 b.1.2.1 b.1.2.2 (fun z => [.string z]) 1 X ∧ RowsIn w' w'.heap.size b.2.1 b.2.2.1 b.2.2.2 PutD.cells 2 Y ∧ Below W.heap.size W w') :=
  h.mono fun _ _ ⟨D, q, d, D', q', d', h1, h2, h3, h4⟩ => ⟨((D, q, d), (D', q', d')), h1, h2, h3, h4⟩

/-- Rows of values that are no slices lie in another block than a row of two slices: a store there. -/
theorem RowsIn.asideC {α : Type} {enc : α → List Value} {k n c B M z : Nat} {A : Option Addr} {xs : List α} {w : World} {t : TypeId} {s1 s2 : Option Addr} {n1 c1 n2 c2 : Nat} (r : RowsIn w B A n c enc k xs)
    (hM : w.heap[M]? = some (.cells #[.slice s1 n1 c1, .slice s2 n2 c2] t (0, 0))) (henc : ∀ (x : α) (j : Nat) (u : Value), (enc x)[j]? = some u → ∀ (A : Option Addr) (n c : Nat), u ≠ Value.slice A n c) (v : Value) : RowsIn (w.setCell ⟨M, z, none⟩ v) B A n c enc k xs :=
  ⟨r.len, r.le, r.top, fun i x hx => by
    obtain ⟨b, o, e, hb, hc⟩ := r.at_ i x hx
    refine ⟨b, o, e, hb, fun j u hu => ?_⟩
    have h1 := hc j u hu
    have hne : b ≠ M := by
      rintro rfl
      rw [row_cell hM] at h1
      match o + i * k + j, h1 with
      | 0, h1 => simp at h1; exact henc x j u hu _ _ _ h1.symm
      | 1, h1 => simp at h1; exact henc x j u hu _ _ _ h1.symm
      | m + 2, h1 => simp at h1
    exact (World.cell?_setCell_other _ _ _ _ (fun e => hne (by injection e with e; exact e.symm))).trans h1⟩
def UnI (t : TypeId) (lo : Nat) (px : List ByteArray) (py : List PutD) (pe : Int) (wa : World) (s10 s11 : Value) (wx : World) : Prop := ∃ M D q d D' q' d', s10 = .pointer (some ⟨M, 0, none⟩) ∧ s11 = .int .i64 pe ∧ lo ≤ M ∧ Hid (wx.heap[M]? = some (.cells #[.slice D q d, .slice D' q' d'] t (0, 0))) ∧ Hid (RowsIn wx wx.heap.size D q d (fun z => [.string z]) 1 px) ∧ Hid (RowsIn wx wx.heap.size D' q' d' PutD.cells 2 py) ∧ Hid (Below wa.heap.size wa wx)
theorem un_new {t : TypeId} {lo : Nat} {px : List ByteArray} {py : List PutD} {pe : Int} {wa w2 : World} {D D' : Option Addr} {q d q' d' : Nat} (r : RowsIn w2 w2.heap.size D q d (fun z => [.string z]) 1 px) (r' : RowsIn w2 w2.heap.size D' q' d' PutD.cells 2 py) (hb : Below wa.drew.heap.size wa.drew w2) (hlo : wa.heap.size = lo) :
    UnI t lo px py pe wa (.pointer (some ⟨w2.heap.size, 0, none⟩)) (.int .i64 pe) (w2.alloc (.cells #[.slice D q d, .slice D' q' d'] t)) :=
  have hb' : Below wa.heap.size wa w2 := (Below.refl _ _).drew.trans hb
  ⟨_, D, q, d, D', q', d', rfl, rfl, by have := hb'.size; omega, heap_alloc_new w2 _, carry_new r _, carry_new r' _, hb'.alloc hb'.size _⟩
theorem un_old {t : TypeId} {lo : Nat} {px : List ByteArray} {py : List PutD} {pe : Int} {wa w2 : World} {o : Obj} {D D' : Option Addr} {q d q' d' : Nat} (hM : w2.heap[wa.heap.size]? = some (.cells zeroDsk t (0, 0))) (r : RowsIn w2 w2.heap.size D q d (fun z => [.string z]) 1 px) (r' : RowsIn w2 w2.heap.size D' q' d' PutD.cells 2 py) (hb : Below (wa.alloc o).drew.heap.size (wa.alloc o).drew w2) (hlo : wa.heap.size = lo) :
    UnI t lo px py pe wa (.pointer (some ⟨wa.heap.size, 0, none⟩)) (.int .i64 pe) ((w2.setCell ⟨wa.heap.size, 0, none⟩ (.slice D q d)).setCell ⟨wa.heap.size, 1, none⟩ (.slice D' q' d')) :=
  have h1 : Below wa.heap.size wa (wa.alloc o).drew := ((Below.refl _ _).alloc (Nat.le_refl _) _).drew
  have hb' : Below wa.heap.size wa w2 := h1.trans (hb.mono h1.size)
  have m1 := row_store (j := 0) (v := .slice D q d) hM
  have m2 := row_store (j := 1) (v := .slice D' q' d') m1
  ⟨_, D, q, d, D', q', d', rfl, rfl, by omega, m2, ((r.asideC hM str_no _).asideC m1 str_no _).more (by simp [World.setCell]), ((r'.asideC hM put_no _).asideC m1 put_no _).more (by simp [World.setCell]), (hb'.setCell (Nat.le_refl _) _).setCell (Nat.le_refl _) _⟩

set_option maxRecDepth 20000 in
set_option maxHeartbeats 2000000 in
theorem until_any (A : Option Addr) (n c : Nat) (cs : List ByteArray) (A' : Option Addr) (n' c' : Nat) (ws : List PutD) (L : Option Addr) (nl cl : Nat) (l : List OpD) (m : Int) (Ak : Option Addr) (nk ck : Nat) (ks : List Bool) (w : World) (r : RowsIn w w.heap.size A n c (fun z => [.string z]) 1 cs) (r' : RowsIn w w.heap.size A' n' c' PutD.cells 2 ws) (rl : RowsIn w w.heap.size L nl cl OpD.cells 3 l) (rk : RowsIn w w.heap.size Ak nk ck (fun z => [.bool z]) 1 ks) (hs : n * 16 ≤ 140737488355328) (hs' : n' * 24 ≤ 140737488355328) :
    Calls Try.prog 30 #[.agg #[.slice A n c, .slice A' n' c'], .slice L nl cl, .int .i64 m, .slice Ak nk ck] w (DkPost (utE cs ws l m) (utX cs ws l m (keepB ks)) [] w) := by
  have hlen := r.len
  subst hlen
  have hlen' := r'.len
  subst hlen'
  have hlenl := rl.len
  subst hlenl
  have htop : l.length ≤ 9223372036854775807 := by have h1 := rl.le; have h2 := rl.top; unfold maxLen at h2; omega
  have hcl := rl.le
  obtain ⟨wa, hwa⟩ : ∃ wa, wa = (w.alloc (.cells #[.slice A cs.length c, .slice A' ws.length c'] 41)).alloc (.cells zeroDsk 41) := ⟨_, rfl⟩
  have hza : wa.heap.size = w.heap.size + 2 := by rw [hwa]; simp
  have hba : Below w.heap.size w wa := by rw [hwa]; exact ((Below.refl _ _).alloc (Nat.le_refl _) _).alloc (by simp) _
  have hra : wa.heap[w.heap.size + 1]? = some (.cells zeroDsk 41 (0, 0)) := by
    rw [hwa]
    have := heap_alloc_new (w.alloc (.cells #[.slice A cs.length c, .slice A' ws.length c'] 41)) (.cells zeroDsk 41)
    rw [show (w.alloc (.cells #[.slice A cs.length c, .slice A' ws.length c'] 41)).heap.size = w.heap.size + 1 by simp] at this
    exact this
  have hrb : wa.heap[w.heap.size]? = some (.cells #[.slice A cs.length c, .slice A' ws.length c'] 41 (0, 0)) := by
    rw [hwa]; exact (heap_alloc_old _ _ (by simp)).trans (heap_alloc_new w _)
  have hle : w.heap.size ≤ wa.heap.size := by omega
  have RA := Lib.hid ((r.below hba).more hle)
  have RA' := Lib.hid ((r'.below hba).more hle)
  have RL := Lib.hid ((rl.below hba).more hle)
  have RK := Lib.hid ((rk.below hba).more hle)
  have hone0 : Hid ((zeroDsk : Array Value).all (·.oneCell') = true) := by simp [Hid, Value.oneCell']
  have hone : Hid (∀ (A A' : Option Addr) (n c n' c' : Nat), ((#[.slice A n c, .slice A' n' c'] : Array Value).all (·.oneCell')) = true) := fun _ _ _ _ _ _ => by simp [Value.oneCell']
  have HRA := Lib.hid hra
  have HRB := Lib.hid hrb
  have HWA := Lib.hid hwa
  have HBA := Lib.hid hba
  have HZA := Lib.hid hza
  clear r r' rl rk hwa hza hba hra hrb hle
  by_cases hm : m < 0
  · have F : Hid (utE cs ws l m = 1) := by unfold utE; exact if_pos hm
    have F2 : Hid (utX cs ws l m (keepB ks) = []) := by unfold utX; rw [F.out]; exact if_neg (by decide)
    go_enter Try.func30, Try.ntmps30
    go_wp2_with (first
      | (rw [← HWA.out]; refine wpList_store_rowTo rfl _ _ _ rfl rfl (w.heap.size + 1) zeroDsk rfl rfl 41 zeroDsk HRA.out info_dsk rfl hone0.out ?_))
    refine bodyPost_ret (results_cell_tmp_row rfl _ _ (w.heap.size + 1) _ zeroDsk (0, 0) _ rfl (row_set HRA.out) Try.underlying41 rfl info_dsk) rfl ?_
    exact dkPost_bad F.out ⟨F2.out, rfl⟩ (below_setRow HBA.out (by omega) _)
  · obtain ⟨mm, rfl⟩ : ∃ mm : Nat, m = mm := ⟨m.toNat, by omega⟩
    have FE : Hid (utE cs ws l mm = plE cs ws (l.take mm)) := by unfold utE; rw [if_neg (by omega), Int.toNat_natCast]; rfl
    by_cases hj : mm ≤ l.length
    · have i1 : ¬ l.length < mm := by omega
      have i2 : (mm : Int) ≤ (cl : Int) := by omega
      have HP : Hid (∀ W, Below wa.heap.size wa W → Calls Try.prog 29 #[.agg #[.slice A cs.length c, .slice A' ws.length c'], .slice L mm cl] W fun e w' => ∃ b : (Option Addr × Nat × Nat) × (Option Addr × Nat × Nat), e = .returned (.tuple #[.agg #[.slice b.1.1 b.1.2.1 b.1.2.2, .slice b.2.1 b.2.2.1 b.2.2.2], .int .i64 (plE cs ws (l.take mm))]) ∧ (RowsIn w' w'.heap.size b.1.1 b.1.2.1 b.1.2.2 (fun z => [.string z]) 1 (plX cs ws (l.take mm)) ∧ RowsIn w' w'.heap.size b.2.1 b.2.2.1 b.2.2.2 PutD.cells 2 (plY cs ws (l.take mm)) ∧ Below W.heap.size W w')) := fun W h => calls_dk (play_any A _ c cs A' _ c' ws L mm cl (l.take mm) W ((RA.out.below h).more h.size) ((RA'.out.below h).more h.size) (((RL.out.pre hj).below h).more h.size) hs hs')
      have HXR := Lib.hid (fun h => plE_right (cs := cs) (ws := ws) (l := l.take mm) h)
      have FX : Hid (plE cs ws (l.take mm) = 0 → utX cs ws l mm (keepB ks) = landL (keepB ks) (plX cs ws (l.take mm)) (plY cs ws (l.take mm))) := fun h => by unfold utX; rw [if_pos (FE.out.trans h), Int.toNat_natCast]
      have FB : Hid (plE cs ws (l.take mm) ≠ 0 → utX cs ws l mm (keepB ks) = []) := fun h => by unfold utX; rw [if_neg (fun e => h (FE.out.symm.trans e))]
      generalize plE cs ws (l.take mm) = pe at *
      generalize plX cs ws (l.take mm) = px at *
      generalize plY cs ws (l.take mm) = py at *
      clear hm hs hs'
      go_enter Try.func30, Try.ntmps30
      go_wp2
      rw [← HWA.out]
      have v0 : wa.cell? ⟨w.heap.size, 0, none⟩ = some (.slice A cs.length c) := row_cell HRB.out 0
      have v1 : wa.cell? ⟨w.heap.size, 1, none⟩ = some (.slice A' ws.length c') := row_cell HRB.out 1
      have HBZ : Hid (Below wa.heap.size wa (wa.alloc (.cells zeroDsk 41)).drew) := ((Below.refl _ _).alloc (Nat.le_refl _) _).drew
      have HZZ : Hid (wa.heap.size < (wa.alloc (.cells zeroDsk 41)).drew.heap.size) := by simp only [Hid]; show wa.heap.size < (wa.alloc (.cells zeroDsk 41)).heap.size; simp
      have hz0 : w.heap.size < wa.heap.size := row_lt HRB.out
      have v2 : (wa.alloc (.cells zeroDsk 41)).cell? ⟨w.heap.size, 0, none⟩ = some (.slice A cs.length c) := (World.cell?_alloc_lt _ _ _ hz0).trans v0
      have v3 : (wa.alloc (.cells zeroDsk 41)).cell? ⟨w.heap.size, 1, none⟩ = some (.slice A' ws.length c') := (World.cell?_alloc_lt _ _ _ hz0).trans v1
      go_cut [10, 11] (fun s10 s11 wx => UnI 41 (w.heap.size + 2) px py pe wa s10 s11 wx)
      case first =>
        go_region_law (first
          | (refine step_enterc rfl 29 rfl #[.agg #[.slice A cs.length c, .slice A' ws.length c'], .slice L mm cl] (fun b : (Option Addr × Nat × Nat) × (Option Addr × Nat × Nat) => Value.tuple #[.agg #[.slice b.1.1 b.1.2.1 b.1.2.2, .slice b.2.1 b.2.2.1 b.2.2.2], .int .i64 pe]) (by simp [go_sem]) (HP.out wa.drew (Below.refl _ _).drew) ?_; rintro ⟨⟨D, q, d⟩, ⟨D', q', d'⟩⟩ w2 ⟨r2, r2', hb2⟩; have hnew := heap_alloc_new w2 (.cells zeroDsk 41); have u0 : (w2.alloc (.cells zeroDsk 41)).cell? ⟨w2.heap.size, 0, none⟩ = some (.slice none 0 0) := row_cell hnew 0; have u1 : (w2.alloc (.cells zeroDsk 41)).cell? ⟨w2.heap.size, 1, none⟩ = some (.slice none 0 0) := row_cell hnew 1; have u2 := row_cold hnew 0; have u3 := row_cold hnew 1)
          | (refine step_enterc rfl 29 rfl #[.agg #[.slice A cs.length c, .slice A' ws.length c'], .slice L mm cl] (fun b : (Option Addr × Nat × Nat) × (Option Addr × Nat × Nat) => Value.tuple #[.agg #[.slice b.1.1 b.1.2.1 b.1.2.2, .slice b.2.1 b.2.2.1 b.2.2.2], .int .i64 pe]) (by simp [go_sem]) (HP.out (wa.alloc (.cells zeroDsk 41)).drew HBZ.out) ?_; rintro ⟨⟨D, q, d⟩, ⟨D', q', d'⟩⟩ w2 ⟨r2, r2', hb2⟩; have hM := row_below (w := (wa.alloc (.cells zeroDsk 41)).drew) (heap_alloc_new wa _) HZZ.out hb2; have u0 : w2.cell? ⟨wa.heap.size, 0, none⟩ = some (.slice none 0 0) := row_cell hM 0; have u1 : w2.cell? ⟨wa.heap.size, 1, none⟩ = some (.slice none 0 0) := row_cell hM 1; have u2 := row_cold hM 0; have u3 := row_cold hM 1))
        all_goals
          go_wp2_with fail
          go_meet
          case rel => first | exact un_new r2 r2' hb2 HZA.out | exact un_old hM r2 r2' hb2 HZA.out
      case rest =>
        obtain ⟨M, D, q, d, D', q', d', rfl, rfl, hlo, HM, HR, HR', HB⟩ := hcut
        obtain ⟨w3, rfl⟩ : ∃ z : World, z = wc := ⟨_, rfl⟩
        have HRA3 := Lib.hid (row_below HRA.out (row_lt HRA.out) HB.out)
        clear v0 v1 v2 v3
        by_cases hpe : pe = 0
        · subst hpe
          have hr0 := HXR.out rfl
          have hX : syncX (keepB ks) px py = landL (keepB ks) px py := by unfold syncX; rw [if_pos hr0]
          have m0 : w3.cell? ⟨M, 0, none⟩ = some (.slice D q d) := row_cell HM.out 0
          have m1 : w3.cell? ⟨M, 1, none⟩ = some (.slice D' q' d') := row_cell HM.out 1
          have HCR := Lib.hid (crash_any Ak nk ck ks D q d px D' q' d' py w3 HR.out HR'.out ((RK.out.below HB.out).more HB.out.size))
          unfold SyPost at HCR
          rw [hX, hr0] at HCR
          have FX0 := Lib.hid (FX.out rfl)
          clear hX hr0 FX FB HXR
          go_wp2_with (first
            | (go_at_call 69; refine HCR.out.mono ?_; rintro e w5 ⟨D5, q5, d5, rfl, r5, hb5⟩; have HRA5 := Lib.hid (row_below HRA3.out (row_lt HRA3.out) hb5); have R5 := Lib.hid r5; have HB5 := Lib.hid hb5; clear r5 hb5)
            | (refine wpList_store_rowTo rfl _ _ _ rfl rfl (w.heap.size + 1) #[.slice D5 q5 d5, .slice none 0 0] rfl rfl 41 zeroDsk HRA5.out info_dsk rfl (hone.out _ _ _ _ _ _) ?_))
          refine bodyPost_ret (results_cell_tmp_row rfl _ _ (w.heap.size + 1) _ #[.slice D5 q5 d5, .slice none 0 0] (0, 0) _ rfl (row_set HRA5.out) Try.underlying41 rfl info_dsk) rfl ?_
          exact dkPost_ok FE.out FX0.out rfl ((R5.out.aside HRA5.out str_no _).more (by simp)) (no_puts2 _ _) (below_setRow (HBA.out.trans ((HB.out.trans (HB5.out.mono HB.out.size)).mono HBA.out.size)) (by omega) _)
        · have i9 : (pe != 0) = true := bne_iff_ne.2 hpe
          have F2 := Lib.hid (FB.out hpe)
          clear hpe FX FB HXR
          go_wp2_with (refine wpList_store_rowTo rfl _ _ _ rfl rfl (w.heap.size + 1) zeroDsk rfl rfl 41 zeroDsk HRA3.out info_dsk rfl hone0.out ?_)
          refine bodyPost_ret (results_cell_tmp_row rfl _ _ (w.heap.size + 1) _ zeroDsk (0, 0) _ rfl (row_set HRA3.out) Try.underlying41 rfl info_dsk) rfl ?_
          exact dkPost_bad FE.out ⟨F2.out, rfl⟩ (below_setRow (HBA.out.trans (HB.out.mono HBA.out.size)) (by omega) _)
    · have i1 : l.length < mm := by omega
      have i2 : (l.length : Int) ≤ (cl : Int) := by omega
      have htk : l.take mm = l := List.take_of_length_le (by omega)
      rw [htk] at FE
      have HP : Hid (∀ W, Below wa.heap.size wa W → Calls Try.prog 29 #[.agg #[.slice A cs.length c, .slice A' ws.length c'], .slice L l.length cl] W fun e w' => ∃ b : (Option Addr × Nat × Nat) × (Option Addr × Nat × Nat), e = .returned (.tuple #[.agg #[.slice b.1.1 b.1.2.1 b.1.2.2, .slice b.2.1 b.2.2.1 b.2.2.2], .int .i64 (plE cs ws l)]) ∧ (RowsIn w' w'.heap.size b.1.1 b.1.2.1 b.1.2.2 (fun z => [.string z]) 1 (plX cs ws l) ∧ RowsIn w' w'.heap.size b.2.1 b.2.2.1 b.2.2.2 PutD.cells 2 (plY cs ws l) ∧ Below W.heap.size W w')) := fun W h => calls_dk (play_any A _ c cs A' _ c' ws L l.length cl l W ((RA.out.below h).more h.size) ((RA'.out.below h).more h.size) ((RL.out.below h).more h.size) hs hs')
      have HXR := Lib.hid (fun h => plE_right (cs := cs) (ws := ws) (l := l) h)
      have FX : Hid (plE cs ws l = 0 → utX cs ws l mm (keepB ks) = landL (keepB ks) (plX cs ws l) (plY cs ws l)) := fun h => by unfold utX; rw [if_pos (FE.out.trans h), Int.toNat_natCast, htk]
      have FB : Hid (plE cs ws l ≠ 0 → utX cs ws l mm (keepB ks) = []) := fun h => by unfold utX; rw [if_neg (fun e => h (FE.out.symm.trans e))]
      generalize plE cs ws l = pe at *
      generalize plX cs ws l = px at *
      generalize plY cs ws l = py at *
      clear hm hs hs'
      go_enter Try.func30, Try.ntmps30
      go_wp2
      rw [← HWA.out]
      have v0 : wa.cell? ⟨w.heap.size, 0, none⟩ = some (.slice A cs.length c) := row_cell HRB.out 0
      have v1 : wa.cell? ⟨w.heap.size, 1, none⟩ = some (.slice A' ws.length c') := row_cell HRB.out 1
      have HBZ : Hid (Below wa.heap.size wa (wa.alloc (.cells zeroDsk 41)).drew) := ((Below.refl _ _).alloc (Nat.le_refl _) _).drew
      have HZZ : Hid (wa.heap.size < (wa.alloc (.cells zeroDsk 41)).drew.heap.size) := by simp only [Hid]; show wa.heap.size < (wa.alloc (.cells zeroDsk 41)).heap.size; simp
      have hz0 : w.heap.size < wa.heap.size := row_lt HRB.out
      have v2 : (wa.alloc (.cells zeroDsk 41)).cell? ⟨w.heap.size, 0, none⟩ = some (.slice A cs.length c) := (World.cell?_alloc_lt _ _ _ hz0).trans v0
      have v3 : (wa.alloc (.cells zeroDsk 41)).cell? ⟨w.heap.size, 1, none⟩ = some (.slice A' ws.length c') := (World.cell?_alloc_lt _ _ _ hz0).trans v1
      go_cut [10, 11] (fun s10 s11 wx => UnI 41 (w.heap.size + 2) px py pe wa s10 s11 wx)
      case first =>
        go_region_law (first
          | (refine step_enterc rfl 29 rfl #[.agg #[.slice A cs.length c, .slice A' ws.length c'], .slice L l.length cl] (fun b : (Option Addr × Nat × Nat) × (Option Addr × Nat × Nat) => Value.tuple #[.agg #[.slice b.1.1 b.1.2.1 b.1.2.2, .slice b.2.1 b.2.2.1 b.2.2.2], .int .i64 pe]) (by simp [go_sem]) (HP.out wa.drew (Below.refl _ _).drew) ?_; rintro ⟨⟨D, q, d⟩, ⟨D', q', d'⟩⟩ w2 ⟨r2, r2', hb2⟩; have hnew := heap_alloc_new w2 (.cells zeroDsk 41); have u0 : (w2.alloc (.cells zeroDsk 41)).cell? ⟨w2.heap.size, 0, none⟩ = some (.slice none 0 0) := row_cell hnew 0; have u1 : (w2.alloc (.cells zeroDsk 41)).cell? ⟨w2.heap.size, 1, none⟩ = some (.slice none 0 0) := row_cell hnew 1; have u2 := row_cold hnew 0; have u3 := row_cold hnew 1)
          | (refine step_enterc rfl 29 rfl #[.agg #[.slice A cs.length c, .slice A' ws.length c'], .slice L l.length cl] (fun b : (Option Addr × Nat × Nat) × (Option Addr × Nat × Nat) => Value.tuple #[.agg #[.slice b.1.1 b.1.2.1 b.1.2.2, .slice b.2.1 b.2.2.1 b.2.2.2], .int .i64 pe]) (by simp [go_sem]) (HP.out (wa.alloc (.cells zeroDsk 41)).drew HBZ.out) ?_; rintro ⟨⟨D, q, d⟩, ⟨D', q', d'⟩⟩ w2 ⟨r2, r2', hb2⟩; have hM := row_below (w := (wa.alloc (.cells zeroDsk 41)).drew) (heap_alloc_new wa _) HZZ.out hb2; have u0 : w2.cell? ⟨wa.heap.size, 0, none⟩ = some (.slice none 0 0) := row_cell hM 0; have u1 : w2.cell? ⟨wa.heap.size, 1, none⟩ = some (.slice none 0 0) := row_cell hM 1; have u2 := row_cold hM 0; have u3 := row_cold hM 1))
        all_goals
          go_wp2_with fail
          go_meet
          case rel => first | exact un_new r2 r2' hb2 HZA.out | exact un_old hM r2 r2' hb2 HZA.out
      case rest =>
        obtain ⟨M, D, q, d, D', q', d', rfl, rfl, hlo, HM, HR, HR', HB⟩ := hcut
        obtain ⟨w3, rfl⟩ : ∃ z : World, z = wc := ⟨_, rfl⟩
        have HRA3 := Lib.hid (row_below HRA.out (row_lt HRA.out) HB.out)
        clear v0 v1 v2 v3
        by_cases hpe : pe = 0
        · subst hpe
          have hr0 := HXR.out rfl
          have hX : syncX (keepB ks) px py = landL (keepB ks) px py := by unfold syncX; rw [if_pos hr0]
          have m0 : w3.cell? ⟨M, 0, none⟩ = some (.slice D q d) := row_cell HM.out 0
          have m1 : w3.cell? ⟨M, 1, none⟩ = some (.slice D' q' d') := row_cell HM.out 1
          have HCR := Lib.hid (crash_any Ak nk ck ks D q d px D' q' d' py w3 HR.out HR'.out ((RK.out.below HB.out).more HB.out.size))
          unfold SyPost at HCR
          rw [hX, hr0] at HCR
          have FX0 := Lib.hid (FX.out rfl)
          clear hX hr0 FX FB HXR
          go_wp2_with (first
            | (go_at_call 69; refine HCR.out.mono ?_; rintro e w5 ⟨D5, q5, d5, rfl, r5, hb5⟩; have HRA5 := Lib.hid (row_below HRA3.out (row_lt HRA3.out) hb5); have R5 := Lib.hid r5; have HB5 := Lib.hid hb5; clear r5 hb5)
            | (refine wpList_store_rowTo rfl _ _ _ rfl rfl (w.heap.size + 1) #[.slice D5 q5 d5, .slice none 0 0] rfl rfl 41 zeroDsk HRA5.out info_dsk rfl (hone.out _ _ _ _ _ _) ?_))
          refine bodyPost_ret (results_cell_tmp_row rfl _ _ (w.heap.size + 1) _ #[.slice D5 q5 d5, .slice none 0 0] (0, 0) _ rfl (row_set HRA5.out) Try.underlying41 rfl info_dsk) rfl ?_
          exact dkPost_ok FE.out FX0.out rfl ((R5.out.aside HRA5.out str_no _).more (by simp)) (no_puts2 _ _) (below_setRow (HBA.out.trans ((HB.out.trans (HB5.out.mono HB.out.size)).mono HBA.out.size)) (by omega) _)
        · have i9 : (pe != 0) = true := bne_iff_ne.2 hpe
          have F2 := Lib.hid (FB.out hpe)
          clear hpe FX FB HXR
          go_wp2_with (refine wpList_store_rowTo rfl _ _ _ rfl rfl (w.heap.size + 1) zeroDsk rfl rfl 41 zeroDsk HRA3.out info_dsk rfl hone0.out ?_)
          refine bodyPost_ret (results_cell_tmp_row rfl _ _ (w.heap.size + 1) _ zeroDsk (0, 0) _ rfl (row_set HRA3.out) Try.underlying41 rfl info_dsk) rfl ?_
          exact dkPost_bad FE.out ⟨F2.out, rfl⟩ (below_setRow (HBA.out.trans (HB.out.mono HBA.out.size)) (by omega) _)
end Go.Proofs.Ytjmgocfoimhmjaa
