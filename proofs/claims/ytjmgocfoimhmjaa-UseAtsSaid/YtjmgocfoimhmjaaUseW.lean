/- use.Blob, linenref.At and use.At, walked. -/
import Derived.Test.YtjmgocfoimhmjaaScW
import Derived.Test.YtjmgocfoimhmjaaDiskW
import Derived.Deep.DeepCutAuto
namespace Go.Proofs.Ytjmgocfoimhmjaa
open Go.RowKit

abbrev zeroBlR : Array Value := #[.int .i64 0, .int .i64 0, .int .i64 0, .string ⟨#[]⟩]
theorem info_blU : (Try.prog.info? 71).map (·.size) = some 4 := by kernel_rfl
def BlobD.row (b : BlobD) : Array Value := #[.int .i64 b.Kind, .int .i64 b.Ino, .int .i64 b.Nth, .string b.Text]
def UbPost (E : Int) (b : BlobD) (w : World) (e : Ending) (w' : World) : Prop := e = .returned (.tuple #[.agg #[.int .i64 b.Kind, .int .i64 b.Ino, .int .i64 b.Nth, .string b.Text], .int .i64 E]) ∧ Below w.heap.size w w'
theorem ubPost_bad {E k : Int} {b : BlobD} {w w' : World} (h : E = k) (hb : b = zeroBlob) (hw : Below w.heap.size w w') : UbPost E b w (.returned (.tuple #[.agg zeroBlR, .int .i64 k])) w' := ⟨by rw [h, hb]; rfl, hw⟩
theorem blobCells {w : World} {B n c : Nat} {A : Option Addr} {l : List BlobD} (r : RowsIn w B A n c BlobD.cells 4 l) {i : Nat} {p : BlobD} (h : l[i]? = some p) : ∃ b o, A = some ⟨b, o, none⟩ ∧ b < B ∧ w.cell? ⟨b, o + i * 4, none⟩ = some (.int .i64 p.Kind) ∧ w.cell? ⟨b, o + i * 4 + 1, none⟩ = some (.int .i64 p.Ino) ∧ w.cell? ⟨b, o + i * 4 + 2, none⟩ = some (.int .i64 p.Nth) ∧ w.cell? ⟨b, o + i * 4 + 3, none⟩ = some (.string p.Text) := by
  obtain ⟨b, o, e, hb, hc⟩ := r.at_ i p h
  exact ⟨b, o, e, hb, hc 0 _ rfl, hc 1 _ rfl, hc 2 _ rfl, hc 3 _ rfl⟩
theorem new3 (w : World) (o1 o2 o3 : Obj) : (((w.alloc o1).alloc o2).alloc o3).heap[w.heap.size]? = some o1 ∧ (((w.alloc o1).alloc o2).alloc o3).heap[w.heap.size + 1]? = some o2 ∧ (((w.alloc o1).alloc o2).alloc o3).heap[w.heap.size + 2]? = some o3 := by
  refine ⟨(heap_alloc_old _ _ (by simp; omega)).trans ((heap_alloc_old _ _ (by simp)).trans (heap_alloc_new w _)), ?_, ?_⟩
  · have := heap_alloc_new (w.alloc o1) o2
    rw [show (w.alloc o1).heap.size = w.heap.size + 1 by simp] at this
    exact (heap_alloc_old _ _ (by simp)).trans this
  · have := heap_alloc_new ((w.alloc o1).alloc o2) o3
    rw [show ((w.alloc o1).alloc o2).heap.size = w.heap.size + 2 by simp] at this
    exact this

set_option maxRecDepth 20000 in
set_option maxHeartbeats 2000000 in
theorem useb_any (A : Option Addr) (n c : Nat) (cs : List ByteArray) (A' : Option Addr) (n' c' : Nat) (ws : List PutD) (pc pn : Int) (w : World) (r : RowsIn w w.heap.size A n c (fun z => [.string z]) 1 cs) (r' : RowsIn w w.heap.size A' n' c' PutD.cells 2 ws) (hws : ws.length ≤ 400) :
    Calls Try.prog 74 #[.agg #[.slice A n c, .slice A' n' c'], .agg #[.int .i64 pc, .int .i64 pn]] w (UbPost (ubE cs ws pc pn) (ubB cs ws pc pn) w) := by
  have hlen := r.len
  subst hlen
  have hlen' := r'.len
  subst hlen'
  obtain ⟨wa, hwa⟩ : ∃ wa, wa = ((w.alloc (.cells #[.slice A cs.length c, .slice A' ws.length c'] 41)).alloc (.cells #[.int .i64 pc, .int .i64 pn] 27)).alloc (.cells zeroBlR 71) := ⟨_, rfl⟩
  have hza : wa.heap.size = w.heap.size + 3 := by rw [hwa]; simp
  have hba : Below w.heap.size w wa := by rw [hwa]; exact (((Below.refl _ _).alloc (Nat.le_refl _) _).alloc (by simp) _).alloc (by simp; omega) _
  obtain ⟨hrb, hrp, hra⟩ := new3 w (.cells #[.slice A cs.length c, .slice A' ws.length c'] 41) (.cells #[.int .i64 pc, .int .i64 pn] 27) (.cells zeroBlR 71)
  rw [← hwa] at hrb hrp hra
  have hle : w.heap.size ≤ wa.heap.size := by omega
  have RA := Lib.hid ((r.below hba).more hle)
  have RA' := Lib.hid ((r'.below hba).more hle)
  have hone0 : Hid ((zeroBlR : Array Value).all (·.oneCell') = true) := by simp [Hid, Value.oneCell']
  have HC : Hid (∀ W, Below wa.heap.size wa W → W.cell? ⟨w.heap.size, 0, none⟩ = some (.slice A cs.length c) ∧ W.cell? ⟨w.heap.size, 1, none⟩ = some (.slice A' ws.length c') ∧ W.cell? ⟨w.heap.size + 1, 0, none⟩ = some (.int .i64 pc) ∧ W.cell? ⟨w.heap.size + 1, 1, none⟩ = some (.int .i64 pn) ∧ Hid (W.heap[w.heap.size + 1 + 1]? = some (.cells zeroBlR 71 (0, 0)))) := fun W h => by
    have q0 := row_below hrb (row_lt hrb) h
    have q1 := row_below hrp (row_lt hrp) h
    exact ⟨row_cell q0 0, row_cell q0 1, row_cell q1 0, row_cell q1 1, row_below hra (row_lt hra) h⟩
  have HWA := Lib.hid hwa
  have HBA := Lib.hid hba
  have HZA := Lib.hid hza
  clear r r' hwa hba hra hrp hrb hza hle
  by_cases ho : pc < 2 ∨ (cs.length : Int) ≤ pc ∨ pn < 0
  · have F := Lib.hid (ub_out (ws := ws) ho)
    have F2 := Lib.hid (ub_zero F.out (by decide))
    obtain ⟨u0, u1, u2, u3, u4⟩ := HC.out wa (Below.refl _ _)
    rcases (show pc < 2 ∨ (2 ≤ pc ∧ (cs.length : Int) ≤ pc) ∨ (2 ≤ pc ∧ pc < (cs.length : Int) ∧ pn < 0) by omega) with h | ⟨h, h'⟩ | ⟨h, h', h2⟩ <;> clear ho
    all_goals
      go_enter Try.func74, Try.ntmps74
      go_upto_region 1 with fail
      rw [← HWA.out]
      go_wp2_with (refine wpList_store_rowTo rfl _ _ _ rfl rfl (w.heap.size + 1 + 1) zeroBlR rfl rfl 71 zeroBlR u4.out info_blU rfl hone0.out ?_)
      refine bodyPost_ret (results_cell_tmp_row rfl _ _ (w.heap.size + 1 + 1) _ zeroBlR (0, 0) _ rfl (row_set u4.out) Try.underlying71 rfl info_blU) rfl ?_
      exact ubPost_bad F.out F2.out (below_setRow HBA.out (by omega) _)
  · obtain ⟨k, rfl⟩ : ∃ k : Nat, pc = k := ⟨pc.toNat, by omega⟩
    obtain ⟨j, rfl⟩ : ∃ j : Nat, pn = j := ⟨pn.toNat, by omega⟩
    have hk : k < cs.length := by omega
    have hk2 : 2 ≤ k := by omega
    have HSC : Hid (∀ W, Below wa.heap.size wa W → Calls Try.prog 79 #[.agg #[.slice A cs.length c, .slice A' ws.length c'], .int .i64 k] W (ScPost (nowS cs ws k) W)) := fun W h => scell_any A _ c cs A' _ c' ws k W ((RA.out.below h).more h.size) ((RA'.out.below h).more h.size) hk hws
    unfold ScPost at HSC
    have hcase : (scO (nowS cs ws k) = false ∧ ubE cs ws k j = 18) ∨ (scO (nowS cs ws k) = true ∧ (scL (nowS cs ws k)).length ≤ j ∧ ubE cs ws k j = 12) ∨ (scO (nowS cs ws k) = true ∧ j < (scL (nowS cs ws k)).length ∧ ubE cs ws k j = 0 ∧ ubB cs ws k j = (scL (nowS cs ws k)).getD j zeroBlob) := by
      by_cases h1 : scO (nowS cs ws k) = true
      · by_cases h2 : (scL (nowS cs ws k)).length ≤ j
        · exact .inr (.inl ⟨h1, h2, ub_none ho h1 (by omega)⟩)
        · have := ub_ok ho h1 (by omega)
          rw [Int.toNat_natCast] at this
          exact .inr (.inr ⟨h1, by omega, this⟩)
      · have h1' : scO (nowS cs ws k) = false := by cases h : scO (nowS cs ws k); rfl; exact absurd h h1
        exact .inl ⟨h1', ub_corrupt ho h1'⟩
    have HUZ := Lib.hid (fun (e : Int) h h0 => ub_zero (cs := cs) (ws := ws) (pc := (k : Int)) (pn := (j : Int)) (e := e) h h0)
    generalize scO (nowS cs ws k) = so at *
    generalize scN (nowS cs ws k) = sn at *
    generalize scB (nowS cs ws k) = sb at *
    generalize scL (nowS cs ws k) = l at *
    generalize ubE cs ws k j = UE at *
    generalize ubB cs ws k j = UB at *
    have i1 : (k : Int) < (cs.length : Int) := by omega
    have i2 : ¬ (k : Int) < 2 := by omega
    have i3 : (2 : Int) ≤ (k : Int) := by omega
    obtain ⟨u0, u1, u2, u3, u4⟩ := HC.out wa (Below.refl _ _)
    clear ho hk hk2
    rcases hcase with ⟨rfl, e1⟩ | ⟨rfl, h2, e1⟩ | ⟨rfl, h2, e1, e2⟩
    · have F := Lib.hid e1
      have F2 := Lib.hid (HUZ.out _ e1 (by decide))
      clear e1 HUZ
      go_enter Try.func74, Try.ntmps74
      go_upto_region 1 with fail
      rw [← HWA.out]
      go_wp2_with (first
        | (go_at_call 79; refine (HSC.out _ (Below.refl _ _)).mono ?_; rintro e w1 ⟨D, q, d, rfl, r1, hb1⟩; obtain ⟨v0, v1, v2, v3, v4⟩ := HC.out w1 hb1; have HB1 := Lib.hid hb1; clear hb1)
        | (refine wpList_store_rowTo rfl _ _ _ rfl rfl (w.heap.size + 1 + 1) zeroBlR rfl rfl 71 zeroBlR v4.out info_blU rfl hone0.out ?_))
      refine bodyPost_ret (results_cell_tmp_row rfl _ _ (w.heap.size + 1 + 1) _ zeroBlR (0, 0) _ rfl (row_set v4.out) Try.underlying71 rfl info_blU) rfl ?_
      exact ubPost_bad F.out F2.out (below_setRow (HBA.out.trans (HB1.out.mono HBA.out.size)) (by omega) _)
    · have F := Lib.hid e1
      have F2 := Lib.hid (HUZ.out _ e1 (by decide))
      have i4 : (l.length : Int) ≤ (j : Int) := by omega
      clear e1 HUZ
      go_enter Try.func74, Try.ntmps74
      go_upto_region 1 with fail
      rw [← HWA.out]
      go_wp2_with (first
        | (go_at_call 79; refine (HSC.out _ (Below.refl _ _)).mono ?_; rintro e w1 ⟨D, q, d, rfl, r1, hb1⟩; obtain ⟨v0, v1, v2, v3, v4⟩ := HC.out w1 hb1; have HB1 := Lib.hid hb1; have hq := r1.len; subst hq; clear hb1)
        | (refine wpList_store_rowTo rfl _ _ _ rfl rfl (w.heap.size + 1 + 1) zeroBlR rfl rfl 71 zeroBlR v4.out info_blU rfl hone0.out ?_))
      refine bodyPost_ret (results_cell_tmp_row rfl _ _ (w.heap.size + 1 + 1) _ zeroBlR (0, 0) _ rfl (row_set v4.out) Try.underlying71 rfl info_blU) rfl ?_
      exact ubPost_bad F.out F2.out (below_setRow (HBA.out.trans (HB1.out.mono HBA.out.size)) (by omega) _)
    · obtain ⟨x, hx⟩ : ∃ x, l[j]? = some x := ⟨_, List.getElem?_eq_getElem h2⟩
      have e3 : l.getD j zeroBlob = x := by rw [List.getD_eq_getElem?_getD, hx]; rfl
      have F := Lib.hid e1
      have F2 := Lib.hid (e2.trans e3)
      have HX := Lib.hid hx
      have i4 : (j : Int) < (l.length : Int) := by omega
      have hone : Hid ((#[.int .i64 x.Kind, .int .i64 x.Ino, .int .i64 x.Nth, .string x.Text] : Array Value).all (·.oneCell') = true) := by simp [Hid, Value.oneCell']
      clear e1 e2 e3 HUZ hx h2
      go_enter Try.func74, Try.ntmps74
      go_upto_region 1 with fail
      rw [← HWA.out]
      go_wp2_with (first
        | (go_at_call 79; refine (HSC.out _ (Below.refl _ _)).mono ?_; rintro e w1 ⟨D, q, d, rfl, r1, hb1⟩; obtain ⟨v0, v1, v2, v3, v4⟩ := HC.out w1 hb1; have HB1 := Lib.hid hb1; have hq := r1.len; subst hq; obtain ⟨b, o, rfl, hbB, k0, k1, k2, k3⟩ := blobCells r1 HX.out; clear hb1)
        | (refine wpList_store_rowTo rfl _ _ _ rfl rfl (w.heap.size + 1 + 1) #[.int .i64 x.Kind, .int .i64 x.Ino, .int .i64 x.Nth, .string x.Text] rfl rfl 71 zeroBlR v4.out info_blU rfl hone.out ?_))
      refine bodyPost_ret (results_cell_tmp_row rfl _ _ (w.heap.size + 1 + 1) _ #[.int .i64 x.Kind, .int .i64 x.Ino, .int .i64 x.Nth, .string x.Text] (0, 0) _ rfl (row_set v4.out) Try.underlying71 rfl info_blU) rfl ?_
      exact ⟨by rw [F.out, F2.out] <;> rfl, below_setRow (HBA.out.trans (HB1.out.mono HBA.out.size)) (by omega) _⟩

set_option maxRecDepth 20000 in
set_option maxHeartbeats 2000000 in
theorem atr_any (A : Option Addr) (n c : Nat) (cs : List ByteArray) (A' : Option Addr) (n' c' : Nat) (ws : List PutD) (pc pn : Int) (w : World) (r : RowsIn w w.heap.size A n c (fun z => [.string z]) 1 cs) (r' : RowsIn w w.heap.size A' n' c' PutD.cells 2 ws) (hws : ws.length ≤ 400) :
    Calls Try.prog 41 #[.agg #[.slice A n c, .slice A' n' c'], .agg #[.int .i64 pc, .int .i64 pn]] w (UbPost (ubE cs ws pc pn) (ubB cs ws pc pn) w) := by
  have hlen := r.len
  subst hlen
  have hlen' := r'.len
  subst hlen'
  obtain ⟨wa, hwa⟩ : ∃ wa, wa = ((w.alloc (.cells #[.slice A cs.length c, .slice A' ws.length c'] 41)).alloc (.cells #[.int .i64 pc, .int .i64 pn] 27)).alloc (.cells zeroBlR 71) := ⟨_, rfl⟩
  have hza : wa.heap.size = w.heap.size + 3 := by rw [hwa]; simp
  have hba : Below w.heap.size w wa := by rw [hwa]; exact (((Below.refl _ _).alloc (Nat.le_refl _) _).alloc (by simp) _).alloc (by simp; omega) _
  obtain ⟨hrb, hrp, hra⟩ := new3 w (.cells #[.slice A cs.length c, .slice A' ws.length c'] 41) (.cells #[.int .i64 pc, .int .i64 pn] 27) (.cells zeroBlR 71)
  rw [← hwa] at hrb hrp hra
  have hle : w.heap.size ≤ wa.heap.size := by omega
  have RA := Lib.hid ((r.below hba).more hle)
  have RA' := Lib.hid ((r'.below hba).more hle)
  have hone0 : Hid ((zeroBlR : Array Value).all (·.oneCell') = true) := by simp [Hid, Value.oneCell']
  have HC : Hid (∀ W, Below wa.heap.size wa W → W.cell? ⟨w.heap.size, 0, none⟩ = some (.slice A cs.length c) ∧ W.cell? ⟨w.heap.size, 1, none⟩ = some (.slice A' ws.length c') ∧ W.cell? ⟨w.heap.size + 1, 0, none⟩ = some (.int .i64 pc) ∧ W.cell? ⟨w.heap.size + 1, 1, none⟩ = some (.int .i64 pn) ∧ Hid (W.heap[w.heap.size + 1 + 1]? = some (.cells zeroBlR 71 (0, 0)))) := fun W h => by
    have q0 := row_below hrb (row_lt hrb) h
    have q1 := row_below hrp (row_lt hrp) h
    exact ⟨row_cell q0 0, row_cell q0 1, row_cell q1 0, row_cell q1 1, row_below hra (row_lt hra) h⟩
  have HWA := Lib.hid hwa
  have HBA := Lib.hid hba
  have HZA := Lib.hid hza
  clear r r' hwa hba hra hrp hrb hza hle
  by_cases ho : pc < 2 ∨ (cs.length : Int) ≤ pc ∨ pn < 0
  · have F := Lib.hid (ub_out (ws := ws) ho)
    have F2 := Lib.hid (ub_zero F.out (by decide))
    obtain ⟨u0, u1, u2, u3, u4⟩ := HC.out wa (Below.refl _ _)
    rcases (show pc < 2 ∨ (2 ≤ pc ∧ (cs.length : Int) ≤ pc) ∨ (2 ≤ pc ∧ pc < (cs.length : Int) ∧ pn < 0) by omega) with h | ⟨h, h'⟩ | ⟨h, h', h2⟩ <;> clear ho
    all_goals
      go_enter Try.func41, Try.ntmps41
      go_upto_region 1 with fail
      rw [← HWA.out]
      go_wp2_with (refine wpList_store_rowTo rfl _ _ _ rfl rfl (w.heap.size + 1 + 1) zeroBlR rfl rfl 71 zeroBlR u4.out info_blU rfl hone0.out ?_)
      refine bodyPost_ret (results_cell_tmp_row rfl _ _ (w.heap.size + 1 + 1) _ zeroBlR (0, 0) _ rfl (row_set u4.out) Try.underlying71 rfl info_blU) rfl ?_
      exact ubPost_bad F.out F2.out (below_setRow HBA.out (by omega) _)
  · obtain ⟨k, rfl⟩ : ∃ k : Nat, pc = k := ⟨pc.toNat, by omega⟩
    obtain ⟨j, rfl⟩ : ∃ j : Nat, pn = j := ⟨pn.toNat, by omega⟩
    have hk : k < cs.length := by omega
    have hk2 : 2 ≤ k := by omega
    have HSC : Hid (∀ W, Below wa.heap.size wa W → Calls Try.prog 75 #[.agg #[.slice A cs.length c, .slice A' ws.length c'], .int .i64 k] W (ScPost (nowS cs ws k) W)) := fun W h => rlog_any A _ c cs A' _ c' ws k W ((RA.out.below h).more h.size) ((RA'.out.below h).more h.size) hk hws hk2
    unfold ScPost at HSC
    have hcase : (scO (nowS cs ws k) = false ∧ ubE cs ws k j = 18) ∨ (scO (nowS cs ws k) = true ∧ (scL (nowS cs ws k)).length ≤ j ∧ ubE cs ws k j = 12) ∨ (scO (nowS cs ws k) = true ∧ j < (scL (nowS cs ws k)).length ∧ ubE cs ws k j = 0 ∧ ubB cs ws k j = (scL (nowS cs ws k)).getD j zeroBlob) := by
      by_cases h1 : scO (nowS cs ws k) = true
      · by_cases h2 : (scL (nowS cs ws k)).length ≤ j
        · exact .inr (.inl ⟨h1, h2, ub_none ho h1 (by omega)⟩)
        · have := ub_ok ho h1 (by omega)
          rw [Int.toNat_natCast] at this
          exact .inr (.inr ⟨h1, by omega, this⟩)
      · have h1' : scO (nowS cs ws k) = false := by cases h : scO (nowS cs ws k); rfl; exact absurd h h1
        exact .inl ⟨h1', ub_corrupt ho h1'⟩
    have HUZ := Lib.hid (fun (e : Int) h h0 => ub_zero (cs := cs) (ws := ws) (pc := (k : Int)) (pn := (j : Int)) (e := e) h h0)
    generalize scO (nowS cs ws k) = so at *
    generalize scN (nowS cs ws k) = sn at *
    generalize scB (nowS cs ws k) = sb at *
    generalize scL (nowS cs ws k) = l at *
    generalize ubE cs ws k j = UE at *
    generalize ubB cs ws k j = UB at *
    have i1 : (k : Int) < (cs.length : Int) := by omega
    have i2 : ¬ (k : Int) < 2 := by omega
    have i3 : (2 : Int) ≤ (k : Int) := by omega
    obtain ⟨u0, u1, u2, u3, u4⟩ := HC.out wa (Below.refl _ _)
    clear ho hk hk2
    rcases hcase with ⟨rfl, e1⟩ | ⟨rfl, h2, e1⟩ | ⟨rfl, h2, e1, e2⟩
    · have F := Lib.hid e1
      have F2 := Lib.hid (HUZ.out _ e1 (by decide))
      clear e1 HUZ
      go_enter Try.func41, Try.ntmps41
      go_upto_region 1 with fail
      rw [← HWA.out]
      go_wp2_with (first
        | (go_at_call 75; refine (HSC.out _ (Below.refl _ _)).mono ?_; rintro e w1 ⟨D, q, d, rfl, r1, hb1⟩; obtain ⟨v0, v1, v2, v3, v4⟩ := HC.out w1 hb1; have HB1 := Lib.hid hb1; clear hb1)
        | (refine wpList_store_rowTo rfl _ _ _ rfl rfl (w.heap.size + 1 + 1) zeroBlR rfl rfl 71 zeroBlR v4.out info_blU rfl hone0.out ?_))
      refine bodyPost_ret (results_cell_tmp_row rfl _ _ (w.heap.size + 1 + 1) _ zeroBlR (0, 0) _ rfl (row_set v4.out) Try.underlying71 rfl info_blU) rfl ?_
      exact ubPost_bad F.out F2.out (below_setRow (HBA.out.trans (HB1.out.mono HBA.out.size)) (by omega) _)
    · have F := Lib.hid e1
      have F2 := Lib.hid (HUZ.out _ e1 (by decide))
      have i4 : (l.length : Int) ≤ (j : Int) := by omega
      clear e1 HUZ
      go_enter Try.func41, Try.ntmps41
      go_upto_region 1 with fail
      rw [← HWA.out]
      go_wp2_with (first
        | (go_at_call 75; refine (HSC.out _ (Below.refl _ _)).mono ?_; rintro e w1 ⟨D, q, d, rfl, r1, hb1⟩; obtain ⟨v0, v1, v2, v3, v4⟩ := HC.out w1 hb1; have HB1 := Lib.hid hb1; have hq := r1.len; subst hq; clear hb1)
        | (refine wpList_store_rowTo rfl _ _ _ rfl rfl (w.heap.size + 1 + 1) zeroBlR rfl rfl 71 zeroBlR v4.out info_blU rfl hone0.out ?_))
      refine bodyPost_ret (results_cell_tmp_row rfl _ _ (w.heap.size + 1 + 1) _ zeroBlR (0, 0) _ rfl (row_set v4.out) Try.underlying71 rfl info_blU) rfl ?_
      exact ubPost_bad F.out F2.out (below_setRow (HBA.out.trans (HB1.out.mono HBA.out.size)) (by omega) _)
    · obtain ⟨x, hx⟩ : ∃ x, l[j]? = some x := ⟨_, List.getElem?_eq_getElem h2⟩
      have e3 : l.getD j zeroBlob = x := by rw [List.getD_eq_getElem?_getD, hx]; rfl
      have F := Lib.hid e1
      have F2 := Lib.hid (e2.trans e3)
      have HX := Lib.hid hx
      have i4 : (j : Int) < (l.length : Int) := by omega
      have hone : Hid ((#[.int .i64 x.Kind, .int .i64 x.Ino, .int .i64 x.Nth, .string x.Text] : Array Value).all (·.oneCell') = true) := by simp [Hid, Value.oneCell']
      clear e1 e2 e3 HUZ hx h2
      go_enter Try.func41, Try.ntmps41
      go_upto_region 1 with fail
      rw [← HWA.out]
      go_wp2_with (first
        | (go_at_call 75; refine (HSC.out _ (Below.refl _ _)).mono ?_; rintro e w1 ⟨D, q, d, rfl, r1, hb1⟩; obtain ⟨v0, v1, v2, v3, v4⟩ := HC.out w1 hb1; have HB1 := Lib.hid hb1; have hq := r1.len; subst hq; obtain ⟨b, o, rfl, hbB, k0, k1, k2, k3⟩ := blobCells r1 HX.out; clear hb1)
        | (refine wpList_store_rowTo rfl _ _ _ rfl rfl (w.heap.size + 1 + 1) #[.int .i64 x.Kind, .int .i64 x.Ino, .int .i64 x.Nth, .string x.Text] rfl rfl 71 zeroBlR v4.out info_blU rfl hone.out ?_))
      refine bodyPost_ret (results_cell_tmp_row rfl _ _ (w.heap.size + 1 + 1) _ #[.int .i64 x.Kind, .int .i64 x.Ino, .int .i64 x.Nth, .string x.Text] (0, 0) _ rfl (row_set v4.out) Try.underlying71 rfl info_blU) rfl ?_
      exact ⟨by rw [F.out, F2.out] <;> rfl, below_setRow (HBA.out.trans (HB1.out.mono HBA.out.size)) (by omega) _⟩

noncomputable def uaE (cs : List ByteArray) (ws : List PutD) (pc pn : Int) : Int := if dskE cs ws ≠ 0 then dskE cs ws else ubE cs ws pc pn
noncomputable def uaB (cs : List ByteArray) (ws : List PutD) (pc pn : Int) : BlobD := if dskE cs ws ≠ 0 then zeroBlob else ubB cs ws pc pn
theorem ua_bad {cs : List ByteArray} {ws : List PutD} {pc pn : Int} (h : dskE cs ws ≠ 0) : uaE cs ws pc pn = dskE cs ws ∧ uaB cs ws pc pn = zeroBlob := by unfold uaE uaB; rw [if_pos h, if_pos h]; exact ⟨rfl, rfl⟩
theorem ua_ok {cs : List ByteArray} {ws : List PutD} {pc pn : Int} (h : dskE cs ws = 0) : uaE cs ws pc pn = ubE cs ws pc pn ∧ uaB cs ws pc pn = ubB cs ws pc pn := by
  have e : ¬ (dskE cs ws ≠ 0) := fun g => g h
  unfold uaE uaB; rw [if_neg e, if_neg e]; exact ⟨rfl, rfl⟩

set_option maxRecDepth 20000 in
set_option maxHeartbeats 2000000 in
theorem usea_any (A : Option Addr) (n c : Nat) (cs : List ByteArray) (A' : Option Addr) (n' c' : Nat) (ws : List PutD) (pc pn : Int) (w : World) (r : RowsIn w w.heap.size A n c (fun z => [.string z]) 1 cs) (r' : RowsIn w w.heap.size A' n' c' PutD.cells 2 ws) :
    Calls Try.prog 40 #[.agg #[.slice A n c, .slice A' n' c'], .agg #[.int .i64 pc, .int .i64 pn]] w (UbPost (uaE cs ws pc pn) (uaB cs ws pc pn) w) := by
  have hlen := r.len
  subst hlen
  have hlen' := r'.len
  subst hlen'
  obtain ⟨wa, hwa⟩ : ∃ wa, wa = ((w.alloc (.cells #[.slice A cs.length c, .slice A' ws.length c'] 41)).alloc (.cells #[.int .i64 pc, .int .i64 pn] 27)).alloc (.cells zeroBlR 71) := ⟨_, rfl⟩
  have hza : wa.heap.size = w.heap.size + 3 := by rw [hwa]; simp
  have hba : Below w.heap.size w wa := by rw [hwa]; exact (((Below.refl _ _).alloc (Nat.le_refl _) _).alloc (by simp) _).alloc (by simp; omega) _
  obtain ⟨hrb, hrp, hra⟩ := new3 w (.cells #[.slice A cs.length c, .slice A' ws.length c'] 41) (.cells #[.int .i64 pc, .int .i64 pn] 27) (.cells zeroBlR 71)
  rw [← hwa] at hrb hrp hra
  have hle : w.heap.size ≤ wa.heap.size := by omega
  have RA := Lib.hid ((r.below hba).more hle)
  have RA' := Lib.hid ((r'.below hba).more hle)
  have hone0 : Hid ((zeroBlR : Array Value).all (·.oneCell') = true) := by simp [Hid, Value.oneCell']
  have HC : Hid (∀ W, Below wa.heap.size wa W → W.cell? ⟨w.heap.size, 0, none⟩ = some (.slice A cs.length c) ∧ W.cell? ⟨w.heap.size, 1, none⟩ = some (.slice A' ws.length c') ∧ W.cell? ⟨w.heap.size + 1, 0, none⟩ = some (.int .i64 pc) ∧ W.cell? ⟨w.heap.size + 1, 1, none⟩ = some (.int .i64 pn) ∧ Hid (W.heap[w.heap.size + 1 + 1]? = some (.cells zeroBlR 71 (0, 0)))) := fun W h => by
    have q0 := row_below hrb (row_lt hrb) h
    have q1 := row_below hrp (row_lt hrp) h
    exact ⟨row_cell q0 0, row_cell q0 1, row_cell q1 0, row_cell q1 1, row_below hra (row_lt hra) h⟩
  have HWA := Lib.hid hwa
  have HBA := Lib.hid hba
  have HZA := Lib.hid hza
  clear r r' hwa hba hra hrp hrb hza hle
  have HCK := Lib.hid (dchk_any A _ c cs A' _ c' ws wa RA.out RA'.out)
  by_cases hd : dskE cs ws = 0
  · obtain ⟨e1, e2⟩ := ua_ok (pc := pc) (pn := pn) hd
    have h400 := (dsk_zero hd).2.2.2.2
    have HUB : Hid (∀ W, Below wa.heap.size wa W → Calls Try.prog 74 #[.agg #[.slice A cs.length c, .slice A' ws.length c'], .agg #[.int .i64 pc, .int .i64 pn]] W (UbPost (ubE cs ws pc pn) (ubB cs ws pc pn) W)) := fun W h => useb_any A _ c cs A' _ c' ws pc pn W ((RA.out.below h).more h.size) ((RA'.out.below h).more h.size) h400
    unfold UbPost at HUB
    have F := Lib.hid e1
    have F2 := Lib.hid e2
    rw [hd] at HCK
    clear e1 e2 h400 hd
    generalize ubE cs ws pc pn = UE at *
    generalize ubB cs ws pc pn = x at *
    have hone : Hid ((#[.int .i64 x.Kind, .int .i64 x.Ino, .int .i64 x.Nth, .string x.Text] : Array Value).all (·.oneCell') = true) := by simp [Hid, Value.oneCell']
    go_enter Try.func40, Try.ntmps40
    go_wp2_with (first
      | (go_at_call 60; rw [← HWA.out]; refine HCK.out.mono ?_; rintro e w1 ⟨rfl, hb1⟩; obtain ⟨v0, v1, v2, v3, v4⟩ := HC.out w1 hb1; have HB1 := Lib.hid hb1; clear hb1)
      | (go_at_call 74; refine (HUB.out _ HB1.out).mono ?_; rintro e w2 ⟨rfl, hb2⟩; have HB2 := Lib.hid (HB1.out.trans (hb2.mono HB1.out.size)); obtain ⟨y0, y1, y2, y3, y4⟩ := HC.out w2 HB2.out; clear hb2)
      | (refine wpList_store_rowTo rfl _ _ _ rfl rfl (w.heap.size + 1 + 1) #[.int .i64 x.Kind, .int .i64 x.Ino, .int .i64 x.Nth, .string x.Text] rfl rfl 71 zeroBlR y4.out info_blU rfl hone.out ?_))
    refine bodyPost_ret (results_cell_tmp_row rfl _ _ (w.heap.size + 1 + 1) _ #[.int .i64 x.Kind, .int .i64 x.Ino, .int .i64 x.Nth, .string x.Text] (0, 0) _ rfl (row_set y4.out) Try.underlying71 rfl info_blU) rfl ?_
    exact ⟨by rw [F.out, F2.out] <;> rfl, below_setRow (HBA.out.trans (HB2.out.mono HBA.out.size)) (by omega) _⟩
  · obtain ⟨e1, e2⟩ := ua_bad (pc := pc) (pn := pn) hd
    have F := Lib.hid e1
    have F2 := Lib.hid e2
    have i4 : (dskE cs ws != 0) = true := bne_iff_ne.2 hd
    generalize dskE cs ws = de at *
    clear hd e1 e2
    go_enter Try.func40, Try.ntmps40
    go_wp2_with (first
      | (go_at_call 60; rw [← HWA.out]; refine HCK.out.mono ?_; rintro e w1 ⟨rfl, hb1⟩; obtain ⟨v0, v1, v2, v3, v4⟩ := HC.out w1 hb1; have HB1 := Lib.hid hb1; clear hb1)
      | (refine wpList_store_rowTo rfl _ _ _ rfl rfl (w.heap.size + 1 + 1) zeroBlR rfl rfl 71 zeroBlR v4.out info_blU rfl hone0.out ?_))
    refine bodyPost_ret (results_cell_tmp_row rfl _ _ (w.heap.size + 1 + 1) _ zeroBlR (0, 0) _ rfl (row_set v4.out) Try.underlying71 rfl info_blU) rfl ?_
    exact ubPost_bad F.out F2.out (below_setRow (HBA.out.trans (HB1.out.mono HBA.out.size)) (by omega) _)
end Go.Proofs.Ytjmgocfoimhmjaa
