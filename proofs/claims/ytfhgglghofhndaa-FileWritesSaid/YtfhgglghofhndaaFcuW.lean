/- file.Cut, walked. -/
import Derived.Test.YtfhgglghofhndaaFseW
import Derived.Test.YtfhgglghofhndaaFszW
import Derived.Test.YtfhgglghofhndaaFptdP
namespace Go.Proofs.Ytfhgglghofhndaa
open Go.RowKit Go.PlainAid

theorem hone2 (z : Int) (A : Option Addr) (n c : Nat) : Hid ((#[.int .i64 z, .slice A n c] : Array Value).all (·.oneCell') = true) := by simp [Hid, Value.oneCell']
theorem szd_len (W : List UInt8) (n : Nat) : (szd W n).length = n := by unfold szd; rw [List.length_append, List.length_take, zer_len]; omega
theorem cut_same {k : Nat} {ps : List ByteArray} {n : Nat} (h : PartsOk k ps) : ptdL (cutH ps) (mkS (szd (whB k 0 ps) n)) (npt n) = cutL ps n := by
  unfold ptdL cutL
  apply List.map_congr_left
  intro i _
  unfold ptAt cutAt cutH
  rw [mk_size, szd_len, bl_mk]
  cases e : ps[i]? with
  | none => rfl
  | some p =>
    simp only
    unfold cutPt
    by_cases hp : p.size = 0
    · rw [if_pos (by simpa using hp), if_pos hp]
    · rw [if_neg (by simpa using hp), if_neg hp, cut_part h e hp]
noncomputable def fcE (sz n : Int) (ps : List ByteArray) : Int := if datE sz ps ≠ 0 then datE sz ps else if n < 0 then 1 else if 4096 < n then 2 else 0
noncomputable def fcZ (sz n : Int) (ps : List ByteArray) : Int := if fcE sz n ps = 0 then n else 0
noncomputable def fcL (sz n : Int) (ps : List ByteArray) : List ByteArray := if fcE sz n ps = 0 then cutL ps n.toNat else []
def FcPost (sz n : Int) (ps : List ByteArray) (w : World) (e : Ending) (w' : World) : Prop :=
  ∃ D q d, e = .returned (.tuple #[.agg #[.int .i64 (fcZ sz n ps), .slice D q d], .int .i64 (fcE sz n ps)]) ∧ RowsIn w' w'.heap.size D q d (fun z => [.string z]) 1 (fcL sz n ps) ∧ Below w.heap.size w w'
theorem no_strs (w : World) (B : Nat) : RowsIn w B none 0 0 (fun z => [.string z]) 1 ([] : List ByteArray) := ⟨rfl, Nat.le_refl _, Nat.zero_le _, fun i x h => by simp at h⟩
theorem fcPost_bad {sz n : Int} {ps : List ByteArray} {w w' : World} {E : Int} (h : fcE sz n ps = E) (h0 : E ≠ 0) (hb : Below w.heap.size w w') : FcPost sz n ps w (.returned (.tuple #[.agg zeroDaZ, .int .i64 E])) w' := by
  have h1 : fcZ sz n ps = 0 := by unfold fcZ; rw [if_neg (by rw [h]; exact h0)]
  have h2 : fcL sz n ps = [] := by unfold fcL; rw [if_neg (by rw [h]; exact h0)]
  exact ⟨none, 0, 0, by rw [h1, h], by rw [h2]; exact no_strs _ _, hb⟩
theorem fcPost_ok {sz : Int} {n : Nat} {ps : List ByteArray} {w w' : World} {D : Option Addr} {q d : Nat} (h : fcE sz n ps = 0) (r : RowsIn w' w'.heap.size D q d (fun z => [.string z]) 1 (cutL ps n)) (hb : Below w.heap.size w w') : FcPost sz n ps w (.returned (.tuple #[.agg #[.int .i64 n, .slice D q d], .int .i64 0])) w' := by
  have h1 : fcZ sz n ps = n := if_pos h
  have h2 : fcL sz n ps = cutL ps n := by unfold fcL; rw [if_pos h]; rfl
  exact ⟨D, q, d, by rw [h1, h], by rw [h2]; exact r, hb⟩
theorem fc_dat {sz n : Int} {ps : List ByteArray} (h : datE sz ps ≠ 0) : fcE sz n ps = datE sz ps := if_pos h
theorem fc_arg {sz n : Int} {ps : List ByteArray} (h : datE sz ps = 0) (h2 : n < 0) : fcE sz n ps = 1 := by unfold fcE; rw [if_neg (by rw [h]; decide), if_pos h2]
theorem fc_large {sz n : Int} {ps : List ByteArray} (h : datE sz ps = 0) (h2 : ¬ n < 0) (h3 : 4096 < n) : fcE sz n ps = 2 := by unfold fcE; rw [if_neg (by rw [h]; decide), if_neg h2, if_pos h3]
theorem fc_ok {sz n : Int} {ps : List ByteArray} (h : datE sz ps = 0) (h2 : ¬ n < 0) (h3 : ¬ 4096 < n) : fcE sz n ps = 0 := by unfold fcE; rw [if_neg (by rw [h]; decide), if_neg h2, if_neg h3]
theorem parts_small {k : Nat} {ps : List ByteArray} (h : PartsOk k ps) : ∀ p ∈ ps, p.size ≤ 8192 := fun p hp => by
  obtain ⟨i, hi, e⟩ := List.getElem_of_mem hp
  rcases h.2 i p (by rw [List.getElem?_eq_getElem hi, e]) with h | h
  · omega
  · have := wid_le k i; omega

/-- The boxes of the argument and of the result, and what is kept of them. -/
structure FcI (w : World) (sz : Int) (A : Option Addr) (m c : Nat) (W : World) : Prop where
  box : W.heap[w.heap.size]? = some (.cells #[.int .i64 sz, .slice A m c] 24 (0, 0))
  res : W.heap[w.heap.size + 1]? = some (.cells zeroDaZ 24 (0, 0))
  below : Below w.heap.size w W
  size : w.heap.size + 2 ≤ W.heap.size
theorem fcI_new (w : World) (sz : Int) (A : Option Addr) (m c : Nat) : FcI w sz A m c ((w.alloc (.cells #[.int .i64 sz, .slice A m c] 24)).alloc (.cells zeroDaZ 24)) := by
  refine { box := row_alloc (heap_alloc_new w _) _, res := ?_, below := ((Below.refl _ _).alloc (Nat.le_refl _) _).alloc (by simp) _, size := by simp }
  have := heap_alloc_new (w.alloc (.cells #[.int .i64 sz, .slice A m c] 24)) (.cells zeroDaZ 24)
  rwa [show (w.alloc (.cells #[.int .i64 sz, .slice A m c] 24)).heap.size = w.heap.size + 1 by simp] at this
theorem FcI.go {w W W' : World} {sz : Int} {A : Option Addr} {m c : Nat} (h : FcI w sz A m c W) (hb : Below W.heap.size W W') : FcI w sz A m c W' :=
  { box := row_below h.box (row_lt h.box) hb, res := row_below h.res (row_lt h.res) hb, below := h.below.trans (hb.mono h.below.size), size := Nat.le_trans h.size hb.size }

set_option maxRecDepth 20000 in
set_option maxHeartbeats 2000000 in
theorem fcut_any (sz : Int) (A : Option Addr) (m c : Nat) (ps : List ByteArray) (n : Int) (w : World) (r : RowsIn w w.heap.size A m c (fun z => [.string z]) 1 ps) :
    Calls Try.prog 17 #[.agg #[.int .i64 sz, .slice A m c], .int .i64 n] w (FcPost sz n ps w) := by
  obtain ⟨wa, hwa⟩ : ∃ wa, wa = (w.alloc (.cells #[.int .i64 sz, .slice A m c] 24)).alloc (.cells zeroDaZ 24) := ⟨_, rfl⟩
  have I0 : Hid (FcI w sz A m c wa) := by rw [hwa]; exact fcI_new w sz A m c
  have R : Hid (∀ W, Below w.heap.size w W → RowsIn W W.heap.size A m c (fun z => [.string z]) 1 ps) := fun W h => (r.below h).more h.size
  have HCk := Lib.hid (fcheck_any sz A m c ps wa (R.out wa I0.out.below))
  have c0 : wa.cell? ⟨w.heap.size, 0, none⟩ = some (.int .i64 sz) := row_cell I0.out.box 0
  have c1 : wa.cell? ⟨w.heap.size, 1, none⟩ = some (.slice A m c) := row_cell I0.out.box 1
  have HWA := Lib.hid hwa
  have hone0 : Hid ((zeroDaZ : Array Value).all (·.oneCell') = true) := by simp [Hid, zeroDaZ, Value.oneCell']
  clear r hwa
  by_cases hd : datE sz ps = 0
  · obtain ⟨⟨z0, z1⟩, hok⟩ := datE_zero hd
    rw [hd] at HCk
    by_cases hn : n < 0
    · have F := Lib.hid (fc_arg hd hn)
      clear hd hok
      go_enter Try.func17, Try.ntmps17
      go_wp2_with (first
        | (go_at_call 15; rw [← HWA.out]; refine HCk.out.mono ?_; rintro e w1 ⟨rfl, hb1⟩; have I1 := Lib.hid (I0.out.go hb1))
        | (refine wpList_store_rowTo rfl _ _ _ rfl rfl (w.heap.size + 1) zeroDaZ rfl rfl 24 zeroDaZ I1.out.res info_datZ rfl hone0.out ?_))
      refine bodyPost_ret (results_cell_tmp_row rfl _ _ (w.heap.size + 1) _ zeroDaZ (0, 0) _ rfl (row_set I1.out.res) Try.underlying24 rfl info_datZ) rfl ?_
      exact fcPost_bad F.out (by decide) (below_setRow I1.out.below (by omega) _)
    · by_cases hn2 : 4096 < n
      · have F := Lib.hid (fc_large hd hn hn2)
        clear hd hok
        go_enter Try.func17, Try.ntmps17
        go_wp2_with (first
          | (go_at_call 15; rw [← HWA.out]; refine HCk.out.mono ?_; rintro e w1 ⟨rfl, hb1⟩; have I1 := Lib.hid (I0.out.go hb1))
          | (refine wpList_store_rowTo rfl _ _ _ rfl rfl (w.heap.size + 1) zeroDaZ rfl rfl 24 zeroDaZ I1.out.res info_datZ rfl hone0.out ?_))
        refine bodyPost_ret (results_cell_tmp_row rfl _ _ (w.heap.size + 1) _ zeroDaZ (0, 0) _ rfl (row_set I1.out.res) Try.underlying24 rfl info_datZ) rfl ?_
        exact fcPost_bad F.out (by decide) (below_setRow I1.out.below (by omega) _)
      · have F := Lib.hid (fc_ok hd hn hn2)
        obtain ⟨k, rfl⟩ : ∃ k : Nat, sz = (k : Int) := ⟨sz.toNat, by omega⟩
        obtain ⟨n', rfl⟩ : ∃ k : Nat, n = (k : Int) := ⟨n.toNat, by omega⟩
        have HSD : Hid (∀ W, Below w.heap.size w W → Calls Try.prog 54 #[.agg #[.int .i64 k, .slice A m c], .int .i64 n'] W (SdPost ps n' W)) := fun W h => sized_any k A m c ps n' (by omega) W (R.out W h) (parts_small hok)
        unfold SdPost at HSD
        clear hd hok
        go_enter Try.func17, Try.ntmps17
        go_wp2_with (first
          | (go_at_call 15; rw [← HWA.out]; refine HCk.out.mono ?_; rintro e w1 ⟨rfl, hb1⟩; have I1 := Lib.hid (I0.out.go hb1); have k0 := row_cell I1.out.box 0; have k1 := row_cell I1.out.box 1)
          | (go_at_call 54; refine (HSD.out _ I1.out.below).mono ?_; rintro e w2 ⟨b, rfl, ho2, hb2⟩; have I2 := Lib.hid (I1.out.go hb2); have HO2 := Lib.hid ho2; have hone : Hid ((#[.int .i64 n', .slice (some ⟨b, 0, none⟩) (npt n') (npt n')] : Array Value).all (·.oneCell') = true) := hone2 _ _ _ _; clear hb2 ho2)
          | (refine wpList_store_rowTo rfl _ _ _ rfl rfl (w.heap.size + 1) #[.int .i64 n', .slice (some ⟨b, 0, none⟩) (npt n') (npt n')] rfl rfl 24 zeroDaZ I2.out.res info_datZ rfl hone.out ?_))
        refine bodyPost_ret (results_cell_tmp_row rfl _ _ (w.heap.size + 1) _ #[.int .i64 n', .slice (some ⟨b, 0, none⟩) (npt n') (npt n')] (0, 0) _ rfl (row_set I2.out.res) Try.underlying24 rfl info_datZ) rfl ?_
        exact fcPost_ok F.out (own_strsF (HO2.out.setRow (by have := I1.out.size; omega) _)) (below_setRow I2.out.below (by omega) _)
  · have F := Lib.hid (fc_dat (n := n) hd)
    have hE2 : (datE sz ps != 0) = true := bne_iff_ne.2 hd
    have HD := Lib.hid hd
    clear hd
    generalize datE sz ps = E at *
    go_enter Try.func17, Try.ntmps17
    go_wp2_with (first
      | (go_at_call 15; rw [← HWA.out]; refine HCk.out.mono ?_; rintro e w1 ⟨rfl, hb1⟩; have I1 := Lib.hid (I0.out.go hb1))
      | (refine wpList_store_rowTo rfl _ _ _ rfl rfl (w.heap.size + 1) zeroDaZ rfl rfl 24 zeroDaZ I1.out.res info_datZ rfl hone0.out ?_))
    refine bodyPost_ret (results_cell_tmp_row rfl _ _ (w.heap.size + 1) _ zeroDaZ (0, 0) _ rfl (row_set I1.out.res) Try.underlying24 rfl info_datZ) rfl ?_
    exact fcPost_bad F.out HD.out (below_setRow I1.out.below (by omega) _)
end Go.Proofs.Ytfhgglghofhndaa
