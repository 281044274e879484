/- code.Make, walked. -/
import Derived.Test.YtebgcemglicjiaaBkJa
import Derived.Test.YtebgcemglicjiaaOwJa
import Derived.Test.YtebgcemglicjiaaCanonR
import Derived.Test.YtebgcemglicjiaaCanonW
import Derived.Laws.Rows
namespace Go.Proofs.Ytebgcemglicjiaa
open Go.RowKit

theorem info_book : (Try.prog.info? 109).map (·.size) = some 49 := by kernel_rfl
def bookZ : Array Value := bookA (.slice none 0 0) (fun _ => 0) (fun _ => 0) (fun _ => 0)
def BkPost (l : List Int) (w : World) (e : Ending) (w' : World) : Prop := ∃ A c, e = .returned (.agg (bookA (.slice A (sgL l 16).length c) (bkF l 16) (bkG l 16) (bkC l))) ∧ RowsIn w' w'.heap.size A (sgL l 16).length c (fun z => [.int .i64 z]) 1 (sgL l 16) ∧ Below w.heap.size w w' ∧ ∀ a, A = some a → w.heap.size ≤ a.block
/-- The book as it is made, in block B0 + 1; the answer's block B0. -/
structure BkI (w wr : World) (v : Value) (F G C : Nat → Int) : Prop where
  row : wr.heap[w.heap.size + 1]? = some (.cells (bookA v F G C) 109 (0, 0))
  res : wr.heap[w.heap.size]? = some (.cells bookZ 109 (0, 0))
  bel : Below w.heap.size w wr
  sz : w.heap.size + 2 ≤ wr.heap.size
theorem BkI.store {w wr : World} {v v' u : Value} {F G C F' G' C' : Nat → Int} (h : BkI w wr v F G C) (k : Nat) (e : (bookA v F G C).setIfInBounds k u = bookA v' F' G' C') : BkI w (wr.setCell ⟨w.heap.size + 1, k, none⟩ u) v' F' G' C' :=
  ⟨by rw [← e]; exact row_store h.row, row_other h.res (show w.heap.size ≠ w.heap.size + 1 by omega), h.bel.setCell (show w.heap.size ≤ w.heap.size + 1 by omega) _, by have := h.sz; simp [World.setCell]; exact this⟩
theorem BkI.left {w wr w' : World} {v : Value} {F G C : Nat → Int} {row : Option Nat} (h : BkI w wr v F G C) (hl : Left wr w' (w.heap.size + 2) row) : BkI w w' v F G C :=
  ⟨row_left h.row hl (fun e => by have := hl.row_ge _ e; omega), row_left h.res hl (fun e => by have := hl.row_ge _ e; omega), hl.below (by omega) h.bel, Nat.le_trans h.sz hl.size⟩
theorem BkI.cellF {w wr : World} {v : Value} {F G C : Nat → Int} (h : BkI w wr v F G C) {j : Nat} (hj : j < 16) : wr.cell? ⟨w.heap.size + 1, 1 + j, none⟩ = some (.int .i64 (F j)) := (row_cell h.row _).trans (book_F v F G C j hj)
theorem BkI.cellG {w wr : World} {v : Value} {F G C : Nat → Int} (h : BkI w wr v F G C) {j : Nat} (hj : j < 16) : wr.cell? ⟨w.heap.size + 1, 17 + j, none⟩ = some (.int .i64 (G j)) := (row_cell h.row _).trans (book_G v F G C j hj)
theorem BkI.cellC {w wr : World} {v : Value} {F G C : Nat → Int} (h : BkI w wr v F G C) {j : Nat} (hj : j < 16) : wr.cell? ⟨w.heap.size + 1, 33 + j, none⟩ = some (.int .i64 (C j)) := (row_cell h.row _).trans (book_C v F G C j hj)
theorem BkI.cellv {w wr : World} {v : Value} {F G C : Nat → Int} (h : BkI w wr v F G C) : wr.cell? ⟨w.heap.size + 1, 0, none⟩ = some v := (row_cell h.row _).trans (book_v v F G C)
theorem BkI.free {w wr : World} {v : Value} {F G C : Nat → Int} (h : BkI w wr v F G C) (j : Nat) : wr.frozen? ⟨w.heap.size + 1, j, none⟩ = false := row_cold h.row j
theorem BkI.start (w : World) : BkI w ((w.alloc (.cells bookZ 109)).alloc (.cells bookZ 109)) (.slice none 0 0) (fun _ => 0) (fun _ => 0) (fun _ => 0) :=
  ⟨by have := heap_alloc_new (w.alloc (.cells bookZ 109)) (.cells bookZ 109)
      rw [show (w.alloc (.cells bookZ 109)).heap.size = w.heap.size + 1 by simp] at this
      exact this, (heap_alloc_old _ _ (by simp)).trans (heap_alloc_new w _), ((Below.refl _ _).alloc (Nat.le_refl _) _).alloc (by simp) _, by simp⟩
theorem low_step {l : List Int} {k : Nat} (hk : 0 < k) (hk16 : k < 16) : (bkF l 16 (k - 1) + bkC l (k - 1)) * 2 = lowW (k : Int) l := by
  unfold bkF bkC
  by_cases h : k = 1
  · subst h; simp; exact (lowW_one l).symm
  · rw [if_pos (by omega), if_pos (by omega)]
    have := lowW_succ ((k - 1 : Nat) : Int) (by omega) l
    rw [show ((k - 1 : Nat) : Int) + 1 = (k : Int) by omega] at this
    omega

set_option maxRecDepth 20000 in
set_option maxHeartbeats 2000000 in
theorem bmake_any (A : Option Addr) (n c : Nat) (l : List Int) (w : World) (r : RowsIn w w.heap.size A n c (fun z => [.int .i64 z]) 1 l) (hcan : canE l = 0) (hn : n ≤ 320) :
    Calls Try.prog 73 #[.slice A n c] w (BkPost l w) := by
  have hlen := r.len
  obtain rfl := hlen
  have HALL := Lib.hid (fill_all hcan)
  have HLOW := Lib.hid (fun (k : Nat) a b => low_pow hcan (w := k) a b)
  have HST := Lib.hid (BkI.start w)
  clear hcan
  go_enter Try.func73, Try.ntmps73
  go_wp2
  go_loopw [5, 12] (fun _ v12 wr => ∃ i : Nat, i ≤ l.length ∧ v12 = .int .i64 i ∧ BkI w wr (.slice none 0 0) (fun _ => 0) (fun _ => 0) (fun j => cntW j (l.take i))) (fun _ v12 _ => l.length - (intOf v12).toNat)
  case atStart => exact ⟨0, Nat.zero_le _, rfl, by rw [cnt_zero]; exact HST.out⟩
  case round =>
    obtain ⟨i, hi, rfl, hbk⟩ := hrel
    clear HST
    by_cases hlt : i < l.length
    · have e1 := List.getElem?_eq_getElem hlt
      have hx := HALL.out _ (List.getElem_mem hlt)
      obtain ⟨x, hxe⟩ : ∃ x : Nat, l[i] = (x : Int) := ⟨l[i].toNat, by omega⟩
      rw [hxe] at e1 hx
      obtain ⟨b, o, rfl, hbB, hc⟩ := (r.below hbk.bel).one e1
      have hx16 : x < 16 := by omega
      have hcc := hbk.cellC hx16
      have hcf := hbk.free (33 + x)
      have i1 : (i : Int) < (l.length : Int) := by omega
      have i2 : (x : Int) < 16 := by omega
      have i3 : (0 : Int) ≤ (x : Int) := by omega
      have hcb := cntW_bd x (l.take i)
      have htl : (l.take i).length ≤ 320 := by rw [List.length_take]; omega
      have HU := Lib.hid (cnt_upd l e1)
      have HS := Lib.hid (hbk.store (33 + x) (u := .int .i64 (cntW x (l.take i) + 1)) (book_setC _ _ _ _ _ x hx16))
      rw [HU.out] at HS
      generalize cntW x (l.take i) = q at *
      clear e1 hxe hbk hx HU
      go_wp2
      go_roundw
      case rel => exact ⟨i + 1, by omega, by go_num, HS.out⟩
      case measure => (simp [intOf]; try omega)
    · obtain rfl : i = l.length := by omega
      have i1 : ¬ (l.length : Int) < (l.length : Int) := by omega
      have hc0 := hbk.cellC (j := 0) (by omega)
      have hf0 := hbk.free 33
      have HS := Lib.hid (hbk.store 33 (u := .int .i64 0) (book_setC _ _ _ _ _ 0 (by omega)))
      rw [cnt_end] at HS
      generalize cntW ((0 : Nat) : Int) (l.take l.length) = q at *
      simp only [Nat.add_zero] at hc0
      clear hbk
      obtain ⟨hF1, hG1⟩ := bk_start l
      have HS : Hid (BkI w (wr.setCell ⟨w.heap.size + 1, 33, none⟩ (.int .i64 0)) (.slice none 0 0) (bkF l 1) (bkG l 1) (bkC l)) := by simp only [Hid]; rw [hF1, hG1]; exact HS.out
      have hpc : bkF l 16 (1 - 1) = 0 := by simp [bkF]
      clear hF1 hG1
      go_wp2
      go_loopw [6, 7, 8, 9, 50] (fun v6 v7 _ _ _ wr => ∃ (k : Nat) (v : Value), 1 ≤ k ∧ k ≤ 16 ∧ v7 = .int .i64 k ∧ v6 = .int .i64 (bkF l 16 (k - 1)) ∧ BkI w wr v (bkF l k) (bkG l k) (bkC l) ∧ Owns wr (w.heap.size + 2) 1 v (sgL l k).length ((sgL l k).map (Value.int .i64))) (fun _ v7 _ _ _ _ => 16 - (intOf v7).toNat)
      case atStart => exact ⟨1, _, by omega, by omega, rfl, by rw [hpc], HS.out, by rw [sgL_one]; exact Owns.nil _ _ _⟩
      case round =>
        obtain ⟨k, v, hk1, hk16, rfl, rfl, hbk, hown⟩ := hrel
        clear HS hc0 hf0 hpc i1
        by_cases hlt : k < 16
        · have i1 : (k : Int) < 16 := by omega
          have i2 : (0 : Int) ≤ (k : Int) := by omega
          have i3 : (k : Int) ≤ 15 := by omega
          have i4 : (1 : Int) ≤ (k : Int) := by omega
          obtain ⟨AO, cO, rfl⟩ := hown.form
          have hstep := low_step (l := l) (by omega : 0 < k) hlt
          have hp := HLOW.out k (by omega) (by omega)
          have hpw : (2 : Int) ^ k ≤ 32768 := by
            have : (2 : Nat) ^ k ≤ 2 ^ 15 := Nat.pow_le_pow_right (by omega) (by omega)
            have h2 : ((2 ^ k : Nat) : Int) ≤ ((2 ^ 15 : Nat) : Int) := by exact_mod_cast this
            simpa using h2
          have hlow0 := lowW_nonneg k l
          have hcnt0 := (cntW_bd k l).1
          have hcC := hbk.cellC (j := k - 1) (by omega)
          have hX0 : 0 ≤ bkF l 16 (k - 1) := by unfold bkF; split; exact lowW_nonneg _ _; omega
          have hY0 : 0 ≤ bkC l (k - 1) := by unfold bkC; split; exact (cntW_bd _ _).1; omega
          have hsg := sgL_len l k
          have hsg2 : (sgL l k).length ≤ 5120 := Nat.le_trans hsg (by
            have : k * l.length ≤ 16 * 320 := Nat.mul_le_mul (by omega) hn
            omega)
          have HE := Lib.hid hstep
          have hcF := hbk.cellF (j := k) hlt
          have hfF := hbk.free (1 + k)
          have hS1 := hbk.store (1 + k) (u := .int .i64 (lowW k l)) (book_setF _ _ _ _ _ k hlt)
          rw [bkF_upd l (by omega)] at hS1
          have hcG := hS1.cellG (j := k) hlt
          have hfG := hS1.free (17 + k)
          have hcV := hS1.cellv
          have hS2 := hS1.store (17 + k) (u := .int .i64 ((sgL l k).length : Int)) (book_setG _ _ _ _ _ k hlt)
          rw [bkG_upd l (by omega)] at hS2
          have HO2 : Hid (Owns ((wr.setCell ⟨w.heap.size + 1, 1 + k, none⟩ (.int .i64 (lowW k l))).setCell ⟨w.heap.size + 1, 17 + k, none⟩ (.int .i64 ((sgL l k).length : Int))) (w.heap.size + 2) 1 (.slice AO (sgL l k).length cO) (sgL l k).length ((sgL l k).map (Value.int .i64))) :=
            (hown.setOther (fun e => by have := (hown.lt _ e).1; simp at this) _).setOther (fun e => by have := (hown.lt _ e).1; simp at this) _
          have HS2 := Lib.hid hS2
          have hj : ((k : Int) - 1).toNat = k - 1 := by omega
          generalize bkF l 16 (k - 1) = X at *
          generalize bkC l (k - 1) = Y at *
          have HE2 : (X + Y) * 2 = lowW k l := hstep
          generalize hZe : lowW k l = Z at *
          have hXY : X + Y ≤ 16384 := by omega
          have hZ0 : 0 ≤ Z := hlow0
          clear hstep hp hpw hsg hown hbk hS1 hS2 HLOW
          obtain ⟨wo, rfl⟩ : ∃ wo : World, wo = wr := ⟨_, rfl⟩
          have hQ0 : sgL l k ++ idxL l k 0 = sgL l k := by simp [idxL]
          have HQ1 : Hid (sgL l k ++ idxL l k l.length = sgL l (k + 1)) := (sgL_succ (by omega)).symm
          have HQB : Hid (∀ i, i ≤ l.length → (sgL l k ++ idxL l k i).length ≤ 5440) := fun i hi => by
            rw [List.length_append]
            have h1 := idxL_len l k i hi
            have h2 := (cntW_bd k (l.take i)).2
            rw [List.length_take] at h2
            omega
          go_wp2
          clear hcC hcF hfF hcG hfG hcV HE2 hXY hX0 hY0 hlow0 hcnt0 hsg2
          go_loopw [8, 9, 50] (fun _ _ v50 wi => ∃ (i : Nat) (v : Value), i ≤ l.length ∧ v50 = .int .i64 i ∧ BkI w wi v (bkF l (k + 1)) (bkG l (k + 1)) (bkC l) ∧ Owns wi (w.heap.size + 2) 1 v (sgL l k ++ idxL l k i).length ((sgL l k ++ idxL l k i).map (Value.int .i64))) (fun _ _ v50 _ => l.length - (intOf v50).toNat)
          case atStart => exact ⟨0, _, Nat.zero_le _, rfl, HS2.out, by rw [hQ0]; exact HO2.out⟩
          case round =>
            obtain ⟨i, v, hi, rfl, hbk, hown⟩ := hrel
            obtain ⟨AO2, cO2, rfl⟩ := hown.form
            have hsz := hbk.sz
            by_cases hilt : i < l.length
            · have e1 := List.getElem?_eq_getElem hilt
              obtain ⟨b, o, rfl, hbB, hc⟩ := (r.below hbk.bel).one e1
              have HX := Lib.hid (idxL_succ (w := (k : Int)) e1)
              have j1 : (i : Int) < (l.length : Int) := by omega
              have hql := HQB.out i hi
              have hcv := hbk.cellv
              have hcf := hbk.free 0
              have HOW := Lib.hid hown
              have HBK := Lib.hid hbk
              by_cases hx : l[i] = (k : Int)
              · have hxb : (l[i] == (k : Int)) = true := beq_iff_eq.2 hx
                rw [hx] at hc HX
                rw [if_pos rfl] at HX
                have HX2 : Hid (sgL l k ++ idxL l k (i + 1) = (sgL l k ++ idxL l k i) ++ [(i : Int)]) := by simp only [Hid]; rw [HX.out, List.append_assoc]
                generalize hU : sgL l k ++ idxL l k i = U at *
                have hkk : ((k : Int) == (k : Int)) = true := beq_iff_eq.2 rfl
                clear e1 hbk hown hx hxb HX hU hQ0
                go_wp2_with (at_builtin; refine wpList_add1 rfl rfl Try.underlying63 info_i64c rfl (Nat.le_refl 1) HOW.out rfl hsz rfl rfl rfl ?_ ?_ ?_ ?_; simp [Value.oneCell']; (unfold maxLen; omega); omega; intro A3 c3 w3 hown3 hl3 hbk3; have hB3 := HBK.out.left hl3; have hc3 := hB3.cellv; have hf3 := hB3.free 0)
                have HO3 := Lib.hid (hown3.setOther (p := ⟨w.heap.size + 1, 0, none⟩) (fun e => by have := (hown3.lt _ e).1; simp at this) (.slice A3 (U.length + 1) c3))
                have HB3 := Lib.hid (hB3.store 0 (book_setv _ (.slice A3 (U.length + 1) c3) _ _ _))
                clear hown3 hl3 hbk3 hB3 hc3 hf3 hcv hcf hc
                refine ⟨⟨i + 1, _, by omega, by go_num, HB3.out, ?_⟩, by simp [intOf]; omega⟩
                rw [HX2.out, List.length_append, List.length_singleton, List.map_append]; exact HO3.out
              · have hxb : (l[i] == (k : Int)) = false := beq_eq_false_iff_ne.2 hx
                rw [if_neg hx, List.append_nil] at HX
                have HX2 : Hid (sgL l k ++ idxL l k (i + 1) = sgL l k ++ idxL l k i) := by simp only [Hid]; rw [HX.out]
                generalize sgL l k ++ idxL l k i = U at *
                generalize l[i] = x at *
                clear e1 hbk hown hx HX hQ0 hcv hcf
                go_wp2
                refine ⟨⟨i + 1, _, by omega, by go_num, HBK.out, ?_⟩, by simp [intOf]; omega⟩
                rw [HX2.out]; exact HOW.out
            · obtain rfl : i = l.length := by omega
              have j1 : ¬ (l.length : Int) < (l.length : Int) := by omega
              have HOW := Lib.hid hown
              have HBK := Lib.hid hbk
              have hZ2 : Hid (bkF l 16 k = Z) := by simp only [Hid]; rw [← hZe]; unfold bkF; rw [if_pos (by omega)]
              rw [HQ1.out] at HOW HBK
              clear hbk hown hQ0 HS2 HO2 hZe
              go_wp2
              refine ⟨⟨k + 1, _, by omega, by omega, by go_num, ?_, HBK.out, HOW.out⟩, by simp [intOf]; omega⟩
              rw [show k + 1 - 1 = k by omega, hZ2.out]
        · obtain rfl : k = 16 := by omega
          have i1 : ¬ ((16 : Nat) : Int) < 16 := by omega
          obtain ⟨AO, cO, rfl⟩ := hown.form
          have HOW := Lib.hid hown
          have HBK := Lib.hid hbk
          have HU : Hid (Try.prog.underlying 109 = _) := Try.underlying109
          generalize hU : sgL l 16 = U at *
          have hone : Hid ((bookA (.slice AO U.length cO) (bkF l 16) (bkG l 16) (bkC l)).all (·.oneCell') = true) := book_one _ _ _ _ AO _ cO rfl
          have hrow := Lib.hid HBK.out.row
          have hres := Lib.hid HBK.out.res
          have hinf : Hid ((Try.prog.info? 109).map (·.size) = some (bookA (.slice AO U.length cO) (bkF l 16) (bkG l 16) (bkC l)).size) := info_book
          have hold : Hid (bookZ.size = (bookA (.slice AO U.length cO) (bkF l 16) (bkG l 16) (bkC l)).size) := rfl
          have hbel := Lib.hid HBK.out.bel
          have hszz := HBK.out.sz
          have hpost : Hid (∀ w', w' = wr.setRow w.heap.size (bookA (.slice AO U.length cO) (bkF l 16) (bkG l 16) (bkC l)) → BkPost l w (.returned (.agg (bookA (.slice AO U.length cO) (bkF l 16) (bkG l 16) (bkC l)))) w') := fun w' e => by
            subst e
            refine ⟨AO, cO, by rw [hU], ?_, HBK.out.bel.trans (below_setRow (Below.refl _ _) (Nat.le_refl _) _), fun a ha => by subst ha; have := (HOW.out.lt a.block rfl).1; omega⟩
            rw [hU]
            exact own_intsC (HOW.out.setRow (by omega) _)
          generalize bookA (.slice AO U.length cO) (bkF l 16) (bkG l 16) (bkC l) = CS at *
          generalize bookZ = BZ at *
          clear hbk hown HBK HOW hU
          go_wp2_with (first
            | (refine wpList_load_row rfl _ _ rfl (w.heap.size + 1) rfl _ CS (0, 0) _ hrow.out HU.out rfl hinf.out ?_)
            | (refine wpList_store_rowTo rfl _ _ _ rfl rfl w.heap.size CS rfl rfl 109 BZ hres.out hinf.out hold.out hone.out ?_))
          refine bodyPost_ret (results_cell_row rfl _ _ w.heap.size _ CS (0, 0) _ rfl (row_set hres.out) HU.out rfl hinf.out) rfl ?_
          exact hpost.out _ rfl
end Go.Proofs.Ytebgcemglicjiaa
