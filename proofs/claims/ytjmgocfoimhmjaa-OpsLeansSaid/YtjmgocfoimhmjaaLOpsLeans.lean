/- The law OpsLeans, walked: it returns true for every list of operations. -/
import Derived.Test.YtjmgocfoimhmjaaLnW
namespace Go.Proofs.Ytjmgocfoimhmjaa.lOpsLeans
open Go.RowKit

/-- The law's loop: what is gathered of the first i, with what stays of the rest, is all that stays. -/
structure LwI (l : List OpD) (w : World) (i : Nat) (W : List OpD) (A : Option Addr) (c : Nat) (wr : World) : Prop where
  all : W ++ kp (l.drop i) = kp l
  own : Owns wr w.heap.size 3 (.slice A W.length c) W.length (W.flatMap OpD.cells)
  below : Below w.heap.size w wr
theorem lw_yes {l W : List OpD} {o : OpD} {w wr w1 w5 : World} {i c c3 : Nat} {A A3 : Option Addr} {row : Option Nat} (h : LwI l w i W A c wr) (E : l.drop i = o :: l.drop (i + 1)) (hs : stay o (l.drop (i + 1)) = true) (hb : Below wr.heap.size wr w1) (hl : Left w1 w5 w.heap.size row)
    (hown : Owns w5 w.heap.size 3 (.slice A3 (W.length + 1) c3) (W.length + 1) (W.flatMap OpD.cells ++ [.int .i64 o.Kind, .int .i64 o.At, .string o.Text])) : LwI l w (i + 1) (W ++ [o]) A3 c3 w5 ∧ (W ++ [o]).length = W.length + 1 := by
  have e : (W ++ [o]).length = W.length + 1 := by simp
  refine ⟨{ all := ?_, own := ?_, below := hl.below (Nat.le_refl _) (h.below.trans (hb.mono h.below.size)) }, e⟩
  · rw [← h.all, E, kp_yes hs]; simp
  · rw [e, List.flatMap_append]; simpa [OpD.cells] using hown
theorem lw_no {l W : List OpD} {o : OpD} {w wr w1 : World} {i c : Nat} {A : Option Addr} (h : LwI l w i W A c wr) (E : l.drop i = o :: l.drop (i + 1)) (hs : stay o (l.drop (i + 1)) = false) (hb : Below wr.heap.size wr w1) : LwI l w (i + 1) W A c w1 :=
  { all := by rw [← h.all, E, kp_no hs], own := h.own.fresh_below hb, below := h.below.trans (hb.mono h.below.size) }
theorem lw_len {l W : List OpD} {w wr : World} {i c : Nat} {A : Option Addr} (h : LwI l w i W A c wr) : W.length ≤ l.length := by
  have := congrArg List.length h.all
  rw [List.length_append] at this
  have := kp_le l
  omega

set_option maxRecDepth 20000 in
set_option maxHeartbeats 2000000 in
theorem walk (a0 : Option Addr) (n0 c0 : Nat) (x0 : List OpD) (w : World) (r0 : RowsIn w w.heap.size a0 n0 c0 OpD.cells 3 x0) (o0 : ∀ z ∈ x0, OpD.ok z) (s0 : c0 * 32 ≤ 140737488351232) :
    Calls Try.prog 6 #[.slice a0 n0 c0] w fun e w' => e = .returned (.bool true) ∧ Below w.heap.size w w' := by
  have hn := r0.len
  subst hn
  have htop : (x0.length : Int) ≤ 9223372036854775807 := by have h1 := r0.le; have h2 := r0.top; unfold maxLen at h2; omega
  have R0 := Lib.hid r0
  have HS : Hid (x0.length * 32 ≤ 140737488351232) := by have := r0.le; simp only [Hid]; omega
  have O0 := Lib.hid o0
  clear r0 s0 o0
  have I0 : Hid (LwI x0 w 0 [] none 0 w) := { all := rfl, own := Owns.nil _ _ _, below := Below.refl _ _ }
  go_enter Try.func6, Try.ntmps6
  go_wp2
  go_loopw [3, 7] (fun v3 v7 wr => ∃ (i : Nat) (W : List OpD) (A : Option Addr) (c : Nat), i ≤ x0.length ∧ v7 = .int .i64 i ∧ v3 = .slice A W.length c ∧ Hid (LwI x0 w i W A c wr)) (fun _ v7 _ => x0.length - (intOf v7).toNat)
  case atStart => exact ⟨0, [], none, 0, Nat.zero_le _, rfl, rfl, I0.out⟩
  case round =>
    obtain ⟨i, W, A, c, hi, rfl, rfl, hP⟩ := hrel
    obtain ⟨wq, rfl⟩ : ∃ z : World, z = wr := ⟨_, rfl⟩
    clear I0
    by_cases hlt : i < x0.length
    · have e1 := List.getElem?_eq_getElem hlt
      generalize x0[i] = o at e1
      have E1 := Lib.hid (drop_at e1)
      have HC := Lib.hid (stays_any a0 x0.length c0 x0 i o e1 wq ((R0.out.below hP.out.below).more hP.out.below.size))
      have hnb : Hid (∀ w1, Below wq.heap.size wq w1 → RowsIn w1 w.heap.size a0 x0.length c0 OpD.cells 3 x0) := fun w1 h => R0.out.below (hP.out.below.trans (h.mono hP.out.below.size))
      have j1 : (i : Int) < (x0.length : Int) := by omega
      have G3 : Hid (W.length + 1 ≤ maxLen ∧ (W.length + 1) * 32 ≤ 140737488355328) := by
        have := lw_len hP.out; have := HS.out; unfold maxLen; simp only [Hid]; omega
      have G4 : Hid (0 < 3) := by simp [Hid]
      have HE1 := Lib.hid e1
      clear e1
      obtain ⟨ok, oa, ot⟩ := o
      have G2 : Hid (∀ u ∈ (#[.int .i64 ok, .int .i64 oa, .string ot] : Array Value).toList, u.oneCell' = true) := by simp [Hid, Value.oneCell']
      by_cases hs : stay ⟨ok, oa, ot⟩ (x0.drop (i + 1)) = true
      · have HST := Lib.hid hs
        rw [hs] at HC
        clear hs
        obtain ⟨b, f, rfl, hbB, p0, p1, p2⟩ := opCells3 (R0.out) HE1.out
        simp only at p0 p1 p2
        go_wp2_with (first
          | (go_at_call 33; refine HC.out.mono ?_; rintro e w1 ⟨rfl, hb1⟩; have hb0 := hP.out.below.trans (hb1.mono hP.out.below.size); have q0 := (hb0.cell (p := ⟨b, f + i * 3, none⟩) hbB).trans p0; have q1 := (hb0.cell (p := ⟨b, f + i * 3 + 1, none⟩) hbB).trans p1; have q2 := (hb0.cell (p := ⟨b, f + i * 3 + 2, none⟩) hbB).trans p2; have OW1 := Lib.hid (hP.out.own.fresh_below hb1); have SZ1 := Lib.hid hb0.size)
          | (at_builtin; refine wpList_add1 (size := 3) (bytes := 32) (base := w.heap.size) (news := #[.int .i64 ok, .int .i64 oa, .string ot]) rfl rfl Try.underlying47 info_opl rfl G4.out OW1.out rfl SZ1.out rfl rfl rfl G2.out G3.out.1 G3.out.2 ?_; intro A3 c3 w5 hown5 hl5 hn5))
        obtain ⟨F, e⟩ := lw_yes hP.out E1.out HST.out hb1 hl5 hown5
        have HF := Lib.hid F
        have HE := Lib.hid e
        clear F e
        go_roundw
        case rel => exact ⟨i + 1, _, A3, c3, by omega, by go_num, by rw [HE.out], HF.out⟩
        case measure => (simp [intOf]; try omega)
      · have hs' : stay ⟨ok, oa, ot⟩ (x0.drop (i + 1)) = false := by simpa using hs
        have HST := Lib.hid hs'
        rw [hs'] at HC
        clear hs hs'
        go_wp2_with (go_at_call 33; refine HC.out.mono ?_; rintro e w1 ⟨rfl, hb1⟩)
        have HF := Lib.hid (lw_no hP.out E1.out HST.out hb1)
        go_roundw
        case rel => exact ⟨i + 1, W, A, c, by omega, by go_num, rfl, HF.out⟩
        case measure => (simp [intOf]; try omega)
    · obtain rfl : i = x0.length := by omega
      have j1 : ¬ (x0.length : Int) < (x0.length : Int) := by omega
      obtain rfl : W = kp x0 := by have := hP.out.all; rw [List.drop_length] at this; simpa [kp] using this
      have HC := Lib.hid (lean_any a0 x0.length c0 x0 wq ((R0.out.below hP.out.below).more hP.out.below.size) O0.out (by have := HS.out; omega))
      have RW := Lib.hid (hP.out.own.rows (enc := OpD.cells) (k := 3) (fun _ => rfl) (by decide))
      have HB0 := Lib.hid hP.out.below
      clear hi hlt hP
      go_wp2_with (first
        | (go_at_call 35; refine HC.out.mono ?_; rintro e w1 ⟨D, d, rfl, hr1, hb1⟩; have HR1 := Lib.hid hr1; have HB1 := Lib.hid hb1; clear hr1 hb1)
        | (go_at_call 34; refine (eqyOp _ _ _ (kp x0) _ _ _ _ _ _ HR1.out (RW.out.below HB1.out)).mono ?_; rintro e w2 ⟨rfl, hb2⟩))
      go_ret
      exact ⟨rfl, (HB0.out.trans (HB1.out.mono HB0.out.size)).trans (hb2.mono (Nat.le_trans HB0.out.size HB1.out.size))⟩
end Go.Proofs.Ytjmgocfoimhmjaa.lOpsLeans
