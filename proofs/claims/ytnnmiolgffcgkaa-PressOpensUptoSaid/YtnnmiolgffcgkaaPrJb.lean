/- Books in boxes; the state of press's reader of marks: lemmas. -/
import Derived.Test.YtnnmiolgffcgkaaPrJa
import Derived.Test.YtnnmiolgffcgkaaGetW
import Derived.Test.YtnnmiolgffcgkaaBlk
import Derived.Test.YtnnmiolgffcgkaaRrW
import Derived.Test.YtnnmiolgffcgkaaMakeB
import Derived.Test.YtnnmiolgffcgkaaOneW
import Derived.Test.YtnnmiolgffcgkaaUnpW
import Derived.Test.YtnnmiolgffcgkaaLzW
/- press's reader: num, walked. -/
namespace Go.Proofs.Ytnnmiolgffcgkaa
open Go.RowKit Go.PlainAid

set_option maxRecDepth 20000 in
set_option maxHeartbeats 400000 in
theorem rnum_any (s : ByteArray) (B : Nat) (W : World) (row : W.heap[B]? = some (.cells #[.string s, .bool false] 98 (0, 0))) (hs : s.size ≤ 1048575) :
    Calls Try.prog 69 #[.pointer (some ⟨B, 0, none⟩), .int .u64 512] W fun e w' =>
      (gOk s ∧ e = .returned (.int .i64 (getV (bt s) s.size)) ∧ w' = W.setCell ⟨B, 0, none⟩ (.string (cutB s (getN (bt s) s.size).toNat))) ∨ (¬ gOk s ∧ e = .returned (.int .i64 0) ∧ w' = W.setCell ⟨B, 1, none⟩ (.bool true)) := by
  have c0 := row_cell row 0
  have c1 := row_cell row 1
  have f0 := row_cold row 0
  have f1 := row_cold row 1
  have HG := Lib.hid (get_any s W)
  have hv0 : 0 ≤ getV (bt s) s.size := by unfold getV; split; exact (vsum_bd _ _).1; omega
  have hv1 : getV (bt s) s.size < 18446744073709551616 := by
    unfold getV; split
    · rename_i h; exact vsum_top _ _ (bt_nonneg s) h
    · omega
  by_cases hE : getE (bt s) s.size = 0
  · have hk := get_end hE
    have e1 : (getE (bt s) s.size != 0) = false := by rw [hE]; rfl
    by_cases hV : getV (bt s) s.size ≤ 512
    · have HP : Hid (gOk s) := ⟨hE, hV⟩
      have d1 := decide_eq_false (show ¬ 512 < getV (bt s) s.size by omega)
      clear hE row
      generalize getV (bt s) s.size = v at *
      generalize getE (bt s) s.size = e at *
      obtain ⟨k, hkk⟩ := Int.eq_ofNat_of_zero_le (show 0 ≤ getN (bt s) s.size by omega)
      rw [hkk] at hk HG ⊢
      clear hkk
      have hk2 : k ≤ s.size := by omega
      go_enter Try.func69, Try.ntmps69
      go_wp2_with (go_at_call 33; refine HG.out.mono ?_; rintro e w' ⟨rfl, rfl⟩)
      go_ret
      exact .inl ⟨HP.out, rfl, rfl⟩
    · have HP : Hid (¬ gOk s) := fun h => hV h.2
      have d1 := decide_eq_true (show 512 < getV (bt s) s.size by omega)
      clear hE row hk
      generalize getV (bt s) s.size = v at *
      generalize getE (bt s) s.size = e at *
      generalize getN (bt s) s.size = k at *
      go_enter Try.func69, Try.ntmps69
      go_wp2_with (go_at_call 33; refine HG.out.mono ?_; rintro e w' ⟨rfl, rfl⟩)
      go_ret
      exact .inr ⟨HP.out, rfl, rfl⟩
  · have HP : Hid (¬ gOk s) := fun h => hE h.1
    have e1 : (getE (bt s) s.size != 0) = true := by simpa using hE
    clear hE row
    generalize getV (bt s) s.size = v at *
    generalize getE (bt s) s.size = e at *
    generalize getN (bt s) s.size = k at *
    go_enter Try.func69, Try.ntmps69
    go_wp2_with (go_at_call 33; refine HG.out.mono ?_; rintro e w' ⟨rfl, rfl⟩)
    go_ret
    exact .inr ⟨HP.out, rfl, rfl⟩
end Go.Proofs.Ytnnmiolgffcgkaa

/- press's reader: lens, walked. -/
namespace Go.Proofs.Ytnnmiolgffcgkaa
open Go.RowKit Go.PlainAid

/-- A row of ints lies in no block that holds a text. -/
theorem ints_past {w w' : World} {B M n c : Nat} {A : Option Addr} {xs : List Int} {s : ByteArray} {b : Bool} {t : TypeId} (r : RowsIn w B A n c (fun z => [.int .i64 z]) 1 xs) (hr : w.heap[M]? = some (.cells #[.string s, .bool b] t (0, 0))) (hB : B ≤ w.heap.size) (hg : w.grownBy w' (some M)) : RowsIn w' B A n c (fun z => [.int .i64 z]) 1 xs :=
  ⟨r.len, r.le, r.top, fun i x hx => by
    obtain ⟨b, o, e, hb, hc⟩ := r.at_ i x hx
    have h0 := hc 0 _ rfl
    refine ⟨b, o, e, hb, fun j u hu => ?_⟩
    have hne : b ≠ M := fun e => by
      subst e
      rw [row_cell hr] at h0
      match o + i * 1 + 0, h0 with
      | 0, h0 => simp at h0
      | 1, h0 => simp at h0
      | k + 2, h0 => simp at h0
    exact (World.cell?_of_block (a := ⟨b, _, none⟩) (hg.block b (by omega) (fun e => hne (by injection e)))).trans (hc j u hu)⟩
theorem grown_set {w : World} {M z : Nat} {v : Value} : w.grownBy (w.setCell ⟨M, z, none⟩ v) (some M) :=
  ⟨rfl, rfl, rfl, by simp [World.setCell], fun k _ hne => Below.heap_setCell w ⟨M, z, none⟩ v k (fun e => hne (by rw [e]))⟩
/-- What a call that makes memory leaves, but for the answer's own block. -/
theorem grown_of_below {w w' : World} {M : Nat} (h : Below w.heap.size w w') : w.grownBy w' (some M) := ⟨h.os, h.tape, h.output, h.size, fun k hk _ => h.block k hk⟩

theorem alloc_lt {W w2 : World} {o : Obj} (h : Below (W.alloc o).heap.size (W.alloc o) w2) : W.heap.size < w2.heap.size := by have := h.size; simp at this; omega
theorem far_ne {W w2 : World} {p : Addr} {v : Value} {A : Option Addr} {b o : Nat} (hA : ∀ a, A = some a → (w2.setCell p v).heap.size ≤ a.block) (h : W.heap.size < w2.heap.size) (e : A = some ⟨b, o, none⟩) : b ≠ W.heap.size := by
  have h1 := hA _ e
  simp [World.setCell] at h1; omega
set_option maxRecDepth 20000 in
set_option maxHeartbeats 1000000 in
theorem rlens_no (s : ByteArray) (B want : Nat) (W : World) (row : W.heap[B]? = some (.cells #[.string s, .bool false] 98 (0, 0))) (hs : s.size ≤ 1048575) (h : ¬ lnOk s want) :
    Calls Try.prog 100 #[.pointer (some ⟨B, 0, none⟩), .int .i64 want] W fun e w' =>
      e = .returned (.agg bookZ) ∧ W.grownBy w' (some B) ∧ w'.heap[B]? = some (.cells #[.string s, .bool true] 98 (0, 0)) := by
  have hlt := row_lt row
  have HR : Hid (∀ V, Calls Try.prog 37 #[.string s] V fun e w' => ∃ A q c, e = .returned (.tuple #[.slice A q c, .int .i64 (rrAt s), .int .i64 (rrE s)]) ∧ RowsIn w' w'.heap.size A q c (fun z => [.int .i64 z]) 1 (rrX s) ∧ Below V.heap.size V w') := fun V => rread_any s V (by omega)
  have c0 : W.cell? ⟨B, 0, none⟩ = some (.string s) := row_cell row 0
  have HROW := Lib.hid row
  have hone : Hid (bookZ.all (·.oneCell') = true) := book_one _ _ _ _ none 0 0 rfl
  have hinf : Hid ((Try.prog.info? 118).map (·.size) = some bookZ.size) := info_book
  have hzero : Hid (∀ V : World, (V.alloc (.cells bookZ 118)).heap[V.heap.size]? = some (.cells bookZ 118 (0, 0))) := fun V => heap_alloc_new V _
  have HC : Hid (∀ (A : Option Addr) (n c : Nat) (V : World), RowsIn V V.heap.size A n c (fun z => [.int .i64 z]) 1 (rrX s) → Calls Try.prog 82 #[.slice A n c] V fun e w' => ∃ A q c, e = .returned (.tuple #[.slice A q c, .int .i64 (canE (rrX s))]) ∧ Below V.heap.size V w') := fun A n c V r => (canon_any A n c (rrX s) V r).mono (by rintro e w' ⟨A', q, c', h1, _, h2⟩; exact ⟨A', q, c', h1, h2⟩)
  have hpost : Hid (∀ w1 : World, Below (W.alloc (.cells bookZ 118)).heap.size (W.alloc (.cells bookZ 118)) w1 → W.grownBy ((w1.setCell ⟨B, 1, none⟩ (.bool true)).setRow W.heap.size bookZ) (some B) ∧ ((w1.setCell ⟨B, 1, none⟩ (.bool true)).setRow W.heap.size bookZ).heap[B]? = some (.cells #[.string s, .bool true] 98 (0, 0))) := by
    intro w1 hb
    have hb0 : Below W.heap.size W w1 := (((Below.refl _ _).alloc (Nat.le_refl _) _)).trans (hb.mono (by simp))
    refine ⟨⟨hb0.os, hb0.tape, hb0.output, by simp [World.setRow, World.setCell]; exact hb0.size, fun k hk hne => ?_⟩, ?_⟩
    · rw [setRow_other _ _ _ _ (by omega), heap_setCell_other _ _ _ _ (fun e => hne (by rw [e]))]
      exact hb0.block k hk
    · rw [setRow_other _ _ _ _ (by omega)]
      exact row_store (row_below row hlt hb0)
  have HU : Hid (Try.prog.underlying 118 = _) := Try.underlying118
  unfold lnOk at h
  generalize rrX s = X at *
  generalize rrE s = E at *
  generalize rrAt s = K at *
  by_cases hE : E = 0
  · by_cases hX : X.length = want
    · have hC : canE X ≠ 0 := fun k => h ⟨hE, hX, k⟩
      have d0 : (E != 0) = false := by rw [hE]; rfl
      have d1 : ((X.length : Int) != (want : Int)) = false := by rw [bne_eq_false_iff_eq]; omega
      have d2 : (canE X != 0) = true := by simpa using hC
      clear h hE hX hC row
      generalize canE X = Z at *
      go_enter Try.func100, Try.ntmps100
      go_wp2_with (first
        | (go_at_call 37; refine (HR.out _).mono ?_; rintro e w1 ⟨A1, n1, c1, rfl, r1, hb1⟩; obtain rfl := r1.len; have R1 := Lib.hid r1; have HB1 := Lib.hid hb1; clear r1 hb1)
        | (go_at_call 82; refine (HC.out _ _ _ _ R1.out).mono ?_; rintro e w2 ⟨A2, n2, c2, rfl, hb2⟩; have HB2 := Lib.hid (HB1.out.trans (hb2.mono HB1.out.size)); have HP := hpost.out _ HB2.out; have hr0 := row_below (hzero.out W) (by simp) HB2.out; have hrB := row_below (row_alloc HROW.out (.cells bookZ 118)) (by simp; omega) HB2.out; have b1 : w2.cell? ⟨B, 1, none⟩ = some (.bool false) := row_cell hrB 1; have b2 := row_cold hrB 1; have HRES := Lib.hid (row_other (a := ⟨B, 1, none⟩) (v := .bool true) hr0 (by simp; omega)); have HPP := Lib.hid HP; clear HP hr0 hrB hb2)
        | (refine wpList_store_rowTo rfl _ _ _ rfl rfl W.heap.size bookZ rfl rfl 118 bookZ HRES.out hinf.out rfl hone.out ?_))
      refine bodyPost_ret (results_cell_row rfl _ _ W.heap.size _ bookZ (0, 0) _ rfl (row_set HRES.out) HU.out rfl hinf.out) rfl ?_
      exact ⟨rfl, HPP.out⟩
    · have d0 : (E != 0) = false := by rw [hE]; rfl
      have d1 : ((X.length : Int) != (want : Int)) = true := by rw [bne_iff_ne]; omega
      clear h hE hX row
      go_enter Try.func100, Try.ntmps100
      go_wp2_with (first
      | (go_at_call 37; refine (HR.out _).mono ?_; rintro e w1 ⟨A1, n1, c1, rfl, r1, hb1⟩; obtain rfl := r1.len; have R1 := Lib.hid r1; have HP := hpost.out _ hb1; have hr0 := row_below (hzero.out W) (by simp) hb1; have hrB := row_below (row_alloc HROW.out (.cells bookZ 118)) (by simp; omega) hb1; have b1 : w1.cell? ⟨B, 1, none⟩ = some (.bool false) := row_cell hrB 1; have b2 := row_cold hrB 1; have HRES := Lib.hid (row_other (a := ⟨B, 1, none⟩) (v := .bool true) hr0 (by simp; omega)); have HPP := Lib.hid HP; have HB1 := Lib.hid hb1; clear HP hr0 hrB r1 hb1)
      | (refine wpList_store_rowTo rfl _ _ _ rfl rfl W.heap.size bookZ rfl rfl 118 bookZ HRES.out hinf.out rfl hone.out ?_))
      refine bodyPost_ret (results_cell_row rfl _ _ W.heap.size _ bookZ (0, 0) _ rfl (row_set HRES.out) HU.out rfl hinf.out) rfl ?_
      exact ⟨rfl, HPP.out⟩
  · have d0 : (E != 0) = true := by simpa using hE
    clear h hE row
    go_enter Try.func100, Try.ntmps100
    go_wp2_with (first
      | (go_at_call 37; refine (HR.out _).mono ?_; rintro e w1 ⟨A1, n1, c1, rfl, r1, hb1⟩; obtain rfl := r1.len; have R1 := Lib.hid r1; have HP := hpost.out _ hb1; have hr0 := row_below (hzero.out W) (by simp) hb1; have hrB := row_below (row_alloc HROW.out (.cells bookZ 118)) (by simp; omega) hb1; have b1 : w1.cell? ⟨B, 1, none⟩ = some (.bool false) := row_cell hrB 1; have b2 := row_cold hrB 1; have HRES := Lib.hid (row_other (a := ⟨B, 1, none⟩) (v := .bool true) hr0 (by simp; omega)); have HPP := Lib.hid HP; have HB1 := Lib.hid hb1; clear HP hr0 hrB r1 hb1)
      | (refine wpList_store_rowTo rfl _ _ _ rfl rfl W.heap.size bookZ rfl rfl 118 bookZ HRES.out hinf.out rfl hone.out ?_))
    refine bodyPost_ret (results_cell_row rfl _ _ W.heap.size _ bookZ (0, 0) _ rfl (row_set HRES.out) HU.out rfl hinf.out) rfl ?_
    exact ⟨rfl, HPP.out⟩

def LensPost (s : ByteArray) (B : Nat) (W : World) (e : Ending) (w' : World) : Prop := ∃ A c, e = .returned (.agg (bookA (.slice A (sgL (rrX s) 16).length c) (bkF (rrX s) 16) (bkG (rrX s) 16) (bkC (rrX s)))) ∧ RowsIn w' w'.heap.size A (sgL (rrX s) 16).length c (fun z => [.int .i64 z]) 1 (sgL (rrX s) 16) ∧ W.grownBy w' (some B) ∧ w'.heap[B]? = some (.cells #[.string (cutB s (rrAt s).toNat), .bool false] 98 (0, 0))
theorem lens_end {s : ByteArray} {B : Nat} {W w2 w3 : World} {A : Option Addr} {c : Nat} {CS : Array Value} (hlt : B < W.heap.size) (hb0 : Below W.heap.size W w2) (hb1 : W.heap.size < w2.heap.size) (row : w2.heap[B]? = some (.cells #[.string s, .bool false] 98 (0, 0))) (hres : w2.heap[W.heap.size]? = some (.cells bookZ 118 (0, 0)))
    (hb3 : Below w2.heap.size (w2.setCell ⟨B, 0, none⟩ (.string (cutB s (rrAt s).toNat))) w3) (r : RowsIn w3 w3.heap.size A (sgL (rrX s) 16).length c (fun z => [.int .i64 z]) 1 (sgL (rrX s) 16)) (hCS : CS = bookA (.slice A (sgL (rrX s) 16).length c) (bkF (rrX s) 16) (bkG (rrX s) 16) (bkC (rrX s))) :
    w3.heap[W.heap.size]? = some (.cells bookZ 118 (0, 0)) ∧ ((∀ b o, A = some ⟨b, o, none⟩ → 0 < (sgL (rrX s) 16).length → b ≠ W.heap.size) → LensPost s B W (.returned (.agg CS)) (w3.setRow W.heap.size CS)) := by
  have h3 : w3.heap[W.heap.size]? = some (.cells bookZ 118 (0, 0)) := by
    rw [hb3.block _ hb1, heap_setCell_other _ _ _ _ (show W.heap.size ≠ B by omega)]; exact hres
  refine ⟨h3, fun hA => ?_⟩
  subst hCS
  have hz := hb3.size
  have hz2 : (w2.setCell ⟨B, 0, none⟩ (.string (cutB s (rrAt s).toNat))).heap.size = w2.heap.size := by simp [World.setCell]
  refine ⟨A, c, rfl, ?_, ⟨?_, ?_, ?_, ?_, ?_⟩, ?_⟩
  · exact ⟨r.len, r.le, r.top, fun i x hx => by
      obtain ⟨b, o, e, hb, hc⟩ := r.at_ i x hx
      have hne := hA b o e (by have := (List.getElem?_eq_some_iff.1 hx).1; omega)
      exact ⟨b, o, e, by simpa [World.setRow] using hb, fun j u hu => (World.cell?_of_block (a := ⟨b, _, none⟩) (setRow_other _ _ _ _ hne)).trans (hc j u hu)⟩⟩
  · exact hb3.os.trans hb0.os
  · exact hb3.tape.trans hb0.tape
  · exact hb3.output.trans hb0.output
  · have := hb0.size; simp [World.setRow]; omega
  · intro k hk hne
    rw [setRow_other _ _ _ _ (by omega), hb3.block k (by have := hb0.size; omega), heap_setCell_other _ _ _ _ (fun e => hne (by rw [e]))]
    exact hb0.block k hk
  · rw [setRow_other _ _ _ _ (by omega), hb3.block B (by have := hb0.size; omega)]
    exact row_store row

set_option maxRecDepth 20000 in
set_option maxHeartbeats 1000000 in
theorem rlens_ok (s : ByteArray) (B want : Nat) (W : World) (row : W.heap[B]? = some (.cells #[.string s, .bool false] 98 (0, 0))) (hs : s.size ≤ 1048575) (h : lnOk s want) (hw : want ≤ 320) :
    Calls Try.prog 100 #[.pointer (some ⟨B, 0, none⟩), .int .i64 want] W (LensPost s B W) := by
  have hlt := row_lt row
  have HR : Hid (∀ V, Calls Try.prog 37 #[.string s] V fun e w' => ∃ A q c, e = .returned (.tuple #[.slice A q c, .int .i64 (rrAt s), .int .i64 (rrE s)]) ∧ RowsIn w' w'.heap.size A q c (fun z => [.int .i64 z]) 1 (rrX s) ∧ Below V.heap.size V w') := fun V => rread_any s V (by omega)
  have c0 : W.cell? ⟨B, 0, none⟩ = some (.string s) := row_cell row 0
  have HROW := Lib.hid row
  have hinf : Hid ((Try.prog.info? 118).map (·.size) = some bookZ.size) := info_book
  have hzero : Hid (∀ V : World, (V.alloc (.cells bookZ 118)).heap[V.heap.size]? = some (.cells bookZ 118 (0, 0))) := fun V => heap_alloc_new V _
  have HC : Hid (∀ (A : Option Addr) (n c : Nat) (V : World), RowsIn V V.heap.size A n c (fun z => [.int .i64 z]) 1 (rrX s) → Calls Try.prog 82 #[.slice A n c] V fun e w' => ∃ A q c, e = .returned (.tuple #[.slice A q c, .int .i64 (canE (rrX s))]) ∧ Below V.heap.size V w') := fun A n c V r => (canon_any A n c (rrX s) V r).mono (by rintro e w' ⟨A', q, c', h1, _, h2⟩; exact ⟨A', q, c', h1, h2⟩)
  have HU : Hid (Try.prog.underlying 118 = _) := Try.underlying118
  obtain ⟨hE, hX, hC⟩ := h
  have hbd := rrAt_bd hE
  obtain ⟨k, hk⟩ := Int.eq_ofNat_of_zero_le hbd.1
  have HM : Hid (∀ (A : Option Addr) (n c : Nat) (V : World), RowsIn V V.heap.size A n c (fun z => [.int .i64 z]) 1 (rrX s) → Calls Try.prog 83 #[.slice A n c] V (BkPost (rrX s) V)) := fun A n c V r => bmake_any A n c (rrX s) V r hC (by have := r.len; omega)
  have HEND : Hid (∀ (w2 w3 : World) (A : Option Addr) (c : Nat) (CS : Array Value), Below W.heap.size W w2 → W.heap.size < w2.heap.size → w2.heap[B]? = some (.cells #[.string s, .bool false] 98 (0, 0)) → w2.heap[W.heap.size]? = some (.cells bookZ 118 (0, 0)) → Below w2.heap.size (w2.setCell ⟨B, 0, none⟩ (.string (cutB s (rrAt s).toNat))) w3 → RowsIn w3 w3.heap.size A (sgL (rrX s) 16).length c (fun z => [.int .i64 z]) 1 (sgL (rrX s) 16) → CS = bookA (.slice A (sgL (rrX s) 16).length c) (bkF (rrX s) 16) (bkG (rrX s) 16) (bkC (rrX s)) → w3.heap[W.heap.size]? = some (.cells bookZ 118 (0, 0)) ∧ ((∀ b o, A = some ⟨b, o, none⟩ → 0 < (sgL (rrX s) 16).length → b ≠ W.heap.size) → LensPost s B W (.returned (.agg CS)) (w3.setRow W.heap.size CS))) := fun w2 w3 A c CS a1 a2 a3 a4 a5 a6 a7 => lens_end hlt a1 a2 a3 a4 a5 a6 a7
  have hk2 : k ≤ s.size := by omega
  have d0 : (rrE s != 0) = false := by rw [hE]; rfl
  have d1 : ((want : Int) != (want : Int)) = false := by rw [bne_eq_false_iff_eq]
  have d2 : (canE (rrX s) != 0) = false := by rw [hC]; rfl
  have HX := Lib.hid hX
  rw [hk] at HR HEND
  rw [Int.toNat_natCast] at HEND
  generalize LensPost s B W = PP at *
  unfold BkPost at HM
  generalize canE (rrX s) = Z at *
  generalize bkF (rrX s) 16 = F at *
  generalize bkG (rrX s) 16 = G at *
  generalize bkC (rrX s) = C at *
  generalize sgL (rrX s) 16 = SG at *
  generalize rrX s = X at *
  generalize rrE s = E at *
  clear hE hX hC hbd hk row hw
  go_enter Try.func100, Try.ntmps100
  go_wp2_with (first
    | (go_at_call 37; refine (HR.out _).mono ?_; rintro e w1 ⟨A1, n1, c1, rfl, r1, hb1⟩; have hn1 := r1.len; rw [HX.out] at hn1; subst hn1; have R1 := Lib.hid r1; have HB1 := Lib.hid hb1; clear r1 hb1)
    | (go_at_call 82; refine (HC.out _ _ _ _ R1.out).mono ?_; rintro e w2 ⟨A2, n2, c2, rfl, hb2⟩; have HB2 := Lib.hid (HB1.out.trans (hb2.mono HB1.out.size)); have hr0 := Lib.hid (row_below (hzero.out W) (by simp) HB2.out); have hrB := Lib.hid (row_below (row_alloc HROW.out (.cells bookZ 118)) (by simp; omega) HB2.out); have b1 : w2.cell? ⟨B, 0, none⟩ = some (.string s) := row_cell hrB.out 0; have b2 := row_cold hrB.out 0; have R2 := Lib.hid (ints_past ((R1.out.below hb2).more hb2.size) hrB.out (Nat.le_refl _) (grown_set (z := 0) (v := .string (s.extract k s.size)))); have HLT2 := Lib.hid (alloc_lt HB2.out); clear hb2)
    | (go_at_call 83; refine (HM.out _ _ _ _ (R2.out.more (by simp [World.setCell]))).mono ?_; rintro e w3 ⟨A3, c3, rfl, r3, hb3, hA3⟩; obtain ⟨h3, hP⟩ := HEND.out w2 w3 A3 c3 _ ((((Below.refl _ _).alloc (Nat.le_refl _) _)).trans (HB2.out.mono (by simp))) HLT2.out hrB.out hr0.out (hb3.mono (by simp [World.setCell])) r3 rfl; have HPP := Lib.hid (hP (fun b o e _ => far_ne hA3 HLT2.out e)); have hone : Hid ((bookA (.slice A3 SG.length c3) F G C).all (·.oneCell') = true) := book_one _ _ _ _ A3 _ c3 rfl; have hinf3 : Hid ((Try.prog.info? 118).map (·.size) = some (bookA (.slice A3 SG.length c3) F G C).size) := info_book; have hold : Hid (bookZ.size = (bookA (.slice A3 SG.length c3) F G C).size) := rfl; have H3 := Lib.hid h3; clear h3 hP r3 hb3 hA3; generalize bookA (.slice A3 SG.length c3) F G C = CS at *)
    | (refine wpList_store_rowTo rfl _ _ _ rfl rfl W.heap.size CS rfl rfl 118 bookZ H3.out hinf3.out hold.out hone.out ?_))
  refine bodyPost_ret (results_cell_row rfl _ _ W.heap.size _ CS (0, 0) _ rfl (row_set H3.out) HU.out rfl hinf3.out) rfl ?_
  exact HPP.out
end Go.Proofs.Ytnnmiolgffcgkaa

namespace Go.Proofs.Ytnnmiolgffcgkaa
open Go.RowKit Go.PlainAid

/-- CS is the book of the lengths l. -/
def BookIn (l : List Int) (CS : Array Value) (w : World) : Prop := ∃ A c, CS = bookA (.slice A (sgL l 16).length c) (bkF l 16) (bkG l 16) (bkC l) ∧ RowsIn w w.heap.size A (sgL l 16).length c (fun z => [.int .i64 z]) 1 (sgL l 16)
theorem BookIn.size {l : List Int} {CS : Array Value} {w : World} (h : BookIn l CS w) : CS.size = 49 := by obtain ⟨A, c, rfl, _⟩ := h; rfl
theorem BookIn.one {l : List Int} {CS : Array Value} {w : World} (h : BookIn l CS w) : CS.all (·.oneCell') = true := by obtain ⟨A, c, rfl, _⟩ := h; exact book_one _ _ _ _ A _ c rfl
theorem BookIn.below {l : List Int} {CS : Array Value} {w w' : World} (h : BookIn l CS w) (hb : Below w.heap.size w w') : BookIn l CS w' := by
  obtain ⟨A, c, e, r⟩ := h; exact ⟨A, c, e, (r.below hb).more hb.size⟩
theorem BookIn.past {l : List Int} {CS : Array Value} {w w' : World} {M : Nat} {s : ByteArray} {b : Bool} {t : TypeId} (h : BookIn l CS w) (hr : w.heap[M]? = some (.cells #[.string s, .bool b] t (0, 0))) (hg : w.grownBy w' (some M)) : BookIn l CS w' := by
  obtain ⟨A, c, e, r⟩ := h; exact ⟨A, c, e, (ints_past r hr (Nat.le_refl _) hg).more hg.size⟩
def LensPost2 (s : ByteArray) (B : Nat) (W : World) (e : Ending) (w' : World) : Prop := ∃ CS, e = .returned (.agg CS) ∧ BookIn (rrX s) CS w' ∧ W.grownBy w' (some B) ∧ w'.heap[B]? = some (.cells #[.string (cutB s (rrAt s).toNat), .bool false] 98 (0, 0))
theorem rlens_ok2 (s : ByteArray) (B want : Nat) (W : World) (row : W.heap[B]? = some (.cells #[.string s, .bool false] 98 (0, 0))) (hs : s.size ≤ 1048575) (h : lnOk s want) (hw : want ≤ 320) :
    Calls Try.prog 100 #[.pointer (some ⟨B, 0, none⟩), .int .i64 want] W (LensPost2 s B W) :=
  (rlens_ok s B want W row hs h hw).mono (by rintro e w' ⟨A, c, h1, h2, h3, h4⟩; exact ⟨_, h1, ⟨A, c, rfl, h2⟩, h3, h4⟩)
section
variable {w : World} {ops : Array Oper} {rest : List Oper} {o : Oper} {a : Act} {Q : Exit → Act → World → Prop}
/-- A book laid in a box of its own. -/
theorem wpList_store_book (hgd : o.guard = none) (x y : Operand) (ho : o.op = .store 118 x y) (hd : o.dst = none) (w1 : World) (CS : Array Value) (hx : a.eval x = .pointer (some ⟨w1.heap.size, 0, none⟩)) (hy : a.eval y = .agg CS) (hsz : CS.size = 49) (hone : CS.all (·.oneCell') = true)
    (h : ∀ w2, w2.heap[w1.heap.size]? = some (.cells CS 118 (0, 0)) → Below w1.heap.size w1 w2 → w1.heap.size < w2.heap.size → wpList Try.prog ops Q rest a w2) :
    wpList Try.prog ops Q (o :: rest) a (w1.alloc (.cells bookZ 118)) := by
  have h0 := heap_alloc_new w1 (.cells bookZ 118)
  refine wpList_store_rowTo hgd _ x y ho hd w1.heap.size CS hx hy 118 bookZ h0 (by rw [hsz]; exact info_book) (by rw [hsz]; rfl) hone ?_
  exact h _ (row_set h0) (below_setRow ((Below.refl _ _).alloc (Nat.le_refl _) _) (Nat.le_refl _) _) (by simp [World.setRow])
end
theorem bk_one {l : List Int} {CS : Array Value} {V : World} {M : Nat} (s : ByteArray) (a : Nat) (hb : BookIn l CS V) (row : V.heap[M]? = some (.cells CS 118 (0, 0))) (hcan : canE l = 0) (hl : l.length ≤ 320) (ha : a ≤ 8 * s.size) (hs : s.size ≤ 1048575) :
    Calls Try.prog 84 #[.pointer (some ⟨M, 0, none⟩), .string s, .int .i64 a] V fun e w' => ∃ q : Nat, e = .returned (.tuple #[.int .i64 (one l s a).1, .int .i64 (one l s a).2.1, .int .i64 (one l s a).2.2]) ∧ w' = V.drewN q := by
  obtain ⟨A, c, rfl, r⟩ := hb
  exact one_any l s a A c M V row r hcan hl ha hs
/-- What the reader of marks leaves. -/
def MkPost (s : ByteArray) (m : Nat) (B : Nat) (W : World) (e : Ending) (w' : World) : Prop := ∃ (A : Option Addr) (n c : Nat) (s' : ByteArray) (b : Bool) (L : List Mark), e = .returned (.slice A n c) ∧ w'.heap[B]? = some (.cells #[.string s', .bool b] 98 (0, 0)) ∧ RowsIn w' w'.heap.size A n c Mark.cells 3 L ∧ W.grownBy w' (some B) ∧ (∀ z ∈ L, Mark.ok z) ∧ L.length ≤ 512 ∧ ((b = true ∧ marksR s m = none) ∨ (b = false ∧ marksR s m = some L))
theorem no_marks (w : World) : RowsIn w w.heap.size none 0 0 Mark.cells 3 ([] : List Mark) := ⟨rfl, Nat.le_refl _, Nat.zero_le _, fun i x h => by simp at h⟩
theorem mkPost_bad {s s' : ByteArray} {m B : Nat} {W w' : World} (h : marksR s m = none) (hr : w'.heap[B]? = some (.cells #[.string s', .bool true] 98 (0, 0))) (hg : W.grownBy w' (some B)) : MkPost s m B W (.returned (.slice none 0 0)) w' :=
  ⟨none, 0, 0, s', true, [], rfl, hr, no_marks _, hg, fun z hz => by simp at hz, by simp, .inl ⟨rfl, h⟩⟩
theorem grown_box {W w1 w2 : World} {B : Nat} (h : W.grownBy w1 (some B)) (hb : Below w1.heap.size w1 w2) : W.grownBy w2 (some B) := grown_trans_row h (grown_of_below hb)

set_option maxRecDepth 20000 in
set_option maxHeartbeats 1000000 in
theorem rmarks_no1 (s : ByteArray) (B m : Nat) (W : World) (row : W.heap[B]? = some (.cells #[.string s, .bool false] 98 (0, 0))) (hs : s.size ≤ 1048575) (h : ¬ lnOk s 320) :
    Calls Try.prog 71 #[.pointer (some ⟨B, 0, none⟩), .int .i64 m] W (MkPost s m B W) := by
  have HL := Lib.hid (rlens_no s B 320 W row hs h)
  have HM := Lib.hid (fun (s' : ByteArray) (w' : World) h1 h2 => mkPost_bad (s' := s') (B := B) (W := W) (w' := w') (marksR_1 (m := m) h) h1 h2)
  have hlt := row_lt row
  have hone : Hid (bookZ.all (·.oneCell') = true) := book_one _ _ _ _ none 0 0 rfl
  generalize MkPost s m B W = PP at *
  clear row h
  go_enter Try.func71, Try.ntmps71
  go_wp2_with (first
    | (refine wpList_store_book rfl _ _ rfl rfl w1 bookZ rfl rfl rfl hone.out ?_; intro w2 ra hb2 hlt2; have rb2 := row_below rb1.out (row_lt rb1.out) hb2; have HP := Lib.hid (HM.out _ w2 rb2 (grown_box g1.out hb2)); have k1 : w2.cell? ⟨B, 1, none⟩ = some (.bool true) := row_cell rb2 1; clear ra hb2 rb2)
    | (go_at_call 100; refine HL.out.mono ?_; rintro e w1 ⟨rfl, g1, rb1⟩; replace g1 := Lib.hid g1; replace rb1 := Lib.hid rb1))
  exact HP.out
set_option maxRecDepth 20000 in
set_option maxHeartbeats 1000000 in
theorem rmarks_no2 (s s2 : ByteArray) (B m : Nat) (W : World) (row : W.heap[B]? = some (.cells #[.string s, .bool false] 98 (0, 0))) (hs : s.size ≤ 1048575) (h : lnOk s 320) (e2 : s2 = cutB s (rrAt s).toNat) (hs2 : s2.size ≤ 1048575) (h2 : ¬ lnOk s2 9) :
    Calls Try.prog 71 #[.pointer (some ⟨B, 0, none⟩), .int .i64 m] W (MkPost s m B W) := by
  have HL := Lib.hid (rlens_ok2 s B 320 W row hs h (by omega))
  have HL2 : Hid (∀ V : World, V.heap[B]? = some (.cells #[.string s2, .bool false] 98 (0, 0)) → Calls Try.prog 100 #[.pointer (some ⟨B, 0, none⟩), .int .i64 9] V fun e w' => e = .returned (.agg bookZ) ∧ V.grownBy w' (some B) ∧ w'.heap[B]? = some (.cells #[.string s2, .bool true] 98 (0, 0))) := fun V r => rlens_no s2 B 9 V r hs2 h2
  have HM := Lib.hid (fun (s' : ByteArray) (w' : World) h1 h3 => mkPost_bad (s' := s') (B := B) (W := W) (w' := w') (marksR_2 (m := m) h e2 h2) h1 h3)
  have hlt := row_lt row
  have hone : Hid (bookZ.all (·.oneCell') = true) := book_one _ _ _ _ none 0 0 rfl
  unfold LensPost2 at HL
  rw [← e2] at HL
  generalize MkPost s m B W = PP at *
  generalize rrX s = X at *
  clear row h h2 e2
  go_enter Try.func71, Try.ntmps71
  go_wp2_with (first
    | (refine wpList_store_book rfl _ _ rfl rfl w3 bookZ rfl rfl rfl hone.out ?_; intro w4 rd hb4 hlt4; have rb4 := row_below rb3.out (row_lt rb3.out) hb4; have HP := Lib.hid (HM.out _ w4 rb4 (grown_box g3.out hb4)); have k4 : w4.cell? ⟨B, 1, none⟩ = some (.bool true) := row_cell rb4 1; clear rd hb4 rb4)
    | (go_at_call 100; refine (HL2.out w2 rb2.out).mono ?_; rintro e w3 ⟨rfl, g3, rb3⟩; replace g3 := Lib.hid (grown_trans_row g2.out g3); replace rb3 := Lib.hid rb3)
    | (refine wpList_store_book rfl _ _ rfl rfl w1 CS1 rfl rfl hb1.out.size hb1.out.one ?_; intro w2 ra hb2 hlt2; have rb2 := Lib.hid (row_below rb1.out (row_lt rb1.out) hb2); have g2 := Lib.hid (grown_box g1.out hb2); have k2 : w2.cell? ⟨B, 1, none⟩ = some (.bool false) := row_cell rb2.out 1; clear ra hb2)
    | (go_at_call 100; refine HL.out.mono ?_; rintro e w1 ⟨CS1, rfl, hb1, g1, rb1⟩; replace g1 := Lib.hid g1; replace rb1 := Lib.hid rb1; replace hb1 := Lib.hid hb1))
  exact HP.out
end Go.Proofs.Ytnnmiolgffcgkaa
