/- press's reader: lens, walked. -/
import Derived.Test.YtebgcemglicjiaaPrsN
import Derived.Test.YtebgcemglicjiaaRrW
import Derived.Test.YtebgcemglicjiaaMakeB
namespace Go.Proofs.Ytebgcemglicjiaa
open Go.RowKit Go.PlainAid

/-- A row of ints lies in no block that holds a text. -/
theorem ints_past {w w' : World} {B M n c : Nat} {A : Option Addr} {xs : List Int} {s : ByteArray} {b : Bool} {t : TypeId} (r : RowsIn w B A n c (fun z => [.int .i64 z]) 1 xs) (hr : w.heap[M]? = some (.cells #[.string s, .bool b] t (0, 0))) (hB : B ≤ w.heap.size) (hg : w.grownBy w' (some M)) : RowsIn w' B A n c (fun z => [.int .i64 z]) 1 xs :=
  ⟨r.len, r.le, r.top, fun i x hx => by
    obtain ⟨b, o, e, hb, hc⟩ := r.at_ i x hx
    have h0 := hc 0 _ rfl
    refine ⟨b, o, e, hb, fun j u hu => ?_⟩
    have hne : b ≠ M := fun e => by
      subst e
      rw [row_cell hr] at h0
      match o + i * 1 + 0, h0 with
      | 0, h0 => simp at h0
      | 1, h0 => simp at h0
      | k + 2, h0 => simp at h0
    exact (World.cell?_of_block (a := ⟨b, _, none⟩) (hg.block b (by omega) (fun e => hne (by injection e)))).trans (hc j u hu)⟩
theorem grown_set {w : World} {M z : Nat} {v : Value} : w.grownBy (w.setCell ⟨M, z, none⟩ v) (some M) :=
  ⟨rfl, rfl, rfl, by simp [World.setCell], fun k _ hne => Below.heap_setCell w ⟨M, z, none⟩ v k (fun e => hne (by rw [e]))⟩
/-- What a call that makes memory leaves, but for the answer's own block. -/
theorem grown_of_below {w w' : World} {M : Nat} (h : Below w.heap.size w w') : w.grownBy w' (some M) := ⟨h.os, h.tape, h.output, h.size, fun k hk _ => h.block k hk⟩

theorem alloc_lt {W w2 : World} {o : Obj} (h : Below (W.alloc o).heap.size (W.alloc o) w2) : W.heap.size < w2.heap.size := by have := h.size; simp at this; omega
theorem far_ne {W w2 : World} {p : Addr} {v : Value} {A : Option Addr} {b o : Nat} (hA : ∀ a, A = some a → (w2.setCell p v).heap.size ≤ a.block) (h : W.heap.size < w2.heap.size) (e : A = some ⟨b, o, none⟩) : b ≠ W.heap.size := by
  have h1 := hA _ e
  simp [World.setCell] at h1; omega
set_option maxRecDepth 20000 in
set_option maxHeartbeats 1000000 in
theorem rlens_no (s : ByteArray) (B want : Nat) (W : World) (row : W.heap[B]? = some (.cells #[.string s, .bool false] 57 (0, 0))) (hs : s.size ≤ 1048575) (h : ¬ lnOk s want) :
    Calls Try.prog 54 #[.pointer (some ⟨B, 0, none⟩), .int .i64 want] W fun e w' =>
      e = .returned (.agg bookZ) ∧ W.grownBy w' (some B) ∧ w'.heap[B]? = some (.cells #[.string s, .bool true] 57 (0, 0)) := by
  have hlt := row_lt row
  have HR : Hid (∀ V, Calls Try.prog 71 #[.string s] V fun e w' => ∃ A q c, e = .returned (.tuple #[.slice A q c, .int .i64 (rrAt s), .int .i64 (rrE s)]) ∧ RowsIn w' w'.heap.size A q c (fun z => [.int .i64 z]) 1 (rrX s) ∧ Below V.heap.size V w') := fun V => rread_any s V (by omega)
  have c0 : W.cell? ⟨B, 0, none⟩ = some (.string s) := row_cell row 0
  have HROW := Lib.hid row
  have hone : Hid (bookZ.all (·.oneCell') = true) := book_one _ _ _ _ none 0 0 rfl
  have hinf : Hid ((Try.prog.info? 109).map (·.size) = some bookZ.size) := info_book
  have hzero : Hid (∀ V : World, (V.alloc (.cells bookZ 109)).heap[V.heap.size]? = some (.cells bookZ 109 (0, 0))) := fun V => heap_alloc_new V _
  have HC : Hid (∀ (A : Option Addr) (n c : Nat) (V : World), RowsIn V V.heap.size A n c (fun z => [.int .i64 z]) 1 (rrX s) → Calls Try.prog 72 #[.slice A n c] V fun e w' => ∃ A q c, e = .returned (.tuple #[.slice A q c, .int .i64 (canE (rrX s))]) ∧ Below V.heap.size V w') := fun A n c V r => (canon_any A n c (rrX s) V r).mono (by rintro e w' ⟨A', q, c', h1, _, h2⟩; exact ⟨A', q, c', h1, h2⟩)
  have hpost : Hid (∀ w1 : World, Below (W.alloc (.cells bookZ 109)).heap.size (W.alloc (.cells bookZ 109)) w1 → W.grownBy ((w1.setCell ⟨B, 1, none⟩ (.bool true)).setRow W.heap.size bookZ) (some B) ∧ ((w1.setCell ⟨B, 1, none⟩ (.bool true)).setRow W.heap.size bookZ).heap[B]? = some (.cells #[.string s, .bool true] 57 (0, 0))) := by
    intro w1 hb
    have hb0 : Below W.heap.size W w1 := (((Below.refl _ _).alloc (Nat.le_refl _) _)).trans (hb.mono (by simp))
    refine ⟨⟨hb0.os, hb0.tape, hb0.output, by simp [World.setRow, World.setCell]; exact hb0.size, fun k hk hne => ?_⟩, ?_⟩
    · rw [setRow_other _ _ _ _ (by omega), heap_setCell_other _ _ _ _ (fun e => hne (by rw [e]))]
      exact hb0.block k hk
    · rw [setRow_other _ _ _ _ (by omega)]
      exact row_store (row_below row hlt hb0)
  have HU : Hid (Try.prog.underlying 109 = _) := Try.underlying109
  unfold lnOk at h
  generalize rrX s = X at *
  generalize rrE s = E at *
  generalize rrAt s = K at *
  by_cases hE : E = 0
  · by_cases hX : X.length = want
    · have hC : canE X ≠ 0 := fun k => h ⟨hE, hX, k⟩
      have d0 : (E != 0) = false := by rw [hE]; rfl
      have d1 : ((X.length : Int) != (want : Int)) = false := by rw [bne_eq_false_iff_eq]; omega
      have d2 : (canE X != 0) = true := by simpa using hC
      clear h hE hX hC row
      generalize canE X = Z at *
      go_enter Try.func54, Try.ntmps54
      go_wp2_with (first
        | (go_at_call 71; refine (HR.out _).mono ?_; rintro e w1 ⟨A1, n1, c1, rfl, r1, hb1⟩; obtain rfl := r1.len; have R1 := Lib.hid r1; have HB1 := Lib.hid hb1; clear r1 hb1)
        | (go_at_call 72; refine (HC.out _ _ _ _ R1.out).mono ?_; rintro e w2 ⟨A2, n2, c2, rfl, hb2⟩; have HB2 := Lib.hid (HB1.out.trans (hb2.mono HB1.out.size)); have HP := hpost.out _ HB2.out; have hr0 := row_below (hzero.out W) (by simp) HB2.out; have hrB := row_below (row_alloc HROW.out (.cells bookZ 109)) (by simp; omega) HB2.out; have b1 : w2.cell? ⟨B, 1, none⟩ = some (.bool false) := row_cell hrB 1; have b2 := row_cold hrB 1; have HRES := Lib.hid (row_other (a := ⟨B, 1, none⟩) (v := .bool true) hr0 (by simp; omega)); have HPP := Lib.hid HP; clear HP hr0 hrB hb2)
        | (refine wpList_store_rowTo rfl _ _ _ rfl rfl W.heap.size bookZ rfl rfl 109 bookZ HRES.out hinf.out rfl hone.out ?_))
      refine bodyPost_ret (results_cell_row rfl _ _ W.heap.size _ bookZ (0, 0) _ rfl (row_set HRES.out) HU.out rfl hinf.out) rfl ?_
      exact ⟨rfl, HPP.out⟩
    · have d0 : (E != 0) = false := by rw [hE]; rfl
      have d1 : ((X.length : Int) != (want : Int)) = true := by rw [bne_iff_ne]; omega
      clear h hE hX row
      go_enter Try.func54, Try.ntmps54
      go_wp2_with (first
      | (go_at_call 71; refine (HR.out _).mono ?_; rintro e w1 ⟨A1, n1, c1, rfl, r1, hb1⟩; obtain rfl := r1.len; have R1 := Lib.hid r1; have HP := hpost.out _ hb1; have hr0 := row_below (hzero.out W) (by simp) hb1; have hrB := row_below (row_alloc HROW.out (.cells bookZ 109)) (by simp; omega) hb1; have b1 : w1.cell? ⟨B, 1, none⟩ = some (.bool false) := row_cell hrB 1; have b2 := row_cold hrB 1; have HRES := Lib.hid (row_other (a := ⟨B, 1, none⟩) (v := .bool true) hr0 (by simp; omega)); have HPP := Lib.hid HP; have HB1 := Lib.hid hb1; clear HP hr0 hrB r1 hb1)
      | (refine wpList_store_rowTo rfl _ _ _ rfl rfl W.heap.size bookZ rfl rfl 109 bookZ HRES.out hinf.out rfl hone.out ?_))
      refine bodyPost_ret (results_cell_row rfl _ _ W.heap.size _ bookZ (0, 0) _ rfl (row_set HRES.out) HU.out rfl hinf.out) rfl ?_
      exact ⟨rfl, HPP.out⟩
  · have d0 : (E != 0) = true := by simpa using hE
    clear h hE row
    go_enter Try.func54, Try.ntmps54
    go_wp2_with (first
      | (go_at_call 71; refine (HR.out _).mono ?_; rintro e w1 ⟨A1, n1, c1, rfl, r1, hb1⟩; obtain rfl := r1.len; have R1 := Lib.hid r1; have HP := hpost.out _ hb1; have hr0 := row_below (hzero.out W) (by simp) hb1; have hrB := row_below (row_alloc HROW.out (.cells bookZ 109)) (by simp; omega) hb1; have b1 : w1.cell? ⟨B, 1, none⟩ = some (.bool false) := row_cell hrB 1; have b2 := row_cold hrB 1; have HRES := Lib.hid (row_other (a := ⟨B, 1, none⟩) (v := .bool true) hr0 (by simp; omega)); have HPP := Lib.hid HP; have HB1 := Lib.hid hb1; clear HP hr0 hrB r1 hb1)
      | (refine wpList_store_rowTo rfl _ _ _ rfl rfl W.heap.size bookZ rfl rfl 109 bookZ HRES.out hinf.out rfl hone.out ?_))
    refine bodyPost_ret (results_cell_row rfl _ _ W.heap.size _ bookZ (0, 0) _ rfl (row_set HRES.out) HU.out rfl hinf.out) rfl ?_
    exact ⟨rfl, HPP.out⟩

def LensPost (s : ByteArray) (B : Nat) (W : World) (e : Ending) (w' : World) : Prop := ∃ A c, e = .returned (.agg (bookA (.slice A (sgL (rrX s) 16).length c) (bkF (rrX s) 16) (bkG (rrX s) 16) (bkC (rrX s)))) ∧ RowsIn w' w'.heap.size A (sgL (rrX s) 16).length c (fun z => [.int .i64 z]) 1 (sgL (rrX s) 16) ∧ W.grownBy w' (some B) ∧ w'.heap[B]? = some (.cells #[.string (cutB s (rrAt s).toNat), .bool false] 57 (0, 0))
theorem lens_end {s : ByteArray} {B : Nat} {W w2 w3 : World} {A : Option Addr} {c : Nat} {CS : Array Value} (hlt : B < W.heap.size) (hb0 : Below W.heap.size W w2) (hb1 : W.heap.size < w2.heap.size) (row : w2.heap[B]? = some (.cells #[.string s, .bool false] 57 (0, 0))) (hres : w2.heap[W.heap.size]? = some (.cells bookZ 109 (0, 0)))
    (hb3 : Below w2.heap.size (w2.setCell ⟨B, 0, none⟩ (.string (cutB s (rrAt s).toNat))) w3) (r : RowsIn w3 w3.heap.size A (sgL (rrX s) 16).length c (fun z => [.int .i64 z]) 1 (sgL (rrX s) 16)) (hCS : CS = bookA (.slice A (sgL (rrX s) 16).length c) (bkF (rrX s) 16) (bkG (rrX s) 16) (bkC (rrX s))) :
    w3.heap[W.heap.size]? = some (.cells bookZ 109 (0, 0)) ∧ ((∀ b o, A = some ⟨b, o, none⟩ → 0 < (sgL (rrX s) 16).length → b ≠ W.heap.size) → LensPost s B W (.returned (.agg CS)) (w3.setRow W.heap.size CS)) := by
  have h3 : w3.heap[W.heap.size]? = some (.cells bookZ 109 (0, 0)) := by
    rw [hb3.block _ hb1, heap_setCell_other _ _ _ _ (show W.heap.size ≠ B by omega)]; exact hres
  refine ⟨h3, fun hA => ?_⟩
  subst hCS
  have hz := hb3.size
  have hz2 : (w2.setCell ⟨B, 0, none⟩ (.string (cutB s (rrAt s).toNat))).heap.size = w2.heap.size := by simp [World.setCell]
  refine ⟨A, c, rfl, ?_, ⟨?_, ?_, ?_, ?_, ?_⟩, ?_⟩
  · exact ⟨r.len, r.le, r.top, fun i x hx => by
      obtain ⟨b, o, e, hb, hc⟩ := r.at_ i x hx
      have hne := hA b o e (by have := (List.getElem?_eq_some_iff.1 hx).1; omega)
      exact ⟨b, o, e, by simpa [World.setRow] using hb, fun j u hu => (World.cell?_of_block (a := ⟨b, _, none⟩) (setRow_other _ _ _ _ hne)).trans (hc j u hu)⟩⟩
  · exact hb3.os.trans hb0.os
  · exact hb3.tape.trans hb0.tape
  · exact hb3.output.trans hb0.output
  · have := hb0.size; simp [World.setRow]; omega
  · intro k hk hne
    rw [setRow_other _ _ _ _ (by omega), hb3.block k (by have := hb0.size; omega), heap_setCell_other _ _ _ _ (fun e => hne (by rw [e]))]
    exact hb0.block k hk
  · rw [setRow_other _ _ _ _ (by omega), hb3.block B (by have := hb0.size; omega)]
    exact row_store row

set_option maxRecDepth 20000 in
set_option maxHeartbeats 1000000 in
theorem rlens_ok (s : ByteArray) (B want : Nat) (W : World) (row : W.heap[B]? = some (.cells #[.string s, .bool false] 57 (0, 0))) (hs : s.size ≤ 1048575) (h : lnOk s want) (hw : want ≤ 320) :
    Calls Try.prog 54 #[.pointer (some ⟨B, 0, none⟩), .int .i64 want] W (LensPost s B W) := by
  have hlt := row_lt row
  have HR : Hid (∀ V, Calls Try.prog 71 #[.string s] V fun e w' => ∃ A q c, e = .returned (.tuple #[.slice A q c, .int .i64 (rrAt s), .int .i64 (rrE s)]) ∧ RowsIn w' w'.heap.size A q c (fun z => [.int .i64 z]) 1 (rrX s) ∧ Below V.heap.size V w') := fun V => rread_any s V (by omega)
  have c0 : W.cell? ⟨B, 0, none⟩ = some (.string s) := row_cell row 0
  have HROW := Lib.hid row
  have hinf : Hid ((Try.prog.info? 109).map (·.size) = some bookZ.size) := info_book
  have hzero : Hid (∀ V : World, (V.alloc (.cells bookZ 109)).heap[V.heap.size]? = some (.cells bookZ 109 (0, 0))) := fun V => heap_alloc_new V _
  have HC : Hid (∀ (A : Option Addr) (n c : Nat) (V : World), RowsIn V V.heap.size A n c (fun z => [.int .i64 z]) 1 (rrX s) → Calls Try.prog 72 #[.slice A n c] V fun e w' => ∃ A q c, e = .returned (.tuple #[.slice A q c, .int .i64 (canE (rrX s))]) ∧ Below V.heap.size V w') := fun A n c V r => (canon_any A n c (rrX s) V r).mono (by rintro e w' ⟨A', q, c', h1, _, h2⟩; exact ⟨A', q, c', h1, h2⟩)
  have HU : Hid (Try.prog.underlying 109 = _) := Try.underlying109
  obtain ⟨hE, hX, hC⟩ := h
  have hbd := rrAt_bd hE
  obtain ⟨k, hk⟩ := Int.eq_ofNat_of_zero_le hbd.1
  have HM : Hid (∀ (A : Option Addr) (n c : Nat) (V : World), RowsIn V V.heap.size A n c (fun z => [.int .i64 z]) 1 (rrX s) → Calls Try.prog 73 #[.slice A n c] V (BkPost (rrX s) V)) := fun A n c V r => bmake_any A n c (rrX s) V r hC (by have := r.len; omega)
  have HEND : Hid (∀ (w2 w3 : World) (A : Option Addr) (c : Nat) (CS : Array Value), Below W.heap.size W w2 → W.heap.size < w2.heap.size → w2.heap[B]? = some (.cells #[.string s, .bool false] 57 (0, 0)) → w2.heap[W.heap.size]? = some (.cells bookZ 109 (0, 0)) → Below w2.heap.size (w2.setCell ⟨B, 0, none⟩ (.string (cutB s (rrAt s).toNat))) w3 → RowsIn w3 w3.heap.size A (sgL (rrX s) 16).length c (fun z => [.int .i64 z]) 1 (sgL (rrX s) 16) → CS = bookA (.slice A (sgL (rrX s) 16).length c) (bkF (rrX s) 16) (bkG (rrX s) 16) (bkC (rrX s)) → w3.heap[W.heap.size]? = some (.cells bookZ 109 (0, 0)) ∧ ((∀ b o, A = some ⟨b, o, none⟩ → 0 < (sgL (rrX s) 16).length → b ≠ W.heap.size) → LensPost s B W (.returned (.agg CS)) (w3.setRow W.heap.size CS))) := fun w2 w3 A c CS a1 a2 a3 a4 a5 a6 a7 => lens_end hlt a1 a2 a3 a4 a5 a6 a7
  have hk2 : k ≤ s.size := by omega
  have d0 : (rrE s != 0) = false := by rw [hE]; rfl
  have d1 : ((want : Int) != (want : Int)) = false := by rw [bne_eq_false_iff_eq]
  have d2 : (canE (rrX s) != 0) = false := by rw [hC]; rfl
  have HX := Lib.hid hX
  rw [hk] at HR HEND
  rw [Int.toNat_natCast] at HEND
  generalize LensPost s B W = PP at *
  unfold BkPost at HM
  generalize canE (rrX s) = Z at *
  generalize bkF (rrX s) 16 = F at *
  generalize bkG (rrX s) 16 = G at *
  generalize bkC (rrX s) = C at *
  generalize sgL (rrX s) 16 = SG at *
  generalize rrX s = X at *
  generalize rrE s = E at *
  clear hE hX hC hbd hk row hw
  go_enter Try.func54, Try.ntmps54
  go_wp2_with (first
    | (go_at_call 71; refine (HR.out _).mono ?_; rintro e w1 ⟨A1, n1, c1, rfl, r1, hb1⟩; have hn1 := r1.len; rw [HX.out] at hn1; subst hn1; have R1 := Lib.hid r1; have HB1 := Lib.hid hb1; clear r1 hb1)
    | (go_at_call 72; refine (HC.out _ _ _ _ R1.out).mono ?_; rintro e w2 ⟨A2, n2, c2, rfl, hb2⟩; have HB2 := Lib.hid (HB1.out.trans (hb2.mono HB1.out.size)); have hr0 := Lib.hid (row_below (hzero.out W) (by simp) HB2.out); have hrB := Lib.hid (row_below (row_alloc HROW.out (.cells bookZ 109)) (by simp; omega) HB2.out); have b1 : w2.cell? ⟨B, 0, none⟩ = some (.string s) := row_cell hrB.out 0; have b2 := row_cold hrB.out 0; have R2 := Lib.hid (ints_past ((R1.out.below hb2).more hb2.size) hrB.out (Nat.le_refl _) (grown_set (z := 0) (v := .string (s.extract k s.size)))); have HLT2 := Lib.hid (alloc_lt HB2.out); clear hb2)
    | (go_at_call 73; refine (HM.out _ _ _ _ (R2.out.more (by simp [World.setCell]))).mono ?_; rintro e w3 ⟨A3, c3, rfl, r3, hb3, hA3⟩; obtain ⟨h3, hP⟩ := HEND.out w2 w3 A3 c3 _ ((((Below.refl _ _).alloc (Nat.le_refl _) _)).trans (HB2.out.mono (by simp))) HLT2.out hrB.out hr0.out (hb3.mono (by simp [World.setCell])) r3 rfl; have HPP := Lib.hid (hP (fun b o e _ => far_ne hA3 HLT2.out e)); have hone : Hid ((bookA (.slice A3 SG.length c3) F G C).all (·.oneCell') = true) := book_one _ _ _ _ A3 _ c3 rfl; have hinf3 : Hid ((Try.prog.info? 109).map (·.size) = some (bookA (.slice A3 SG.length c3) F G C).size) := info_book; have hold : Hid (bookZ.size = (bookA (.slice A3 SG.length c3) F G C).size) := rfl; have H3 := Lib.hid h3; clear h3 hP r3 hb3 hA3; generalize bookA (.slice A3 SG.length c3) F G C = CS at *)
    | (refine wpList_store_rowTo rfl _ _ _ rfl rfl W.heap.size CS rfl rfl 109 bookZ H3.out hinf3.out hold.out hone.out ?_))
  refine bodyPost_ret (results_cell_row rfl _ _ W.heap.size _ CS (0, 0) _ rfl (row_set H3.out) HU.out rfl hinf3.out) rfl ?_
  exact HPP.out
end Go.Proofs.Ytebgcemglicjiaa
