/- Books in boxes; the state of press's reader of marks: lemmas. -/
import Derived.Test.YtebgcemglicjiaaPrsL
import Derived.Test.YtebgcemglicjiaaOnJa
import Derived.Test.YtebgcemglicjiaaUnpW
import Derived.Test.YtebgcemglicjiaaLzW
namespace Go.Proofs.Ytebgcemglicjiaa
open Go.RowKit Go.PlainAid

/-- CS is the book of the lengths l. -/
def BookIn (l : List Int) (CS : Array Value) (w : World) : Prop := ∃ A c, CS = bookA (.slice A (sgL l 16).length c) (bkF l 16) (bkG l 16) (bkC l) ∧ RowsIn w w.heap.size A (sgL l 16).length c (fun z => [.int .i64 z]) 1 (sgL l 16)
theorem BookIn.size {l : List Int} {CS : Array Value} {w : World} (h : BookIn l CS w) : CS.size = 49 := by obtain ⟨A, c, rfl, _⟩ := h; rfl
theorem BookIn.one {l : List Int} {CS : Array Value} {w : World} (h : BookIn l CS w) : CS.all (·.oneCell') = true := by obtain ⟨A, c, rfl, _⟩ := h; exact book_one _ _ _ _ A _ c rfl
theorem BookIn.below {l : List Int} {CS : Array Value} {w w' : World} (h : BookIn l CS w) (hb : Below w.heap.size w w') : BookIn l CS w' := by
  obtain ⟨A, c, e, r⟩ := h; exact ⟨A, c, e, (r.below hb).more hb.size⟩
theorem BookIn.past {l : List Int} {CS : Array Value} {w w' : World} {M : Nat} {s : ByteArray} {b : Bool} {t : TypeId} (h : BookIn l CS w) (hr : w.heap[M]? = some (.cells #[.string s, .bool b] t (0, 0))) (hg : w.grownBy w' (some M)) : BookIn l CS w' := by
  obtain ⟨A, c, e, r⟩ := h; exact ⟨A, c, e, (ints_past r hr (Nat.le_refl _) hg).more hg.size⟩
def LensPost2 (s : ByteArray) (B : Nat) (W : World) (e : Ending) (w' : World) : Prop := ∃ CS, e = .returned (.agg CS) ∧ BookIn (rrX s) CS w' ∧ W.grownBy w' (some B) ∧ w'.heap[B]? = some (.cells #[.string (cutB s (rrAt s).toNat), .bool false] 57 (0, 0))
theorem rlens_ok2 (s : ByteArray) (B want : Nat) (W : World) (row : W.heap[B]? = some (.cells #[.string s, .bool false] 57 (0, 0))) (hs : s.size ≤ 1048575) (h : lnOk s want) (hw : want ≤ 320) :
    Calls Try.prog 54 #[.pointer (some ⟨B, 0, none⟩), .int .i64 want] W (LensPost2 s B W) :=
  (rlens_ok s B want W row hs h hw).mono (by rintro e w' ⟨A, c, h1, h2, h3, h4⟩; exact ⟨_, h1, ⟨A, c, rfl, h2⟩, h3, h4⟩)
section
variable {w : World} {ops : Array Oper} {rest : List Oper} {o : Oper} {a : Act} {Q : Exit → Act → World → Prop}
/-- A book laid in a box of its own. -/
theorem wpList_store_book (hgd : o.guard = none) (x y : Operand) (ho : o.op = .store 109 x y) (hd : o.dst = none) (w1 : World) (CS : Array Value) (hx : a.eval x = .pointer (some ⟨w1.heap.size, 0, none⟩)) (hy : a.eval y = .agg CS) (hsz : CS.size = 49) (hone : CS.all (·.oneCell') = true)
    (h : ∀ w2, w2.heap[w1.heap.size]? = some (.cells CS 109 (0, 0)) → Below w1.heap.size w1 w2 → w1.heap.size < w2.heap.size → wpList Try.prog ops Q rest a w2) :
    wpList Try.prog ops Q (o :: rest) a (w1.alloc (.cells bookZ 109)) := by
  have h0 := heap_alloc_new w1 (.cells bookZ 109)
  refine wpList_store_rowTo hgd _ x y ho hd w1.heap.size CS hx hy 109 bookZ h0 (by rw [hsz]; exact info_book) (by rw [hsz]; rfl) hone ?_
  exact h _ (row_set h0) (below_setRow ((Below.refl _ _).alloc (Nat.le_refl _) _) (Nat.le_refl _) _) (by simp [World.setRow])
end
theorem bk_one {l : List Int} {CS : Array Value} {V : World} {M : Nat} (s : ByteArray) (a : Nat) (hb : BookIn l CS V) (row : V.heap[M]? = some (.cells CS 109 (0, 0))) (hcan : canE l = 0) (hl : l.length ≤ 320) (ha : a ≤ 8 * s.size) (hs : s.size ≤ 1048575) :
    Calls Try.prog 55 #[.pointer (some ⟨M, 0, none⟩), .string s, .int .i64 a] V fun e w' => ∃ q : Nat, e = .returned (.tuple #[.int .i64 (one l s a).1, .int .i64 (one l s a).2.1, .int .i64 (one l s a).2.2]) ∧ w' = V.drewN q := by
  obtain ⟨A, c, rfl, r⟩ := hb
  exact onew_any l s a A c M V row r hcan hl ha hs
/-- What the reader of marks leaves. -/
def MkPost (s : ByteArray) (m : Nat) (B : Nat) (W : World) (e : Ending) (w' : World) : Prop := ∃ (A : Option Addr) (n c : Nat) (s' : ByteArray) (b : Bool) (L : List Mark), e = .returned (.slice A n c) ∧ w'.heap[B]? = some (.cells #[.string s', .bool b] 57 (0, 0)) ∧ RowsIn w' w'.heap.size A n c Mark.cells 3 L ∧ W.grownBy w' (some B) ∧ (∀ z ∈ L, Mark.ok z) ∧ L.length ≤ 512 ∧ ((b = true ∧ marksR s m = none) ∨ (b = false ∧ marksR s m = some L))
theorem no_marks (w : World) : RowsIn w w.heap.size none 0 0 Mark.cells 3 ([] : List Mark) := ⟨rfl, Nat.le_refl _, Nat.zero_le _, fun i x h => by simp at h⟩
theorem mkPost_bad {s s' : ByteArray} {m B : Nat} {W w' : World} (h : marksR s m = none) (hr : w'.heap[B]? = some (.cells #[.string s', .bool true] 57 (0, 0))) (hg : W.grownBy w' (some B)) : MkPost s m B W (.returned (.slice none 0 0)) w' :=
  ⟨none, 0, 0, s', true, [], rfl, hr, no_marks _, hg, fun z hz => by simp at hz, by simp, .inl ⟨rfl, h⟩⟩
theorem grown_box {W w1 w2 : World} {B : Nat} (h : W.grownBy w1 (some B)) (hb : Below w1.heap.size w1 w2) : W.grownBy w2 (some B) := grown_trans_row h (grown_of_below hb)

set_option maxRecDepth 20000 in
set_option maxHeartbeats 1000000 in
theorem rmarks_no1 (s : ByteArray) (B m : Nat) (W : World) (row : W.heap[B]? = some (.cells #[.string s, .bool false] 57 (0, 0))) (hs : s.size ≤ 1048575) (h : ¬ lnOk s 320) :
    Calls Try.prog 19 #[.pointer (some ⟨B, 0, none⟩), .int .i64 m] W (MkPost s m B W) := by
  have HL := Lib.hid (rlens_no s B 320 W row hs h)
  have HM := Lib.hid (fun (s' : ByteArray) (w' : World) h1 h2 => mkPost_bad (s' := s') (B := B) (W := W) (w' := w') (marksR_1 (m := m) h) h1 h2)
  have hlt := row_lt row
  have hone : Hid (bookZ.all (·.oneCell') = true) := book_one _ _ _ _ none 0 0 rfl
  generalize MkPost s m B W = PP at *
  clear row h
  go_enter Try.func19, Try.ntmps19
  go_wp2_with (first
    | (refine wpList_store_book rfl _ _ rfl rfl w1 bookZ rfl rfl rfl hone.out ?_; intro w2 ra hb2 hlt2; have rb2 := row_below rb1.out (row_lt rb1.out) hb2; have HP := Lib.hid (HM.out _ w2 rb2 (grown_box g1.out hb2)); have k1 : w2.cell? ⟨B, 1, none⟩ = some (.bool true) := row_cell rb2 1; clear ra hb2 rb2)
    | (go_at_call 54; refine HL.out.mono ?_; rintro e w1 ⟨rfl, g1, rb1⟩; replace g1 := Lib.hid g1; replace rb1 := Lib.hid rb1))
  exact HP.out
set_option maxRecDepth 20000 in
set_option maxHeartbeats 1000000 in
theorem rmarks_no2 (s s2 : ByteArray) (B m : Nat) (W : World) (row : W.heap[B]? = some (.cells #[.string s, .bool false] 57 (0, 0))) (hs : s.size ≤ 1048575) (h : lnOk s 320) (e2 : s2 = cutB s (rrAt s).toNat) (hs2 : s2.size ≤ 1048575) (h2 : ¬ lnOk s2 9) :
    Calls Try.prog 19 #[.pointer (some ⟨B, 0, none⟩), .int .i64 m] W (MkPost s m B W) := by
  have HL := Lib.hid (rlens_ok2 s B 320 W row hs h (by omega))
  have HL2 : Hid (∀ V : World, V.heap[B]? = some (.cells #[.string s2, .bool false] 57 (0, 0)) → Calls Try.prog 54 #[.pointer (some ⟨B, 0, none⟩), .int .i64 9] V fun e w' => e = .returned (.agg bookZ) ∧ V.grownBy w' (some B) ∧ w'.heap[B]? = some (.cells #[.string s2, .bool true] 57 (0, 0))) := fun V r => rlens_no s2 B 9 V r hs2 h2
  have HM := Lib.hid (fun (s' : ByteArray) (w' : World) h1 h3 => mkPost_bad (s' := s') (B := B) (W := W) (w' := w') (marksR_2 (m := m) h e2 h2) h1 h3)
  have hlt := row_lt row
  have hone : Hid (bookZ.all (·.oneCell') = true) := book_one _ _ _ _ none 0 0 rfl
  unfold LensPost2 at HL
  rw [← e2] at HL
  generalize MkPost s m B W = PP at *
  generalize rrX s = X at *
  clear row h h2 e2
  go_enter Try.func19, Try.ntmps19
  go_wp2_with (first
    | (refine wpList_store_book rfl _ _ rfl rfl w3 bookZ rfl rfl rfl hone.out ?_; intro w4 rd hb4 hlt4; have rb4 := row_below rb3.out (row_lt rb3.out) hb4; have HP := Lib.hid (HM.out _ w4 rb4 (grown_box g3.out hb4)); have k4 : w4.cell? ⟨B, 1, none⟩ = some (.bool true) := row_cell rb4 1; clear rd hb4 rb4)
    | (go_at_call 54; refine (HL2.out w2 rb2.out).mono ?_; rintro e w3 ⟨rfl, g3, rb3⟩; replace g3 := Lib.hid (grown_trans_row g2.out g3); replace rb3 := Lib.hid rb3)
    | (refine wpList_store_book rfl _ _ rfl rfl w1 CS1 rfl rfl hb1.out.size hb1.out.one ?_; intro w2 ra hb2 hlt2; have rb2 := Lib.hid (row_below rb1.out (row_lt rb1.out) hb2); have g2 := Lib.hid (grown_box g1.out hb2); have k2 : w2.cell? ⟨B, 1, none⟩ = some (.bool false) := row_cell rb2.out 1; clear ra hb2)
    | (go_at_call 54; refine HL.out.mono ?_; rintro e w1 ⟨CS1, rfl, hb1, g1, rb1⟩; replace g1 := Lib.hid g1; replace rb1 := Lib.hid rb1; replace hb1 := Lib.hid hb1))
  exact HP.out
end Go.Proofs.Ytebgcemglicjiaa
