/- press.Open, walked. -/
import Derived.Test.YtebgcemglicjiaaPrsM
import Derived.Test.YtebgcemglicjiaaPrJa
import Derived.Test.YtebgcemglicjiaaLzW
import Derived.Test.YtebgcemglicjiaaBtP
import Derived.Test.YtebgcemglicjiaaShelf
import Derived.WalkMore
namespace Go.Proofs.Ytebgcemglicjiaa
open Go.RowKit Go.PlainAid

theorem rnum_ok (s : ByteArray) (B : Nat) (W : World) (row : W.heap[B]? = some (.cells #[.string s, .bool false] 57 (0, 0))) (hs : s.size ≤ 1048575) (h : gOk s) :
    Calls Try.prog 17 #[.pointer (some ⟨B, 0, none⟩), .int .u64 512] W fun e w' => e = .returned (.int .i64 (gV s)) ∧ w'.heap[B]? = some (.cells #[.string (gR s), .bool false] 57 (0, 0)) ∧ W.grownBy w' (some B) :=
  (rnum_any s B W row hs).mono (by
    rintro e w' (⟨_, h1, h2⟩ | ⟨h0, _⟩)
    · subst h2; exact ⟨by rw [h1, gV_eq], row_store row, grown_set⟩
    · exact absurd h h0)
theorem rnum_no (s : ByteArray) (B : Nat) (W : World) (row : W.heap[B]? = some (.cells #[.string s, .bool false] 57 (0, 0))) (hs : s.size ≤ 1048575) (h : ¬ gOk s) :
    Calls Try.prog 17 #[.pointer (some ⟨B, 0, none⟩), .int .u64 512] W fun e w' => e = .returned (.int .i64 0) ∧ w'.heap[B]? = some (.cells #[.string s, .bool true] 57 (0, 0)) ∧ W.grownBy w' (some B) :=
  (rnum_any s B W row hs).mono (by
    rintro e w' (⟨h0, _⟩ | ⟨_, h1, h2⟩)
    · exact absurd h0 h
    · subst h2; exact ⟨h1, row_store row, grown_set⟩)
theorem rmarks_any (s : ByteArray) (B m : Nat) (W : World) (row : W.heap[B]? = some (.cells #[.string s, .bool false] 57 (0, 0))) (hs : s.size ≤ 1048575) (hm : m ≤ 512) :
    Calls Try.prog 19 #[.pointer (some ⟨B, 0, none⟩), .int .i64 m] W (MkPost s m B W) := by
  by_cases h : lnOk s 320
  · have h2 := cutB_size s (rrAt s).toNat
    by_cases h9 : lnOk (cutB s (rrAt s).toNat) 9
    · have h3 := cutB_size (cutB s (rrAt s).toNat) (rrAt (cutB s (rrAt s).toNat)).toNat
      exact rmarks_go s _ _ B m W row hs h rfl (by omega) h9 rfl (by omega) hm
    · exact rmarks_no2 s _ B m W row hs h rfl (by omega) h9
  · exact rmarks_no1 s B m W row hs h
theorem below_gr {B : Nat} {w W w' : World} (hb : Below B w W) (hB : B ≤ W.heap.size) (hg : W.grownBy w' (some B)) : Below B w w' := hb.grown hg hB (fun k hk => by injection hk with hk; omega)
def OpPost (t : ByteArray) (w : World) (e : Ending) (w' : World) : Prop := e = .returned (.tuple #[.string (opnR t).1, .int .i64 (opnR t).2]) ∧ Below w.heap.size w w'
theorem opPost_no {t : ByteArray} {w w' : World} (h : opnR t = (ByteArray.empty, 4)) (hb : Below w.heap.size w w') : OpPost t w (.returned (.tuple #[.string ⟨#[]⟩, .int .i64 4])) w' := ⟨by rw [h]; rfl, hb⟩
theorem opPost_ok {t o : ByteArray} {w w' : World} (h : opnR t = (o, 0)) (hb : Below w.heap.size w w') : OpPost t w (.returned (.tuple #[.string o, .int .i64 0])) w' := ⟨by rw [h], hb⟩
theorem emp_neO {t : ByteArray} (h : t.size ≠ 0) : (t.toList == (⟨#[]⟩ : ByteArray).toList) = false := str_ne fun e => h (by rw [e]; rfl)
theorem emp_ne2O {t : ByteArray} (h : t.size ≠ 0) : ¬ t.toList = [] := fun e => h (by
  have : t = ⟨#[]⟩ := str_inj (by rw [e, Go.Lib.toList_data])
  rw [this]; rfl)
theorem emp_ne3O {t : ByteArray} (h : t.size ≠ 0) : t.toList.isEmpty = false := by
  have h1 := emp_ne2O h
  cases hl : t.toList with
  | nil => exact absurd hl h1
  | cons a b => rfl

set_option maxRecDepth 20000 in
set_option maxHeartbeats 1000000 in
theorem open_no1 (t : ByteArray) (w : World) (h : t.size = 0) : Calls Try.prog 9 #[.string t] w (OpPost t w) := by
  have HP := Lib.hid (fun w' => opPost_no (w := w) (w' := w') (opn_empty h))
  have ht : t = ⟨#[]⟩ := ByteArray.ext (Array.eq_empty_of_size_eq_zero h)
  generalize OpPost t w = PP at *
  subst ht
  clear h
  go_enter Try.func9, Try.ntmps9
  go_wp2
  exact HP.out _ (Below.refl _ _)
set_option maxRecDepth 20000 in
set_option maxHeartbeats 1000000 in
theorem open_no2 (t : ByteArray) (w : World) (hs : t.size ≤ 1048575) (h : t.size ≠ 0) (h1 : ¬ gOk (cutB t 1)) : Calls Try.prog 9 #[.string t] w (OpPost t w) := by
  have HP := Lib.hid (fun w' => opPost_no (w := w) (w' := w') (opn_num h h1))
  have HN : Hid (∀ V : World, V.heap[w.heap.size]? = some (.cells #[.string (cutB t 1), .bool false] 57 (0, 0)) → Calls Try.prog 17 #[.pointer (some ⟨w.heap.size, 0, none⟩), .int .u64 512] V fun e w' => e = .returned (.int .i64 0) ∧ w'.heap[w.heap.size]? = some (.cells #[.string (cutB t 1), .bool true] 57 (0, 0)) ∧ V.grownBy w' (some w.heap.size)) := fun V r => rnum_no _ _ V r (by have := cutB_size t 1; omega) h1
  have e0 := emp_neO h
  have e1 := emp_ne2O h
  have e2 := emp_ne3O h
  have z1 : 1 ≤ t.size := by omega
  have HB1 : Hid (Below w.heap.size w (w.alloc (.cells #[.string (cutB t 1), .bool false] 57))) := (Below.refl _ _).alloc (Nat.le_refl _) _
  have HR1 : Hid ((w.alloc (.cells #[.string (cutB t 1), .bool false] 57)).heap[w.heap.size]? = some (.cells #[.string (cutB t 1), .bool false] 57 (0, 0))) := heap_alloc_new w _
  generalize OpPost t w = PP at *
  clear h h1
  go_enter Try.func9, Try.ntmps9
  go_wp2_with (go_at_call 17; refine (HN.out _ HR1.out).mono ?_; rintro e w2 ⟨rfl, r2, g2⟩; have k2 : w2.cell? ⟨w.heap.size, 1, none⟩ = some (.bool true) := row_cell r2 1; have HB2 := Lib.hid (below_gr HB1.out HB1.out.size g2); clear r2 g2)
  exact HP.out _ HB2.out

theorem zt_rep (n : Nat) : (⟨(Lib.repeatL (⟨#[0]⟩ : ByteArray).data.toList n).toArray⟩ : ByteArray) = zt n := by
  have e : ∀ k : Nat, Lib.repeatL [(0 : UInt8)] k = List.replicate k 0 := fun k => by
    induction k with
    | zero => rfl
    | succ k ih => simp [Lib.repeatL, ih, List.replicate_succ]
  have e2 : (⟨#[0]⟩ : ByteArray).data.toList = [(0 : UInt8)] := rfl
  unfold zt strOfNums
  rw [e2, e]
  simp
theorem size_ne {a b : Nat} (h : a ≠ b) : ((a : Int) != (b : Int)) = true ∧ (a != b) = true := ⟨by rw [bne_iff_ne]; omega, by rw [bne_iff_ne]; exact h⟩
theorem size_eq {a b : Nat} (h : a = b) : ((a : Int) != (b : Int)) = false ∧ (a != b) = false := by subst h; simp

set_option maxRecDepth 20000 in
set_option maxHeartbeats 2000000 in
theorem popen_ok (t : ByteArray) (w : World) (hs : t.size ≤ 1048575) (h : t.size ≠ 0) (h1 : gOk (cutB t 1)) : Calls Try.prog 9 #[.string t] w (OpPost t w) := by
  have HN : Hid (∀ V : World, V.heap[w.heap.size]? = some (.cells #[.string (cutB t 1), .bool false] 57 (0, 0)) → Calls Try.prog 17 #[.pointer (some ⟨w.heap.size, 0, none⟩), .int .u64 512] V fun e w' => e = .returned (.int .i64 (gV (cutB t 1))) ∧ w'.heap[w.heap.size]? = some (.cells #[.string (gR (cutB t 1)), .bool false] 57 (0, 0)) ∧ V.grownBy w' (some w.heap.size)) := fun V r => rnum_ok _ _ V r (by have := cutB_size t 1; omega) h1
  have HNO := Lib.hid (fun (hb : bodyR (bt t 0) (gV (cutB t 1)) (gR (cutB t 1)) = none) w' => opPost_no (w := w) (w' := w') (opn_none h h1 hb))
  have HLEN := Lib.hid (fun o (hb : bodyR (bt t 0) (gV (cutB t 1)) (gR (cutB t 1)) = some o) h3 w' => opPost_no (w := w) (w' := w') (opn_len h h1 hb h3))
  have HOK := Lib.hid (fun o (hb : bodyR (bt t 0) (gV (cutB t 1)) (gR (cutB t 1)) = some o) h3 w' => opPost_ok (w := w) (w' := w') (opn_ok h h1 hb h3))
  have HRS : Hid ((gR (cutB t 1)).size ≤ 1048575) := Nat.le_trans (gR_size _) (Nat.le_trans (cutB_size t 1) hs)
  have hn512 := gV_le h1
  have e0 := emp_neO h
  have e1 := emp_ne2O h
  have e2 := emp_ne3O h
  have z1 : 1 ≤ t.size := by omega
  have z0 : 0 < t.size := by omega
  have hgb := get_bt t 0 z0
  have hk0 := bt_nonneg t 0
  have HB1 : Hid (Below w.heap.size w (w.alloc (.cells #[.string (cutB t 1), .bool false] 57))) := (Below.refl _ _).alloc (Nat.le_refl _) _
  have HR1 : Hid ((w.alloc (.cells #[.string (cutB t 1), .bool false] 57)).heap[w.heap.size]? = some (.cells #[.string (cutB t 1), .bool false] 57 (0, 0))) := heap_alloc_new w _
  have HREP : Hid (∀ V, Calls Try.prog 18 #[.string ⟨#[0]⟩, .int .i64 (gV (cutB t 1))] V fun e w' => e = .returned (.string (zt (gV (cutB t 1)))) ∧ Below V.heap.size V w') := fun V => by
    have := Try.strings_Repeat ⟨#[0]⟩ (gV (cutB t 1)) V (by omega) (by show 1 * _ ≤ _; omega)
    rw [zt_rep] at this
    exact this
  generalize OpPost t w = PP at *
  generalize gV (cutB t 1) = n at *
  generalize gR (cutB t 1) = R at *
  generalize bt t 0 = K at *
  clear h h1
  rcases (show K = 0 ∨ K = 1 ∨ K = 2 ∨ (2 < K) by omega) with hK | hK | hK | hK
  · subst hK
    by_cases hR : R.size = 0
    · have hR0 : R = ⟨#[]⟩ := ByteArray.ext (Array.eq_empty_of_size_eq_zero hR)
      have HP := Lib.hid (HOK.out (zt n) (body_0 hR) (zt_size n))
      obtain ⟨q1, q2⟩ := size_eq (zt_size n)
      generalize zt n = Z at *
      subst hR0
      clear hR HNO HLEN HOK
      go_enter Try.func9, Try.ntmps9
      go_wp2_with (first
        | (go_at_call 17; refine (HN.out _ HR1.out).mono ?_; rintro e w2 ⟨rfl, r2, g2⟩; have k20 : w2.cell? ⟨w.heap.size, 0, none⟩ = some (.string _) := row_cell r2 0; have k21 : w2.cell? ⟨w.heap.size, 1, none⟩ = some (.bool false) := row_cell r2 1; have f21 := row_cold r2 1; have HR2 := Lib.hid r2; have HB2 := Lib.hid (below_gr HB1.out HB1.out.size g2); clear r2 g2)
        | (go_at_call 18; refine (HREP.out _).mono ?_; rintro e w3 ⟨rfl, hb3⟩; have r3 := row_below HR2.out (row_lt HR2.out) hb3; have k30 : w3.cell? ⟨w.heap.size, 0, none⟩ = some (.string _) := row_cell r3 0; have k31 : w3.cell? ⟨w.heap.size, 1, none⟩ = some (.bool false) := row_cell r3 1; have f31 := row_cold r3 1; have HB3 := Lib.hid (HB2.out.trans (hb3.mono HB2.out.size)); clear r3 hb3))
      exact HP.out _ ((HB3.out).setCell (Nat.le_refl _) _)
    · have HP := Lib.hid (HNO.out (body_0n hR))
      have y0 := emp_neO hR
      have y1 := emp_ne2O hR
      have y2 := emp_ne3O hR
      generalize zt n = Z at *
      clear hR HNO HLEN HOK
      go_enter Try.func9, Try.ntmps9
      go_wp2_with (first
        | (go_at_call 17; refine (HN.out _ HR1.out).mono ?_; rintro e w2 ⟨rfl, r2, g2⟩; have k20 : w2.cell? ⟨w.heap.size, 0, none⟩ = some (.string _) := row_cell r2 0; have k21 : w2.cell? ⟨w.heap.size, 1, none⟩ = some (.bool false) := row_cell r2 1; have f21 := row_cold r2 1; have HR2 := Lib.hid r2; have HB2 := Lib.hid (below_gr HB1.out HB1.out.size g2); clear r2 g2)
        | (go_at_call 18; refine (HREP.out _).mono ?_; rintro e w3 ⟨rfl, hb3⟩; have r3 := row_below HR2.out (row_lt HR2.out) hb3; have k30 : w3.cell? ⟨w.heap.size, 0, none⟩ = some (.string _) := row_cell r3 0; have k31 : w3.cell? ⟨w.heap.size, 1, none⟩ = some (.bool false) := row_cell r3 1; have f31 := row_cold r3 1; have HB3 := Lib.hid (HB2.out.trans (hb3.mono HB2.out.size)); clear r3 hb3))
      exact HP.out _ ((HB3.out).setCell (Nat.le_refl _) _)
  · subst hK
    by_cases hR : R.size = n
    · have HP := Lib.hid (HOK.out R body_1 hR)
      obtain ⟨q1, q2⟩ := size_eq hR
      clear hR HNO HLEN HOK
      go_enter Try.func9, Try.ntmps9
      go_wp2_with (go_at_call 17; refine (HN.out _ HR1.out).mono ?_; rintro e w2 ⟨rfl, r2, g2⟩; have k20 : w2.cell? ⟨w.heap.size, 0, none⟩ = some (.string _) := row_cell r2 0; have k21 : w2.cell? ⟨w.heap.size, 1, none⟩ = some (.bool false) := row_cell r2 1; have f21 := row_cold r2 1; have HR2 := Lib.hid r2; have HB2 := Lib.hid (below_gr HB1.out HB1.out.size g2); clear r2 g2)
      exact HP.out _ HB2.out
    · have HP := Lib.hid (HLEN.out R body_1 hR)
      obtain ⟨q1, q2⟩ := size_ne hR
      clear hR HNO HLEN HOK
      go_enter Try.func9, Try.ntmps9
      go_wp2_with (go_at_call 17; refine (HN.out _ HR1.out).mono ?_; rintro e w2 ⟨rfl, r2, g2⟩; have k20 : w2.cell? ⟨w.heap.size, 0, none⟩ = some (.string _) := row_cell r2 0; have k21 : w2.cell? ⟨w.heap.size, 1, none⟩ = some (.bool false) := row_cell r2 1; have f21 := row_cold r2 1; have HR2 := Lib.hid r2; have HB2 := Lib.hid (below_gr HB1.out HB1.out.size g2); clear r2 g2)
      exact HP.out _ HB2.out
  · subst hK
    by_cases hg : gOk R
    · have HN2 : Hid (∀ V : World, V.heap[w.heap.size]? = some (.cells #[.string R, .bool false] 57 (0, 0)) → Calls Try.prog 17 #[.pointer (some ⟨w.heap.size, 0, none⟩), .int .u64 512] V fun e w' => e = .returned (.int .i64 (gV R)) ∧ w'.heap[w.heap.size]? = some (.cells #[.string (gR R), .bool false] 57 (0, 0)) ∧ V.grownBy w' (some w.heap.size)) := fun V r => rnum_ok _ _ V r HRS.out hg
      have hm512 := gV_le hg
      cases hmk : marksR (gR R) (gV R) with
      | none =>
        have HM : Hid (∀ V : World, V.heap[w.heap.size]? = some (.cells #[.string (gR R), .bool false] 57 (0, 0)) → Calls Try.prog 19 #[.pointer (some ⟨w.heap.size, 0, none⟩), .int .i64 (gV R)] V fun e w' => ∃ A n c s', e = .returned (.slice A n c) ∧ w'.heap[w.heap.size]? = some (.cells #[.string s', .bool true] 57 (0, 0)) ∧ V.grownBy w' (some w.heap.size)) := fun V r => (rmarks_any _ _ _ V r (Nat.le_trans (gR_size _) HRS.out) hm512).mono (by
          rintro e w' ⟨A, n, c, s', b, L, h1, h2, _, h4, _, _, ⟨rfl, _⟩ | ⟨_, h8⟩⟩
          · exact ⟨A, n, c, s', h1, h2, h4⟩
          · rw [hmk] at h8; cases h8)
        have HP := Lib.hid (HNO.out (body_2m hg hmk))
        generalize gV R = m at *
        clear hg hmk HNO HLEN HOK
        go_enter Try.func9, Try.ntmps9
        go_wp2_with (first
          | (go_at_call 19; refine (HM.out _ HR3.out).mono ?_; rintro e w4 ⟨A4, n4, c4, s4, rfl, r4, g4⟩; have k41 : w4.cell? ⟨w.heap.size, 1, none⟩ = some (.bool true) := row_cell r4 1; have HB4 := Lib.hid (below_gr HB3.out HB3.out.size g4); clear r4 g4)
          | (go_at_call 17; refine (HN2.out _ HR2.out).mono ?_; rintro e w3 ⟨rfl, r3, g3⟩; have k31 : w3.cell? ⟨w.heap.size, 1, none⟩ = some (.bool false) := row_cell r3 1; have HR3 := Lib.hid r3; have HB3 := Lib.hid (below_gr HB2.out HB2.out.size g3); clear r3 g3)
          | (go_at_call 17; refine (HN.out _ HR1.out).mono ?_; rintro e w2 ⟨rfl, r2, g2⟩; have k20 : w2.cell? ⟨w.heap.size, 0, none⟩ = some (.string _) := row_cell r2 0; have k21 : w2.cell? ⟨w.heap.size, 1, none⟩ = some (.bool false) := row_cell r2 1; have f21 := row_cold r2 1; have HR2 := Lib.hid r2; have HB2 := Lib.hid (below_gr HB1.out HB1.out.size g2); clear r2 g2))
        exact HP.out _ HB4.out
      | some L =>
        have HM : Hid (∀ V : World, V.heap[w.heap.size]? = some (.cells #[.string (gR R), .bool false] 57 (0, 0)) → Calls Try.prog 19 #[.pointer (some ⟨w.heap.size, 0, none⟩), .int .i64 (gV R)] V fun e w' => ∃ A n c s', e = .returned (.slice A n c) ∧ w'.heap[w.heap.size]? = some (.cells #[.string s', .bool false] 57 (0, 0)) ∧ V.grownBy w' (some w.heap.size) ∧ RowsIn w' w'.heap.size A n c Mark.cells 3 L ∧ (∀ z ∈ L, Mark.ok z) ∧ L.length ≤ 512) := fun V r => (rmarks_any _ _ _ V r (Nat.le_trans (gR_size _) HRS.out) hm512).mono (by
          rintro e w' ⟨A, n, c, s', b, L', h1, h2, h3, h4, h5, h6, ⟨_, h8⟩ | ⟨rfl, h8⟩⟩
          · rw [hmk] at h8; cases h8
          · rw [hmk] at h8
            injection h8 with h8
            subst h8
            exact ⟨A, n, c, s', h1, h2, h4, h3, h5, h6⟩)
        have HX : Hid (∀ (A : Option Addr) (n c : Nat) (V : World), (RowsIn V V.heap.size A n c Mark.cells 3 L ∧ (∀ z ∈ L, Mark.ok z) ∧ L.length ≤ 512) → Calls Try.prog 20 #[.slice A n c] V fun e w' => e = .returned (.tuple #[.string (strOfNums (expF [] L).1), .int .i64 (expF [] L).2]) ∧ Below V.heap.size V w') := fun A n c V q => expand_any A n c L V q.1 q.2.1 (by have := q.1.len; have := q.2.2; omega)
        by_cases hE : (expF [] L).2 = 0
        · have HB0 := Lib.hid (body_2 (n := n) hg hmk hE)
          have d0 : ((expF [] L).2 != 0) = false := by rw [hE]; rfl
          generalize strOfNums (expF [] L).1 = O at *
          generalize (expF [] L).2 = E at *
          by_cases hO : O.size = n
          · have HP := Lib.hid (HOK.out O HB0.out hO)
            obtain ⟨q1, q2⟩ := size_eq hO
            generalize gV R = m at *
            clear hg hmk HNO HLEN HOK hE hO HB0
            go_enter Try.func9, Try.ntmps9
            go_wp2_with (first
              | (go_at_call 20; refine (HX.out _ _ _ _ Q4.out).mono ?_; rintro e w5 ⟨rfl, hb5⟩; have r5 := row_below HR4.out (row_lt HR4.out) hb5; have k51 : w5.cell? ⟨w.heap.size, 1, none⟩ = some (.bool false) := row_cell r5 1; have f51 := row_cold r5 1; have HB5 := Lib.hid (HB4.out.trans (hb5.mono HB4.out.size)); clear r5 hb5)
              | (go_at_call 19; refine (HM.out _ HR3.out).mono ?_; rintro e w4 ⟨A4, n4, c4, s4, rfl, r4, g4, q4⟩; have k41 : w4.cell? ⟨w.heap.size, 1, none⟩ = some (.bool false) := row_cell r4 1; have f41 := row_cold r4 1; have HR4 := Lib.hid r4; have Q4 := Lib.hid q4; have HB4 := Lib.hid (below_gr HB3.out HB3.out.size g4); clear r4 g4 q4)
              | (go_at_call 17; refine (HN2.out _ HR2.out).mono ?_; rintro e w3 ⟨rfl, r3, g3⟩; have k31 : w3.cell? ⟨w.heap.size, 1, none⟩ = some (.bool false) := row_cell r3 1; have HR3 := Lib.hid r3; have HB3 := Lib.hid (below_gr HB2.out HB2.out.size g3); clear r3 g3)
              | (go_at_call 17; refine (HN.out _ HR1.out).mono ?_; rintro e w2 ⟨rfl, r2, g2⟩; have k20 : w2.cell? ⟨w.heap.size, 0, none⟩ = some (.string _) := row_cell r2 0; have k21 : w2.cell? ⟨w.heap.size, 1, none⟩ = some (.bool false) := row_cell r2 1; have f21 := row_cold r2 1; have HR2 := Lib.hid r2; have HB2 := Lib.hid (below_gr HB1.out HB1.out.size g2); clear r2 g2))
            exact HP.out _ HB5.out
          · have HP := Lib.hid (HLEN.out O HB0.out hO)
            obtain ⟨q1, q2⟩ := size_ne hO
            generalize gV R = m at *
            clear hg hmk HNO HLEN HOK hE hO HB0
            go_enter Try.func9, Try.ntmps9
            go_wp2_with (first
              | (go_at_call 20; refine (HX.out _ _ _ _ Q4.out).mono ?_; rintro e w5 ⟨rfl, hb5⟩; have r5 := row_below HR4.out (row_lt HR4.out) hb5; have k51 : w5.cell? ⟨w.heap.size, 1, none⟩ = some (.bool false) := row_cell r5 1; have f51 := row_cold r5 1; have HB5 := Lib.hid (HB4.out.trans (hb5.mono HB4.out.size)); clear r5 hb5)
              | (go_at_call 19; refine (HM.out _ HR3.out).mono ?_; rintro e w4 ⟨A4, n4, c4, s4, rfl, r4, g4, q4⟩; have k41 : w4.cell? ⟨w.heap.size, 1, none⟩ = some (.bool false) := row_cell r4 1; have f41 := row_cold r4 1; have HR4 := Lib.hid r4; have Q4 := Lib.hid q4; have HB4 := Lib.hid (below_gr HB3.out HB3.out.size g4); clear r4 g4 q4)
              | (go_at_call 17; refine (HN2.out _ HR2.out).mono ?_; rintro e w3 ⟨rfl, r3, g3⟩; have k31 : w3.cell? ⟨w.heap.size, 1, none⟩ = some (.bool false) := row_cell r3 1; have HR3 := Lib.hid r3; have HB3 := Lib.hid (below_gr HB2.out HB2.out.size g3); clear r3 g3)
              | (go_at_call 17; refine (HN.out _ HR1.out).mono ?_; rintro e w2 ⟨rfl, r2, g2⟩; have k20 : w2.cell? ⟨w.heap.size, 0, none⟩ = some (.string _) := row_cell r2 0; have k21 : w2.cell? ⟨w.heap.size, 1, none⟩ = some (.bool false) := row_cell r2 1; have f21 := row_cold r2 1; have HR2 := Lib.hid r2; have HB2 := Lib.hid (below_gr HB1.out HB1.out.size g2); clear r2 g2))
            exact HP.out _ HB5.out
        · have HP := Lib.hid (HNO.out (body_2e hg hmk hE))
          have d0 : ((expF [] L).2 != 0) = true := by simpa using hE
          generalize strOfNums (expF [] L).1 = O at *
          generalize (expF [] L).2 = E at *
          generalize gV R = m at *
          clear hg hmk HNO HLEN HOK hE
          go_enter Try.func9, Try.ntmps9
          go_wp2_with (first
            | (go_at_call 20; refine (HX.out _ _ _ _ Q4.out).mono ?_; rintro e w5 ⟨rfl, hb5⟩; have r5 := row_below HR4.out (row_lt HR4.out) hb5; have k51 : w5.cell? ⟨w.heap.size, 1, none⟩ = some (.bool false) := row_cell r5 1; have f51 := row_cold r5 1; have HB5 := Lib.hid (HB4.out.trans (hb5.mono HB4.out.size)); clear r5 hb5)
            | (go_at_call 19; refine (HM.out _ HR3.out).mono ?_; rintro e w4 ⟨A4, n4, c4, s4, rfl, r4, g4, q4⟩; have k41 : w4.cell? ⟨w.heap.size, 1, none⟩ = some (.bool false) := row_cell r4 1; have f41 := row_cold r4 1; have HR4 := Lib.hid r4; have Q4 := Lib.hid q4; have HB4 := Lib.hid (below_gr HB3.out HB3.out.size g4); clear r4 g4 q4)
            | (go_at_call 17; refine (HN2.out _ HR2.out).mono ?_; rintro e w3 ⟨rfl, r3, g3⟩; have k31 : w3.cell? ⟨w.heap.size, 1, none⟩ = some (.bool false) := row_cell r3 1; have HR3 := Lib.hid r3; have HB3 := Lib.hid (below_gr HB2.out HB2.out.size g3); clear r3 g3)
            | (go_at_call 17; refine (HN.out _ HR1.out).mono ?_; rintro e w2 ⟨rfl, r2, g2⟩; have k20 : w2.cell? ⟨w.heap.size, 0, none⟩ = some (.string _) := row_cell r2 0; have k21 : w2.cell? ⟨w.heap.size, 1, none⟩ = some (.bool false) := row_cell r2 1; have f21 := row_cold r2 1; have HR2 := Lib.hid r2; have HB2 := Lib.hid (below_gr HB1.out HB1.out.size g2); clear r2 g2))
          exact HP.out _ (HB5.out.setCell (Nat.le_refl _) _)
    · have HN2 : Hid (∀ V : World, V.heap[w.heap.size]? = some (.cells #[.string R, .bool false] 57 (0, 0)) → Calls Try.prog 17 #[.pointer (some ⟨w.heap.size, 0, none⟩), .int .u64 512] V fun e w' => e = .returned (.int .i64 0) ∧ w'.heap[w.heap.size]? = some (.cells #[.string R, .bool true] 57 (0, 0)) ∧ V.grownBy w' (some w.heap.size)) := fun V r => rnum_no _ _ V r HRS.out hg
      have HP := Lib.hid (HNO.out (body_2n hg))
      clear hg HNO HLEN HOK
      go_enter Try.func9, Try.ntmps9
      go_wp2_with (first
        | (go_at_call 17; refine (HN2.out _ HR2.out).mono ?_; rintro e w3 ⟨rfl, r3, g3⟩; have k31 : w3.cell? ⟨w.heap.size, 1, none⟩ = some (.bool true) := row_cell r3 1; have HB3 := Lib.hid (below_gr HB2.out HB2.out.size g3); clear r3 g3)
        | (go_at_call 17; refine (HN.out _ HR1.out).mono ?_; rintro e w2 ⟨rfl, r2, g2⟩; have k20 : w2.cell? ⟨w.heap.size, 0, none⟩ = some (.string _) := row_cell r2 0; have k21 : w2.cell? ⟨w.heap.size, 1, none⟩ = some (.bool false) := row_cell r2 1; have f21 := row_cold r2 1; have HR2 := Lib.hid r2; have HB2 := Lib.hid (below_gr HB1.out HB1.out.size g2); clear r2 g2))
      exact HP.out _ HB3.out
  · have HP := Lib.hid (HNO.out (body_no hK))
    have d0 : (K == 0) = false := by rw [beq_eq_false_iff_ne]; omega
    have d1 : (K == 1) = false := by rw [beq_eq_false_iff_ne]; omega
    have d2 : (K == 2) = false := by rw [beq_eq_false_iff_ne]; omega
    clear HNO HLEN HOK hK
    go_enter Try.func9, Try.ntmps9
    go_wp2_with (go_at_call 17; refine (HN.out _ HR1.out).mono ?_; rintro e w2 ⟨rfl, r2, g2⟩; have k20 : w2.cell? ⟨w.heap.size, 0, none⟩ = some (.string _) := row_cell r2 0; have k21 : w2.cell? ⟨w.heap.size, 1, none⟩ = some (.bool false) := row_cell r2 1; have f21 := row_cold r2 1; have HR2 := Lib.hid r2; have HB2 := Lib.hid (below_gr HB1.out HB1.out.size g2); clear r2 g2)
    exact HP.out _ (HB2.out.setCell (Nat.le_refl _) _)
end Go.Proofs.Ytebgcemglicjiaa
