/- slices' insertion sort of a row of coins, walked. -/
import Derived.Test.YtoncakcfibahaaaHsC
namespace Go.Proofs.Ytoncakcfibahaaa
open Go.RowKit

def cmpV (kb : Nat) : Value := .func (.func 16) #[] #[.pointer (some ⟨kb, 0, none⟩)]
def SrtC (l : List CoinV) : Prop := l.Pairwise fun x y => x.worth ≤ y.worth
/-- What a comparison wants: the key's box lies elsewhere; each worth is small. -/
structure CmpOk (w0 : World) (b kb : Nat) (l : List CoinV) : Prop where
  key : w0.cell? ⟨kb, 0, none⟩ = some (.func (.func 12) #[] #[])
  ne : kb ≠ b
  lt : kb < w0.heap.size
  small : ∀ x ∈ l, -1000000000000000 ≤ x.worth ∧ x.worth ≤ 1000000000000000
theorem CmpOk.perm {w0 : World} {b kb : Nat} {l l' : List CoinV} (h : CmpOk w0 b kb l) (hp : l'.Perm l) : CmpOk w0 b kb l' := ⟨h.key, h.ne, h.lt, fun x hx => h.small x (hp.mem_iff.1 hx)⟩
theorem cmp_row {w0 : World} {b kb o n : Nat} {l l' : List CoinV} {w : World} (h : CmpOk w0 b kb l) (hr : Row w0 b o n l' w) {x y : CoinV} (hx : x ∈ l) (hy : y ∈ l) (W : World) (hW : Below w.heap.size w W) :
    Calls Try.prog 16 #[.agg #[.int .i64 x.worth, .slice x.A x.n x.c], .agg #[.int .i64 y.worth, .slice y.A y.n y.c], .pointer (some ⟨kb, 0, none⟩)] W fun e w' => e = .returned (.int .i64 (x.worth - y.worth)) ∧ Below W.heap.size W w' := by
  refine cmp_any x y kb W ?_ (h.small x hx) (h.small y hy)
  rw [hW.cell (p := ⟨kb, 0, none⟩) (Nat.lt_of_lt_of_le h.lt hr.grown.size), World.cell?_of_block (w := w0) (a := ⟨kb, 0, none⟩) (hr.grown.block kb h.lt (fun e => h.ne (by injection e)))]
  exact h.key
theorem set_swap (L R : List CoinV) (x y : CoinV) : ((L ++ (y :: x :: R)).set (L.length + 1) y).set L.length x = L ++ (x :: y :: R) := by
  rw [List.set_append_right _ _ (by omega)]
  simp
theorem set_swap2 (L R : List CoinV) (x y : CoinV) : ((L ++ (x :: y :: R)).set L.length y).set (L.length + 1) x = L ++ (y :: x :: R) := by
  simp [List.set_append_right]
/-- Where the insertion stands: x stands between p and q, which together are sorted. -/
structure InsI (w0 : World) (b o n : Nat) (pre s post : List CoinV) (x : CoinV) (p q : List CoinV) (w : World) : Prop where
  row : Row w0 b o n (pre ++ (p ++ (x :: (q ++ post)))) w
  eq : p ++ q = s
  gt : ∀ y ∈ q, x.worth ≤ y.worth
theorem ins_step {w0 : World} {b o n : Nat} {pre s post : List CoinV} {x y : CoinV} {p q : List CoinV} {w w' : World} (h : InsI w0 b o n pre s post x (p ++ [y]) q w) (hxy : x.worth < y.worth)
    (hr : Row w0 b o n (((pre ++ ((p ++ [y]) ++ (x :: (q ++ post)))).set (pre.length + p.length + 1) y).set (pre.length + p.length) x) w') : InsI w0 b o n pre s post x p (y :: q) w' := by
  refine ⟨?_, by rw [← h.eq]; simp, fun z hz => ?_⟩
  · have e := set_swap (pre ++ p) (q ++ post) x y
    rw [List.length_append] at e
    simp only [List.append_assoc, List.cons_append, List.nil_append] at e hr ⊢
    rw [e] at hr
    exact hr
  · rcases List.mem_cons.1 hz with rfl | hz
    · omega
    · exact h.gt z hz
theorem ins_end {w0 : World} {b o n : Nat} {pre s post : List CoinV} {x : CoinV} {p q : List CoinV} {w : World} (h : InsI w0 b o n pre s post x p q w) (hs : SrtC s) (hp : ∀ y, p.getLast? = some y → y.worth ≤ x.worth) : SrtC (p ++ x :: q) := by
  unfold SrtC at hs ⊢
  rw [← h.eq, List.pairwise_append] at hs
  obtain ⟨h1, h2, h3⟩ := hs
  rw [List.pairwise_append, List.pairwise_cons]
  refine ⟨h1, ⟨h.gt, h2⟩, fun a ha c hc => ?_⟩
  have hax : a.worth ≤ x.worth := by
    rcases List.eq_nil_or_concat p with e | ⟨p', y, e⟩
    · subst e; cases ha
    · rw [List.concat_eq_append] at e
      subst e
      have hy := hp y (by simp)
      rcases List.mem_append.1 ha with h' | h'
      · have := (List.pairwise_append.1 h1).2.2 a h' y (by simp); omega
      · have : a = y := by simpa using h'
        subst this; exact hy
  rcases List.mem_cons.1 hc with rfl | hc
  · exact hax
  · exact h3 a ha c hc
/-- Where the sort stands: s is sorted, r is still to come. -/
structure InsO (w0 : World) (b o n : Nat) (pre mid post s r : List CoinV) (w : World) : Prop where
  row : Row w0 b o n (pre ++ (s ++ (r ++ post))) w
  perm : (s ++ r).Perm mid
  srt : SrtC s
def InsPost' (w0 : World) (b o n : Nat) (pre mid post : List CoinV) (w' : World) : Prop := ∃ mid', Row w0 b o n (pre ++ (mid' ++ post)) w' ∧ mid'.Perm mid ∧ SrtC mid'
theorem ins_out {w0 : World} {b o n : Nat} {pre mid s r post : List CoinV} {x : CoinV} {p q : List CoinV} {w wo : World} (h : InsI w0 b o n pre s (r ++ post) x p q w) (hO : InsO w0 b o n pre mid post s (x :: r) wo) (hp : ∀ y, p.getLast? = some y → y.worth ≤ x.worth) : InsO w0 b o n pre mid post (p ++ x :: q) r w := by
  refine ⟨by simpa using h.row, ?_, ins_end h hO.srt hp⟩
  refine List.Perm.trans ?_ hO.perm
  rw [← h.eq]
  simp only [List.append_assoc, List.cons_append]
  refine List.Perm.append_left p ?_
  simpa using (List.perm_middle (a := x) (l₁ := q) (l₂ := r)).symm
set_option maxRecDepth 20000 in
set_option maxHeartbeats 400000 in
theorem inss_any (w0 : World) (b o n c kb a z : Nat) (pre mid post : List CoinV) (w : World) (h : Row w0 b o n (pre ++ (mid ++ post)) w) (hk : CmpOk w0 b kb mid) (ha : a = pre.length) (hz : z = pre.length + mid.length) (hn : n ≤ 100000) :
    Calls Try.prog 18 #[.slice (some ⟨b, o, none⟩) n c, .int .i64 a, .int .i64 z, cmpV kb] w fun e w' => e = .returned (.tuple #[]) ∧ InsPost' w0 b o n pre mid post w' := by
  have hl : pre.length + mid.length + post.length = n := by have := h.len; simp at this; omega
  have ha2 : (a : Int) ≤ 100000 := by omega
  have hz2 : (z : Int) ≤ 100000 := by omega
  have H := Lib.hid h
  have HK := Lib.hid hk
  have HA := Lib.hid ha
  have HZ := Lib.hid hz
  have HL := Lib.hid hl
  clear h hk ha hz hl
  unfold cmpV
  go_enter Try.func18, Try.ntmps18
  go_wp2
  go_loopw [8] (fun v wr => ∃ (i : Nat) (s r : List CoinV), v = .int .i64 i ∧ InsO w0 b o n pre mid post s r wr ∧ Hid (i = pre.length + s.length ∨ i = pre.length + 1 ∧ mid = []) ∧ (a : Int) < i) (fun v _ => z - (intOf v).toNat)
  case atStart =>
    rcases mid with _ | ⟨x, m⟩
    · exact ⟨a + 1, [], [], by go_num, ⟨by simpa using H.out, by simp, by simp [SrtC]⟩, .inr ⟨by rw [HA.out], rfl⟩, by omega⟩
    · exact ⟨a + 1, [x], m, by go_num, ⟨by simpa using H.out, by simp, by simp [SrtC]⟩, .inl (by rw [HA.out]; rfl), by omega⟩
  case round =>
    obtain ⟨i, s, r, rfl, hI, hi, hai⟩ := hrel
    by_cases hlt : (i : Int) < (z : Int)
    · have hi' : i = pre.length + s.length := by
        rcases hi.out with e | ⟨e, em⟩
        · exact e
        · have := HZ.out; subst em; simp at this; omega
      have hsl := hI.perm.length_eq
      obtain ⟨x, r', rfl⟩ : ∃ x r', r = x :: r' := by
        cases r with
        | nil => have := HZ.out; simp at hsl; omega
        | cons x r' => exact ⟨x, r', rfl⟩
      have hx : x ∈ mid := hI.perm.mem_iff.1 (by simp)
      have hsm : ∀ y ∈ s, y ∈ mid := fun y hy => hI.perm.mem_iff.1 (by simp [hy])
      have hin : i ≤ 100000 := by omega
      have HI' := Lib.hid hi'
      have HX := Lib.hid hx
      have HSM := Lib.hid hsm
      have HO := Lib.hid hI
      have hI0 : InsI w0 b o n pre s (r' ++ post) x s [] wr := ⟨by simpa using hI.row, by simp, by simp⟩
      have HI0 := Lib.hid hI0
      clear hi hi' hsl hx hsm hI hI0
      go_wp2
      obtain ⟨wo, rfl⟩ : ∃ wo : World, wo = wr := ⟨_, rfl⟩
      go_loopw [9] (fun v wr => ∃ (u : Nat) (p q : List CoinV), v = .int .i64 u ∧ u ≤ 100000 ∧ Hid (u = pre.length + p.length) ∧ InsI w0 b o n pre s (r' ++ post) x p q wr) (fun v _ => (intOf v).toNat)
      case atStart => exact ⟨i, s, [], rfl, hin, HI', HI0.out⟩
      case round =>
        obtain ⟨u, p, q, rfl, hu, hul, hR⟩ := hrel
        by_cases hua : (a : Int) < (u : Int)
        · obtain ⟨p', y, hpe⟩ : ∃ p' y, p = p' ++ [y] := by
            rcases List.eq_nil_or_concat p with e | ⟨p', y, e⟩
            · have := hul.out; have := HA.out; subst e; simp at *; omega
            · exact ⟨p', y, by simpa using e⟩
          subst hpe
          have hul2 := hul.out
          simp only [List.length_append, List.length_cons, List.length_nil] at hul2
          obtain ⟨t, ht⟩ : ∃ t, t = pre.length + p'.length := ⟨_, rfl⟩
          have hut : u = t + 1 := by omega
          have gy : (pre ++ ((p' ++ [y]) ++ (x :: (q ++ (r' ++ post)))))[t]? = some y := by
            rw [List.getElem?_append_right (by omega), ht]; simp
          have gx : (pre ++ ((p' ++ [y]) ++ (x :: (q ++ (r' ++ post)))))[u]? = some x := by
            rw [List.getElem?_append_right (by omega), hut, ht, List.getElem?_append_right (by simp; omega), show pre.length + p'.length + 1 - pre.length - (p' ++ [y]).length = 0 by simp; omega]; rfl
          have hn1 : u < n := by have := (List.getElem?_eq_some_iff.1 gx).1; rw [hR.row.len] at this; exact this
          have cy0 := hR.row.cell0 t y gy
          have cy1 := hR.row.cell1 t y gy
          have cx0 := hR.row.cell0 u x gx
          have cx1 := hR.row.cell1 u x gx
          have hym : y ∈ mid := HSM.out y (by rw [← hR.eq]; simp)
          have hCmp : Hid (∀ W, Below wr.heap.size wr W → Calls Try.prog 16 #[.agg #[.int .i64 x.worth, .slice x.A x.n x.c], .agg #[.int .i64 y.worth, .slice y.A y.n y.c], .pointer (some ⟨kb, 0, none⟩)] W fun e w' => e = .returned (.int .i64 (x.worth - y.worth)) ∧ Below W.heap.size W w') := fun W hW => cmp_row HK.out hR.row HX.out hym W hW
          have hbl : b < wr.heap.size := Nat.lt_of_lt_of_le hR.row.lt hR.row.grown.size
          have hS : wr.cell? ⟨b, o + t * 2, none⟩ = some (.int .i64 y.worth) ∧ wr.cell? ⟨b, o + t * 2 + 1, none⟩ = some (.slice y.A y.n y.c) ∧ wr.cell? ⟨b, o + u * 2, none⟩ = some (.int .i64 x.worth) ∧ wr.cell? ⟨b, o + u * 2 + 1, none⟩ = some (.slice x.A x.n x.c) ∧ wr.heap.size ≤ wr.heap.size ∧ Below wr.heap.size wr wr := ⟨cy0, cy1, cx0, cx1, Nat.le_refl _, Below.refl _ _⟩
          have wu : IntKind.i64.wrap ((u : Int) - 1) = (t : Int) := by rw [IntWalk.i64_in _ (by omega)]; omega
          have k1 : (0 : Int) ≤ (t : Int) := by omega
          have k2 : (0 : Int) ≤ (u : Int) := by omega
          have k3 : (t : Int) < (n : Int) := by omega
          have k4 : (u : Int) < (n : Int) := by omega
          have hne : ¬ t = u := by omega
          have hne' : ¬ u = t := by omega
          have k5 : 1 ≤ (u : Int) := by omega
          have HT := Lib.hid ht
          have HUT := Lib.hid hut
          have GX := Lib.hid gx
          have GY := Lib.hid gy
          have HR := Lib.hid hR
          clear ht hut gx gy hR hul2 cy0 cy1 cx0 cx1 hym
          go_wp2
          by_cases hxy : x.worth - y.worth < 0
          · go_region_held3 (fun W => W.cell? ⟨b, o + t * 2, none⟩ = some (.int .i64 y.worth) ∧ W.cell? ⟨b, o + t * 2 + 1, none⟩ = some (.slice y.A y.n y.c) ∧ W.cell? ⟨b, o + u * 2, none⟩ = some (.int .i64 x.worth) ∧ W.cell? ⟨b, o + u * 2 + 1, none⟩ = some (.slice x.A x.n x.c) ∧ wr.heap.size ≤ W.heap.size ∧ Below wr.heap.size wr W)
              (first | assumption | exact keepc4d (by assumption) | exact keepc4b hbl hbl hbl hbl (by assumption) (by assumption))
              ((go_at_call 16; refine (hCmp.out _ (keepc4w (by assumption))).mono ?_; rintro e w' ⟨rfl, hb⟩))
            all_goals
              rename_i hHeld
              have hB := keepc4w hHeld
              have hRw := HR.out.row.below hB
              obtain ⟨cy0, cy1, cx0, cx1, _, _⟩ := hHeld
              have fy0 := hRw.free0 t (by omega)
              have fy1 := hRw.free1 t (by omega)
              have fx0 := hRw.free0 u (by omega)
              have fx1 := hRw.free1 u (by omega)
              have HRW := Lib.hid hRw
              have HR2 : Hid (InsI w0 b o n pre s (r' ++ post) x (p' ++ [y]) q w') := ⟨hRw, HR.out.eq, HR.out.gt⟩
              clear hRw hB hS
              go_wp2
              go_region
              go_wp2
              go_roundw
              case rel =>
                refine ⟨t, p', y :: q, rfl, by omega, HT, ?_⟩
                have h2 := ((HRW.out.set u y (by omega)).set t x (by omega)).drew
                refine ins_step HR2.out (by omega) ?_
                rw [← HT.out, ← HUT.out]
                exact h2
              case measure => have := HUT.out; simp [intOf]; omega
          · go_region_held3 (fun W => W.cell? ⟨b, o + t * 2, none⟩ = some (.int .i64 y.worth) ∧ W.cell? ⟨b, o + t * 2 + 1, none⟩ = some (.slice y.A y.n y.c) ∧ W.cell? ⟨b, o + u * 2, none⟩ = some (.int .i64 x.worth) ∧ W.cell? ⟨b, o + u * 2 + 1, none⟩ = some (.slice x.A x.n x.c) ∧ wr.heap.size ≤ W.heap.size ∧ Below wr.heap.size wr W)
              (first | assumption | exact keepc4d (by assumption) | exact keepc4b hbl hbl hbl hbl (by assumption) (by assumption))
              ((go_at_call 16; refine (hCmp.out _ (keepc4w (by assumption))).mono ?_; rintro e w' ⟨rfl, hb⟩))
            all_goals
              rename_i hHeld
              have hB := keepc4w hHeld
              have hRw := HR.out.row.below hB
              have HRW := Lib.hid hRw
              clear hRw hB hS hHeld
              go_wp2
              go_roundw
              case rel =>
                refine ⟨i + 1, p' ++ [y] ++ x :: q, r', by go_num, ins_out ⟨HRW.out, HR.out.eq, HR.out.gt⟩ HO.out (fun z hz => ?_), .inl ?_, by omega⟩
                · simp at hz; subst hz; omega
                · have e1 := HI'.out
                  have e2 := HR.out.eq
                  rw [e1, ← e2]; simp; omega
              case measure => simp [intOf]; omega
        · have hua2 : decide (a < u) = false := decide_eq_false (by omega)
          have HR := Lib.hid hR
          have hp0 : Hid (p = []) := by
            have := hul.out; have := HA.out
            exact List.eq_nil_of_length_eq_zero (by omega)
          clear hR
          go_wp2
          go_quiet (fail)
          go_wp2
          go_roundw
          case rel =>
            refine ⟨i + 1, p ++ x :: q, r', by go_num, ins_out ⟨HR.out.row.drewN _, HR.out.eq, HR.out.gt⟩ HO.out (fun z hz => ?_), .inl ?_, by omega⟩
            · rw [hp0.out] at hz; cases hz
            · have e1 := HI'.out
              have e2 := HR.out.eq
              rw [e1, ← e2]; simp; omega
          case measure => simp [intOf]; omega
    · have HO := Lib.hid hI
      clear hI
      go_wp2
      go_end0
      refine ⟨rfl, s, ?_, ?_, HO.out.srt⟩
      · have hr : r = [] := by
          have h1 := HZ.out
          have h2 := HO.out.perm.length_eq
          simp at h2
          rcases hi.out with e | ⟨_, e⟩
          · exact List.eq_nil_of_length_eq_zero (by omega)
          · have e2 : mid.length = 0 := by rw [e]; rfl
            exact List.eq_nil_of_length_eq_zero (by omega)
        have := HO.out.row
        subst hr
        simpa using this
      · have hr : r = [] := by
          have h1 := HZ.out
          have h2 := HO.out.perm.length_eq
          simp at h2
          rcases hi.out with e | ⟨_, e⟩
          · exact List.eq_nil_of_length_eq_zero (by omega)
          · have e2 : mid.length = 0 := by rw [e]; rfl
            exact List.eq_nil_of_length_eq_zero (by omega)
        have := HO.out.perm
        subst hr
        simpa using this
end Go.Proofs.Ytoncakcfibahaaa
