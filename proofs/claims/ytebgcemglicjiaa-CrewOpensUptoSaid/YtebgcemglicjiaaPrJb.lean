/- press.Open and linenref.Open, whole. -/
import Derived.Test.YtebgcemglicjiaaPrsO
import Derived.Test.YtebgcemglicjiaaPrsR
import Derived.Test.YtebgcemglicjiaaLzR
/- linenref.Open, walked. -/
namespace Go.Proofs.Ytebgcemglicjiaa
open Go.RowKit Go.PlainAid

theorem info_u8U : (Try.prog.info? 5).map (fun i => (i.zero, i.size, i.bytes)) = some (some (.int .u8 0), 1, 1) := by kernel_rfl
theorem own_rowU {w : World} {b N : Nat} {cs : Array Value} {t : TypeId} {xs : List Value} (h : w.heap[b]? = some (.cells cs t (0, 0))) (hl : cs.size = N) (hx : cs.toList = xs) (hN : N ≤ maxLen) : Owns w b 1 (.slice (some ⟨b, 0, none⟩) N N) N xs := by
  subst hx
  refine ⟨by simp [hl], .inr ⟨b, 0, N, rfl, Nat.le_refl _, row_lt h, Nat.le_refl _, hN, fun j u hu => ?_, fun j hj => ⟨?_, ?_⟩⟩⟩
  · rw [Nat.zero_add, row_cell h]; simpa using hu
  · rw [Nat.zero_add, row_cell h]
    have : j < cs.size := by omega
    simp [this]
  · rw [Nat.zero_add]; exact row_cold h j

theorem mk_u8Z (N : Nat) (hN : N ≤ 512) : ∀ W : World, (Instr.makeSlice 38 (.int .u64 (N : Int)) (.int .u64 (N : Int))).run Try.prog W = .ok (.slice (some ⟨W.heap.size, 0, none⟩) N N) (W.alloc (.cells (Array.replicate N (.int .u8 0)) 5)) := fun W => by
  obtain ⟨i, hi, hzz⟩ := Option.map_eq_some_iff.1 info_u8U
  simp only [Prod.mk.injEq] at hzz
  obtain ⟨hz, hs, hbb⟩ := hzz
  have := run_make (P := Try.prog) W 38 5 i (.int .u8 0) Try.underlying38 hi hz .u64 .u64 N N (by omega) (by omega) (by rw [hbb]; omega) (by omega)
  rw [hs] at this
  rw [this, Int.toNat_natCast]
  have e : madeCells (Value.int .u8 0).cells (N * 1) = Array.replicate N (.int .u8 0) := by
    apply Array.ext'
    rw [Nat.mul_one, Array.toList_replicate]
    exact toList_madeCells_one _ _
  rw [e]
theorem pown_zeros (V : World) (n : Nat) (hn : n ≤ 512) : Owns (V.alloc (.cells (Array.replicate n (.int .u8 0)) 5)) V.heap.size 1 (.slice (some ⟨V.heap.size, 0, none⟩) n n) n ((List.replicate n (0 : Int)).map (Value.int .u8)) :=
  own_rowU (heap_alloc_new V _) (by simp) (by simp) (by unfold maxLen; omega)
theorem rmrr_any (s : ByteArray) (m : Nat) (W : World) (hs : s.size ≤ 1048575) (hm : m ≤ 512) : Calls Try.prog 11 #[.string s, .int .i64 m] W (RmPost s m W) := rmr_any s _ _ m W hs rfl rfl hm
theorem gR_cut {t : ByteArray} {k : Nat} (h : getN (bt (cutB t 1)) (cutB t 1).size = (k : Int)) : t.extract (1 + k) t.size = gR (cutB t 1) := by
  unfold gR; rw [h, Int.toNat_natCast, cut_cut]
theorem gN_ok {s : ByteArray} (h : gOk s) : ∃ k : Nat, getN (bt s) s.size = (k : Int) ∧ k ≤ s.size := by
  have h1 := get_end h.1
  exact ⟨(getN (bt s) s.size).toNat, by omega, by omega⟩

set_option maxRecDepth 20000 in
set_option maxHeartbeats 1000000 in
theorem openr_no1 (t : ByteArray) (w : World) (h : t.size = 0) : Calls Try.prog 5 #[.string t] w (OpPost t w) := by
  have HP := Lib.hid (fun w' => opPost_no (w := w) (w' := w') (opn_empty h))
  have ht : t = ⟨#[]⟩ := ByteArray.ext (Array.eq_empty_of_size_eq_zero h)
  generalize OpPost t w = PP at *
  subst ht
  clear h
  go_enter Try.func5, Try.ntmps5
  go_wp2
  exact HP.out _ (Below.refl _ _)

set_option maxRecDepth 20000 in
set_option maxHeartbeats 2000000 in
theorem openr_any (t : ByteArray) (w : World) (hs : t.size ≤ 1048575) (h : t.size ≠ 0) : Calls Try.prog 5 #[.string t] w (OpPost t w) := by
  have e0 := emp_neO h
  have e1 := emp_ne2O h
  have e2 := emp_ne3O h
  have z1 : 1 ≤ t.size := by omega
  have z0 : 0 < t.size := by omega
  have hgb := get_bt t 0 z0
  have hk0 := bt_nonneg t 0
  have hs1 : (cutB t 1).size ≤ 1048575 := Nat.le_trans (cutB_size t 1) hs
  have HG1 := Lib.hid (getr_any (cutB t 1) w (by omega))
  by_cases hK3 : 2 < bt t 0
  · have HP : Hid (∀ w', Below w.heap.size w w' → OpPost t w (.returned (.tuple #[.string ⟨#[]⟩, .int .i64 4])) w') := fun w' hb => opPost_no (by
      by_cases hg : gOk (cutB t 1)
      · exact opn_none h hg (body_no hK3)
      · exact opn_num h hg) hb
    have d0 := decide_eq_true hK3
    generalize OpPost t w = PP at *
    generalize bt t 0 = K at *
    clear h hK3 HG1
    go_enter Try.func5, Try.ntmps5
    go_wp2
    exact HP.out _ (Below.refl _ _)
  · have d0 := decide_eq_false hK3
    by_cases h1 : gOk (cutB t 1)
    · have HNO := Lib.hid (fun (hb : bodyR (bt t 0) (gV (cutB t 1)) (gR (cutB t 1)) = none) w' => opPost_no (w := w) (w' := w') (opn_none h h1 hb))
      have HLEN := Lib.hid (fun o (hb : bodyR (bt t 0) (gV (cutB t 1)) (gR (cutB t 1)) = some o) h3 w' => opPost_no (w := w) (w' := w') (opn_len h h1 hb h3))
      have HOK := Lib.hid (fun o (hb : bodyR (bt t 0) (gV (cutB t 1)) (gR (cutB t 1)) = some o) h3 w' => opPost_ok (w := w) (w' := w') (opn_ok h h1 hb h3))
      have hrs : (gR (cutB t 1)).size ≤ 1048575 := Nat.le_trans (gR_size _) hs1
      have hn512 := gV_le h1
      obtain ⟨k, hk, hk2⟩ := gN_ok h1
      have hcut := gR_cut hk
      have hE1 : (getE (bt (cutB t 1)) (cutB t 1).size != 0) = false := by rw [h1.1]; rfl
      rw [hk, gV_eq] at HG1
      generalize getE (bt (cutB t 1)) (cutB t 1).size = E at *
      have hsz1 : (cutB t 1).size = t.size - 1 := by simp [cutB, ByteArray.size_extract]
      have hkt : 1 + k ≤ t.size := by omega
      have v0 := decide_eq_false (show ¬ 512 < (gV (cutB t 1) : Int) by omega)
      have HRS := Lib.hid hrs
      have HG2 : Hid (∀ V, Calls Try.prog 10 #[.string (gR (cutB t 1))] V fun e w' => e = .returned (.tuple #[.int .u64 (getV (bt (gR (cutB t 1))) (gR (cutB t 1)).size), .int .i64 (getN (bt (gR (cutB t 1))) (gR (cutB t 1)).size), .int .i64 (getE (bt (gR (cutB t 1))) (gR (cutB t 1)).size)]) ∧ V = w') := fun V => getr_any _ V (by omega)
      generalize OpPost t w = PP at *
      generalize gV (cutB t 1) = n at *
      generalize gR (cutB t 1) = R at *
      generalize bt t 0 = K at *
      clear h h1 hs1 hsz1 hk hk2 hrs
      rcases (show K = 0 ∨ K = 1 ∨ K = 2 by omega) with hK | hK | hK
      · subst hK
        clear hK3 HG2
        by_cases hR : R.size = 0
        · have hR0 : R = ⟨#[]⟩ := ByteArray.ext (Array.eq_empty_of_size_eq_zero hR)
          have HP := Lib.hid (HOK.out (zt n) (body_0 hR) (zt_size n))
          have hmk := mk_u8Z n hn512
          have HOZ := Lib.hid (pown_zeros w n hn512)
          have HBZ : Hid (Below w.heap.size w (w.alloc (.cells (Array.replicate n (.int .u8 0)) 5))) := (Below.refl _ _).alloc (Nat.le_refl _) _
          subst hR0
          clear hR HNO HLEN HOK
          go_enter Try.func5, Try.ntmps5
          go_wp2_with (first
            | (go_at_call 10; refine HG1.out.mono ?_; rintro e w2 ⟨rfl, rfl⟩)
            | (refine wpList_text rfl rfl Try.underlying38 Try.underlying5 Try.underlying9 HOZ.out rfl ?_))
          exact HP.out _ HBZ.out
        · have HP := Lib.hid (HNO.out (body_0n hR))
          have y0 := emp_neO hR
          have y1 := emp_ne2O hR
          have y2 := emp_ne3O hR
          clear hR HNO HLEN HOK
          go_enter Try.func5, Try.ntmps5
          go_wp2_with (go_at_call 10; refine HG1.out.mono ?_; rintro e w2 ⟨rfl, rfl⟩)
          exact HP.out _ (Below.refl _ _)
      · subst hK
        clear hK3 HG2
        by_cases hR : R.size = n
        · have HP := Lib.hid (HOK.out R body_1 hR)
          obtain ⟨q1, q2⟩ := size_eq hR
          clear hR HNO HLEN HOK
          go_enter Try.func5, Try.ntmps5
          go_wp2_with (go_at_call 10; refine HG1.out.mono ?_; rintro e w2 ⟨rfl, rfl⟩)
          have h9 := HP.out _ (Below.refl _ _)
          rw [← hcut] at h9
          exact h9
        · have HP := Lib.hid (HLEN.out R body_1 hR)
          obtain ⟨q1, q2⟩ := size_ne hR
          clear hR HNO HLEN HOK
          go_enter Try.func5, Try.ntmps5
          go_wp2_with (go_at_call 10; refine HG1.out.mono ?_; rintro e w2 ⟨rfl, rfl⟩)
          exact HP.out _ (Below.refl _ _)
      · subst hK
        clear hK3
        by_cases hg : gOk R
        · obtain ⟨k2, hk2, hk3⟩ := gN_ok hg
          have hm512 := gV_le hg
          have hgr : R.extract k2 R.size = gR R := by unfold gR; rw [hk2, Int.toNat_natCast]
          have hE2 : (getE (bt R) R.size != 0) = false := by rw [hg.1]; rfl
          have v2 := decide_eq_false (show ¬ 512 < (gV R : Int) by omega)
          rw [hk2, gV_eq] at HG2
          have HG2' := HG2
          cases hmk : marksR (gR R) (gV R) with
          | none =>
            have HM : Hid (∀ V : World, Calls Try.prog 11 #[.string (gR R), .int .i64 (gV R)] V fun e w' => ∃ A n c, e = .returned (.tuple #[.slice A n c, .bool false]) ∧ Below V.heap.size V w' ∧ True) := fun V => (rmrr_any _ _ V (Nat.le_trans (gR_size _) HRS.out) hm512).mono (by
              rintro e w' ⟨A, n, c, ok, L, h1, _, _, _, h5, ⟨rfl, _⟩ | ⟨_, h8⟩⟩
              · exact ⟨A, n, c, h1, h5, trivial⟩
              · rw [hmk] at h8; cases h8)
            have HP := Lib.hid (HNO.out (body_2m hg hmk))
            generalize gV R = m at *
            generalize gR R = R2 at *
            generalize getE (bt R) R.size = E2 at *
            clear hg hmk HNO HLEN HOK hk2
            go_enter Try.func5, Try.ntmps5
            go_wp2_with (first
              | (go_at_call 11; refine (HM.out _).mono ?_; rintro e w4 ⟨A4, n4, c4, rfl, hb4, q4⟩; have Q4 := Lib.hid q4; have HB4 := Lib.hid hb4; clear q4 hb4)
              | (go_at_call 10; refine (H1D.out _).mono ?_; rintro e w3 ⟨rfl, rfl⟩)
              | (go_at_call 10; refine HG1.out.mono ?_; rintro e w2 ⟨rfl, rfl⟩; have H1D := HG2))
            exact HP.out _ HB4.out
          | some L =>
            have HM : Hid (∀ V : World, Calls Try.prog 11 #[.string (gR R), .int .i64 (gV R)] V fun e w' => ∃ A n c, e = .returned (.tuple #[.slice A n c, .bool true]) ∧ Below V.heap.size V w' ∧ RowsIn w' w'.heap.size A n c Mark.cells 3 L ∧ (∀ z ∈ L, Mark.ok z) ∧ L.length ≤ 512) := fun V => (rmrr_any _ _ V (Nat.le_trans (gR_size _) HRS.out) hm512).mono (by
              rintro e w' ⟨A, n, c, ok, L', h1, h2, h3, h4, h5, ⟨_, h8⟩ | ⟨rfl, h8⟩⟩
              · rw [hmk] at h8; cases h8
              · rw [hmk] at h8
                injection h8 with h8
                subst h8
                exact ⟨A, n, c, h1, h5, h2, h3, h4⟩)
            have HX : Hid (∀ (A : Option Addr) (n c : Nat) (V : World), (RowsIn V V.heap.size A n c Mark.cells 3 L ∧ (∀ z ∈ L, Mark.ok z) ∧ L.length ≤ 512) → Calls Try.prog 12 #[.slice A n c] V fun e w' => e = .returned (.tuple #[.string (strOfNums (expF [] L).1), .int .i64 (expF [] L).2]) ∧ Below V.heap.size V w') := fun A n c V q => expandr_any A n c L V q.1 q.2.1 (by have := q.1.len; have := q.2.2; omega)
            by_cases hEx : (expF [] L).2 = 0
            · have HB0 := Lib.hid (body_2 (n := n) hg hmk hEx)
              have d1 : ((expF [] L).2 != 0) = false := by rw [hEx]; rfl
              generalize strOfNums (expF [] L).1 = O at *
              generalize (expF [] L).2 = EE at *
              by_cases hO : O.size = n
              · have HP := Lib.hid (HOK.out O HB0.out hO)
                obtain ⟨q1, q2⟩ := size_eq hO
                generalize gV R = m at *
                generalize gR R = R2 at *
                generalize getE (bt R) R.size = E2 at *
                clear hg hmk HNO HLEN HOK hEx hO HB0 hk2
                go_enter Try.func5, Try.ntmps5
                go_wp2_with (first
                  | (go_at_call 12; refine (HX.out _ _ _ _ Q4.out).mono ?_; rintro e w5 ⟨rfl, hb5⟩; have HB5 := Lib.hid (HB4.out.trans (hb5.mono HB4.out.size)); clear hb5)
                  | (go_at_call 11; refine (HM.out _).mono ?_; rintro e w4 ⟨A4, n4, c4, rfl, hb4, q4⟩; have Q4 := Lib.hid q4; have HB4 := Lib.hid hb4; clear q4 hb4)
                  | (go_at_call 10; refine (H1D.out _).mono ?_; rintro e w3 ⟨rfl, rfl⟩)
                  | (go_at_call 10; refine HG1.out.mono ?_; rintro e w2 ⟨rfl, rfl⟩; have H1D := HG2))
                exact HP.out _ HB5.out
              · have HP := Lib.hid (HLEN.out O HB0.out hO)
                obtain ⟨q1, q2⟩ := size_ne hO
                generalize gV R = m at *
                generalize gR R = R2 at *
                generalize getE (bt R) R.size = E2 at *
                clear hg hmk HNO HLEN HOK hEx hO HB0 hk2
                go_enter Try.func5, Try.ntmps5
                go_wp2_with (first
                  | (go_at_call 12; refine (HX.out _ _ _ _ Q4.out).mono ?_; rintro e w5 ⟨rfl, hb5⟩; have HB5 := Lib.hid (HB4.out.trans (hb5.mono HB4.out.size)); clear hb5)
                  | (go_at_call 11; refine (HM.out _).mono ?_; rintro e w4 ⟨A4, n4, c4, rfl, hb4, q4⟩; have Q4 := Lib.hid q4; have HB4 := Lib.hid hb4; clear q4 hb4)
                  | (go_at_call 10; refine (H1D.out _).mono ?_; rintro e w3 ⟨rfl, rfl⟩)
                  | (go_at_call 10; refine HG1.out.mono ?_; rintro e w2 ⟨rfl, rfl⟩; have H1D := HG2))
                exact HP.out _ HB5.out
            · have HP := Lib.hid (HNO.out (body_2e hg hmk hEx))
              have d1 : ((expF [] L).2 != 0) = true := by simpa using hEx
              generalize strOfNums (expF [] L).1 = O at *
              generalize (expF [] L).2 = EE at *
              generalize gV R = m at *
              generalize gR R = R2 at *
              generalize getE (bt R) R.size = E2 at *
              clear hg hmk HNO HLEN HOK hEx hk2
              go_enter Try.func5, Try.ntmps5
              go_wp2_with (first
                | (go_at_call 12; refine (HX.out _ _ _ _ Q4.out).mono ?_; rintro e w5 ⟨rfl, hb5⟩; have HB5 := Lib.hid (HB4.out.trans (hb5.mono HB4.out.size)); clear hb5)
                | (go_at_call 11; refine (HM.out _).mono ?_; rintro e w4 ⟨A4, n4, c4, rfl, hb4, q4⟩; have Q4 := Lib.hid q4; have HB4 := Lib.hid hb4; clear q4 hb4)
                | (go_at_call 10; refine (H1D.out _).mono ?_; rintro e w3 ⟨rfl, rfl⟩)
                | (go_at_call 10; refine HG1.out.mono ?_; rintro e w2 ⟨rfl, rfl⟩; have H1D := HG2))
              exact HP.out _ HB5.out
        · have HP := Lib.hid (HNO.out (body_2n hg))
          by_cases hE : getE (bt R) R.size = 0
          · have d1 : (getE (bt R) R.size != 0) = false := by rw [hE]; rfl
            have d2 := decide_eq_true (show 512 < getV (bt R) R.size by
              by_cases hv : 512 < getV (bt R) R.size
              · exact hv
              · exact absurd ⟨hE, by omega⟩ hg)
            clear hg hE HNO HLEN HOK
            generalize getE (bt R) R.size = E2 at *
            generalize getV (bt R) R.size = V2 at *
            generalize getN (bt R) R.size = N2 at *
            go_enter Try.func5, Try.ntmps5
            go_wp2_with (first
              | (go_at_call 10; refine (H1D.out _).mono ?_; rintro e w3 ⟨rfl, rfl⟩)
              | (go_at_call 10; refine HG1.out.mono ?_; rintro e w2 ⟨rfl, rfl⟩; have H1D := HG2))
            exact HP.out _ (Below.refl _ _)
          · have d1 : (getE (bt R) R.size != 0) = true := by simpa using hE
            clear hg hE HNO HLEN HOK
            generalize getE (bt R) R.size = E2 at *
            generalize getV (bt R) R.size = V2 at *
            generalize getN (bt R) R.size = N2 at *
            go_enter Try.func5, Try.ntmps5
            go_wp2_with (first
              | (go_at_call 10; refine (H1D.out _).mono ?_; rintro e w3 ⟨rfl, rfl⟩)
              | (go_at_call 10; refine HG1.out.mono ?_; rintro e w2 ⟨rfl, rfl⟩; have H1D := HG2))
            exact HP.out _ (Below.refl _ _)
    · have HP := Lib.hid (fun w' => opPost_no (w := w) (w' := w') (opn_num h h1))
      generalize OpPost t w = PP at *
      by_cases hE : getE (bt (cutB t 1)) (cutB t 1).size = 0
      · have d1 : (getE (bt (cutB t 1)) (cutB t 1).size != 0) = false := by rw [hE]; rfl
        have d2 := decide_eq_true (show 512 < getV (bt (cutB t 1)) (cutB t 1).size by
          by_cases hv : 512 < getV (bt (cutB t 1)) (cutB t 1).size
          · exact hv
          · exact absurd ⟨hE, by omega⟩ h1)
        clear h h1 hE hs1
        generalize getE (bt (cutB t 1)) (cutB t 1).size = E2 at *
        generalize getV (bt (cutB t 1)) (cutB t 1).size = V2 at *
        generalize getN (bt (cutB t 1)) (cutB t 1).size = N2 at *
        generalize bt t 0 = K at *
        go_enter Try.func5, Try.ntmps5
        go_wp2_with (go_at_call 10; refine HG1.out.mono ?_; rintro e w2 ⟨rfl, rfl⟩)
        exact HP.out _ (Below.refl _ _)
      · have d1 : (getE (bt (cutB t 1)) (cutB t 1).size != 0) = true := by simpa using hE
        clear h h1 hE hs1
        generalize getE (bt (cutB t 1)) (cutB t 1).size = E2 at *
        generalize getV (bt (cutB t 1)) (cutB t 1).size = V2 at *
        generalize getN (bt (cutB t 1)) (cutB t 1).size = N2 at *
        generalize bt t 0 = K at *
        go_enter Try.func5, Try.ntmps5
        go_wp2_with (go_at_call 10; refine HG1.out.mono ?_; rintro e w2 ⟨rfl, rfl⟩)
        exact HP.out _ (Below.refl _ _)
end Go.Proofs.Ytebgcemglicjiaa

namespace Go.Proofs.Ytebgcemglicjiaa
theorem popen_any (t : ByteArray) (w : World) (hs : t.size ≤ 1048575) : Calls Try.prog 9 #[.string t] w (OpPost t w) := by
  by_cases h : t.size = 0
  · exact open_no1 t w h
  · by_cases h1 : gOk (cutB t 1)
    · exact popen_ok t w hs h h1
    · exact open_no2 t w hs h h1
theorem ropen_any (t : ByteArray) (w : World) (hs : t.size ≤ 1048575) : Calls Try.prog 5 #[.string t] w (OpPost t w) := by
  by_cases h : t.size = 0
  · exact openr_no1 t w h
  · exact openr_any t w hs h
end Go.Proofs.Ytebgcemglicjiaa
