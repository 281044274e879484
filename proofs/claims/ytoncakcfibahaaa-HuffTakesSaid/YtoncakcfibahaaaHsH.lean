/- slices' merge by rotation, walked. -/
import Derived.Test.YtoncakcfibahaaaHsF
import Derived.Test.YtoncakcfibahaaaHsG
import Derived.Deep.DeepCutAuto
namespace Go.Proofs.Ytoncakcfibahaaa
open Go.RowKit

def SymC (w0 : World) (b o n c kb K : Nat) : Prop := ∀ (a m z : Nat) (pre A B post : List CoinV) (w : World), A.length + B.length ≤ K → 0 < A.length → 0 < B.length → Row w0 b o n (pre ++ (A ++ (B ++ post))) w → CmpOk w0 b kb (A ++ B) → SrtC A → SrtC B →
  a = pre.length → m = a + A.length → z = m + B.length → Calls Try.prog 19 #[.slice (some ⟨b, o, none⟩) n c, .int .i64 a, .int .i64 m, .int .i64 z, cmpV kb] w fun e w' => e = .returned (.tuple #[]) ∧ InsPost' w0 b o n pre (A ++ B) post w'
/-- Where the cut is sought. -/
structure CutAt (A B : List CoinV) (a m z f S0 R0 : Nat) : Prop where
  f_ : f = (A.length + B.length) / 2
  m_ : m = a + A.length
  z_ : z = m + B.length
  w_ : a + f < m ∧ S0 = a + (f - B.length) ∧ R0 = a + f ∨ m ≤ a + f ∧ S0 = a ∧ R0 = m
theorem CutAt.mk' (A B : List CoinV) (a m z : Nat) (hm : m = a + A.length) (hz : z = m + B.length) : ∃ f S0 R0, CutAt A B a m z f S0 R0 ∧ S0 ≤ R0 ∧ (a + z) / 2 = a + f := by
  by_cases h : a + (A.length + B.length) / 2 < m
  · exact ⟨_, _, _, ⟨rfl, hm, hz, .inl ⟨h, rfl, rfl⟩⟩, by omega, by omega⟩
  · exact ⟨_, _, _, ⟨rfl, hm, hz, .inr ⟨by omega, rfl, rfl⟩⟩, by omega, by omega⟩
theorem CmpOk.sub {w0 : World} {b kb : Nat} {l l' : List CoinV} (h : CmpOk w0 b kb l) (hp : ∀ x ∈ l', x ∈ l) : CmpOk w0 b kb l' := ⟨h.key, h.ne, h.lt, fun x hx => h.small x (hp x hx)⟩
/-- The four parts. -/
structure Parts (A B : List CoinV) (a m z f i E : Nat) (A1 A2 B1 B2 : List CoinV) : Prop where
  eqA : A = A1 ++ A2
  eqB : B = B1 ++ B2
  i_ : i = a + A1.length
  mid_ : a + f = i + B1.length
  m_ : m = i + A2.length
  e_ : E = m + B1.length
  z_ : z = E + B2.length
  s1 : SrtC A1
  s2 : SrtC A2
  s3 : SrtC B1
  s4 : SrtC B2
  join : ∀ M1 M2, M1.Perm (A1 ++ B1) → M2.Perm (A2 ++ B2) → SrtC M1 → SrtC M2 → SrtC (M1 ++ M2) ∧ (M1 ++ M2).Perm (A ++ B)
theorem parts_of {A B : List CoinV} {a m z f S0 R0 i : Nat} (h : CutAt A B a m z f S0 R0) (hA : SrtC A) (hB : SrtC B) (g : BsG A B f (S0 - a) (R0 - a) (i - a) (i - a)) (h1 : S0 ≤ i) (h2 : i ≤ R0) :
    ∃ A1 A2 B1 B2, Parts A B a m z f i (a + f + m - i) A1 A2 B1 B2 := by
  have c1 := h.f_
  have c2 := h.m_
  have c3 := h.z_
  have c4 := h.w_
  have hl1 : (A.take (i - a)).length = i - a := by rw [List.length_take]; omega
  have hl2 : (A.drop (i - a)).length = A.length - (i - a) := by rw [List.length_drop]
  have hl3 : (B.take (f - (i - a))).length = f - (i - a) := by rw [List.length_take]; omega
  have hl4 : (B.drop (f - (i - a))).length = B.length - (f - (i - a)) := by rw [List.length_drop]
  have hc := cut_le hA hB g c1 (by omega) (by omega) (by omega)
  exact ⟨A.take (i - a), A.drop (i - a), B.take (f - (i - a)), B.drop (f - (i - a)), (List.take_append_drop _ _).symm, (List.take_append_drop _ _).symm, by omega, by omega, by omega, by omega, by omega,
    srt_take hA _, srt_drop hA _, srt_take hB _, srt_drop hB _, fun M1 M2 p1 p2 q1 q2 => cut_join hc p1 p2 q1 q2⟩
def HalfRow (w0 : World) (b o n : Nat) (pre A1 B1 rest : List CoinV) (wx : World) : Prop := ∃ M1, M1.Perm (A1 ++ B1) ∧ SrtC M1 ∧ Row w0 b o n (pre ++ (M1 ++ rest)) wx
set_option maxRecDepth 20000 in
set_option maxHeartbeats 1000000 in
theorem symG_any (w0 : World) (b o n c kb K a m z : Nat) (ih : SymC w0 b o n c kb K) (pre A B post : List CoinV) (w : World) (h : Row w0 b o n (pre ++ (A ++ (B ++ post))) w) (hk : CmpOk w0 b kb (A ++ B)) (hA : SrtC A) (hB : SrtC B) (ha : a = pre.length) (hm : m = a + A.length) (hz : z = m + B.length) (hn : n ≤ 100000) (h1 : 2 ≤ A.length) (h2 : 2 ≤ B.length) (hK : A.length + B.length ≤ K + 1) :
    Calls Try.prog 19 #[.slice (some ⟨b, o, none⟩) n c, .int .i64 a, .int .i64 m, .int .i64 z, cmpV kb] w fun e w' => e = .returned (.tuple #[]) ∧ InsPost' w0 b o n pre (A ++ B) post w' := by
  have hl : pre.length + A.length + B.length + post.length = n := by have := h.len; simp at this; omega
  obtain ⟨f, S0, R0, hc, hSR, hf⟩ := CutAt.mk' A B a m z hm hz
  have c1 := hc.f_
  have c4 := hc.w_
  obtain ⟨mid, hmid⟩ : ∃ mid, mid = a + f := ⟨_, rfl⟩
  obtain ⟨N, hN⟩ : ∃ N, N = mid + m := ⟨_, rfl⟩
  obtain ⟨P, hP⟩ : ∃ P, P = N - 1 := ⟨_, rfl⟩
  have b1 : (a : Int) ≤ 100000 := by omega
  have b2 : (m : Int) ≤ 100000 := by omega
  have b3 : (z : Int) ≤ 100000 := by omega
  have b4 : (mid : Int) ≤ 100000 := by omega
  have b5 : (N : Int) ≤ 200000 := by omega
  have b6 : (P : Int) ≤ 200000 := by omega
  have b7 : (S0 : Int) ≤ (R0 : Int) := by omega
  have b8 : (R0 : Int) ≤ (m : Int) := by omega
  have b9 : (R0 : Int) ≤ (mid : Int) := by omega
  have b10 : (a : Int) ≤ (S0 : Int) := by omega
  obtain ⟨d, hd⟩ : ∃ d : Int, (m : Int) - (a : Int) = d := ⟨_, rfl⟩
  have e0 : (d == 1) = false := beq_eq_false_iff_ne.2 (by omega)
  obtain ⟨d', hd'⟩ : ∃ d' : Int, (z : Int) - (m : Int) = d' := ⟨_, rfl⟩
  have e0' : (d' == 1) = false := beq_eq_false_iff_ne.2 (by omega)
  have e1 : ((a : Int) + (z : Int)) / 2 = (mid : Int) := by omega
  have e2 : (mid : Int) + (m : Int) = (N : Int) := by omega
  have e3 : (N : Int) - 1 = (P : Int) := by omega
  have H := Lib.hid h
  have HK := Lib.hid hk
  have HSA := Lib.hid hA
  have HSB := Lib.hid hB
  have HA := Lib.hid ha
  have HM := Lib.hid hm
  have HZ := Lib.hid hz
  have HL := Lib.hid hl
  have HC := Lib.hid hc
  have IH := Lib.hid ih
  have HMID := Lib.hid hmid
  have HN := Lib.hid hN
  have HP := Lib.hid hP
  have H1 := Lib.hid h1
  have H2 := Lib.hid h2
  have HKK := Lib.hid hK
  have C1 := Lib.hid c1
  have C4 := Lib.hid c4
  clear h hk hA hB ha hm hz hl h1 h2 hc ih hmid hN hP hf hK c1 c4 hSR
  have hcmp : cmpV kb = .func (.func 16) #[] #[.pointer (some ⟨kb, 0, none⟩)] := rfl
  have HCMP := Lib.hid hcmp
  clear hcmp
  have HW0 : Hid (∃ z : World, z = w) := ⟨_, rfl⟩
  rw [HCMP.out]
  go_enter Try.func19, Try.ntmps19
  go_upto_if 140 with fail
  go_cut [20, 21] (fun s20 s21 wx => s20 = .int .i64 S0 ∧ s21 = .int .i64 R0 ∧ wx = w)
  case first =>
    rcases C4.out with ⟨q1, q2, q3⟩ | ⟨q1, q2, q3⟩
    · have t1 : (mid : Int) < (m : Int) := by have := HMID.out; omega
      have t2 : (N : Int) - (z : Int) = (S0 : Int) := by have := HMID.out; have := HN.out; have := HM.out; have := HZ.out; have := C1.out; omega
      have t3 : R0 = mid := by rw [HMID.out]; exact q3
      have T3 := Lib.hid t3
      clear q1 q2 q3 t3
      go_wp2
      go_meet
      case rel => exact ⟨rfl, by rw [T3.out], rfl⟩
    · have t1 : ¬ (mid : Int) < (m : Int) := by have := HMID.out; omega
      have T2 := Lib.hid q2
      have T3 := Lib.hid q3
      clear q1 q2 q3
      go_wp2
      go_meet
      case rel => exact ⟨by rw [T2.out], by rw [T3.out], rfl⟩
  case rest =>
    obtain ⟨rfl, rfl, hw⟩ := hcut
    subst hw
    obtain ⟨wa, rfl⟩ : ∃ z : World, z = wc := ⟨_, rfl⟩
    go_wp2
    go_loopw [20, 21] (fun u v wr => ∃ i j : Nat, u = .int .i64 i ∧ v = .int .i64 j ∧ S0 ≤ i ∧ i ≤ j ∧ j ≤ R0 ∧ Hid (BsG A B f (S0 - a) (R0 - a) (i - a) (j - a)) ∧ Hid (Row w0 b o n (pre ++ (A ++ (B ++ post))) wr)) (fun u v _ => (intOf v).toNat - (intOf u).toNat)
    case atStart => exact ⟨S0, R0, rfl, rfl, Nat.le_refl _, by omega, Nat.le_refl _, ⟨.inl rfl, .inl rfl⟩, H.out⟩
    case round =>
      obtain ⟨i, j, rfl, rfl, hmi, hij, hjz, HBs, HR⟩ := hrel
      by_cases hlt : i < j
      · obtain ⟨q, hq⟩ : ∃ q, q = (i + j) / 2 := ⟨_, rfl⟩
        obtain ⟨p, hp⟩ : ∃ p, p = P - q := ⟨_, rfl⟩
        have hq1 : ((i : Int) + (j : Int)) / 2 = (q : Int) := by omega
        have hqj : q < j := by omega
        have hqi : i ≤ q := by omega
        have hlt1 : (i : Int) < (j : Int) := by omega
        have o1 := HMID.out
        have o2 := HN.out
        have o3 := HP.out
        have o4 := HM.out
        have o5 := HZ.out
        have o6 := HL.out
        have o7 := HA.out
        have o8 := C1.out
        have o9 := C4.out
        have hpB : f - 1 - (q - a) < B.length := by omega
        have hqA : q - a < A.length := by omega
        have hpe : p = pre.length + A.length + (f - 1 - (q - a)) := by omega
        have hfq : q - a < f := by omega
        have gx : A[q - a]? = some A[q - a] := List.getElem?_eq_getElem hqA
        have gy : B[f - 1 - (q - a)]? = some B[f - 1 - (q - a)] := List.getElem?_eq_getElem hpB
        have gq : (pre ++ (A ++ (B ++ post)))[q]? = some A[q - a] := by
          rw [List.getElem?_append_right (by omega), List.getElem?_append_left (by omega), ← gx, o7]
        have gp : (pre ++ (A ++ (B ++ post)))[p]? = some B[f - 1 - (q - a)] := by
          rw [List.getElem?_append_right (by omega), List.getElem?_append_right (by omega), List.getElem?_append_left (by omega), ← gy]
          congr 1; omega
        have hxm : A[q - a] ∈ A ++ B := by simp
        have hym : B[f - 1 - (q - a)] ∈ A ++ B := by simp
        have hUP : A[q - a].worth ≤ B[f - 1 - (q - a)].worth → BsG A B f (S0 - a) (R0 - a) (q + 1 - a) (j - a) := fun k => ⟨.inr ⟨by omega, by omega, fun x' y' hx' hy' => by
          rw [show q + 1 - a - 1 = q - a by omega, gx] at hx'
          rw [show f - (q + 1 - a) = f - 1 - (q - a) by omega, gy] at hy'
          injection hx' with hx'; injection hy' with hy'
          rw [← hx', ← hy']; exact k⟩, HBs.out.hi⟩
        have hDN : B[f - 1 - (q - a)].worth ≤ A[q - a].worth → BsG A B f (S0 - a) (R0 - a) (i - a) (q - a) := fun k => ⟨HBs.out.lo, .inr ⟨hfq, fun x' y' hx' hy' => by
          rw [gx] at hx'
          rw [gy] at hy'
          injection hx' with hx'; injection hy' with hy'
          rw [← hx', ← hy']; exact k⟩⟩
        have HUP := Lib.hid hUP
        have HDN := Lib.hid hDN
        clear hUP hDN
        generalize A[q - a] = x at *
        generalize B[f - 1 - (q - a)] = y at *
        have cy0 := HR.out.cell0 p y gp
        have cy1 := HR.out.cell1 p y gp
        have cx0 := HR.out.cell0 q x gq
        have cx1 := HR.out.cell1 q x gq
        have hCmp : Hid (∀ W, Below wr.heap.size wr W → Calls Try.prog 16 #[.agg #[.int .i64 y.worth, .slice y.A y.n y.c], .agg #[.int .i64 x.worth, .slice x.A x.n x.c], .pointer (some ⟨kb, 0, none⟩)] W fun e w' => e = .returned (.int .i64 (y.worth - x.worth)) ∧ Below W.heap.size W w') := fun W hW => cmp_row HK.out HR.out hym hxm W hW
        have hbl : b < wr.heap.size := Nat.lt_of_lt_of_le HR.out.lt HR.out.grown.size
        have hS : wr.cell? ⟨b, o + p * 2, none⟩ = some (.int .i64 y.worth) ∧ wr.cell? ⟨b, o + p * 2 + 1, none⟩ = some (.slice y.A y.n y.c) ∧ wr.cell? ⟨b, o + q * 2, none⟩ = some (.int .i64 x.worth) ∧ wr.cell? ⟨b, o + q * 2 + 1, none⟩ = some (.slice x.A x.n x.c) ∧ wr.heap.size ≤ wr.heap.size ∧ Below wr.heap.size wr wr := ⟨cy0, cy1, cx0, cx1, Nat.le_refl _, Below.refl _ _⟩
        have k1 : (0 : Int) ≤ (q : Int) := by omega
        have k2 : (0 : Int) ≤ (p : Int) := by omega
        have k3 : (q : Int) < (n : Int) := by omega
        have k4 : (p : Int) < (n : Int) := by omega
        have wp : IntKind.i64.wrap ((P : Int) - (q : Int)) = (p : Int) := by rw [IntWalk.i64_in _ (by omega)]; omega
        have hja : a ≤ i := by omega
        clear hq hp gx gy gq gp hxm hym hqA hpB cy0 cy1 cx0 cx1 hpe hfq o1 o2 o3 o4 o5 o6 o7 o8 o9
        go_wp2
        rcases Bool.eq_false_or_eq_true (decide (y.worth - x.worth < 0)) with hxy | hxy
        all_goals
          go_region_held3 (fun W => W.cell? ⟨b, o + p * 2, none⟩ = some (.int .i64 y.worth) ∧ W.cell? ⟨b, o + p * 2 + 1, none⟩ = some (.slice y.A y.n y.c) ∧ W.cell? ⟨b, o + q * 2, none⟩ = some (.int .i64 x.worth) ∧ W.cell? ⟨b, o + q * 2 + 1, none⟩ = some (.slice x.A x.n x.c) ∧ wr.heap.size ≤ W.heap.size ∧ Below wr.heap.size wr W)
                (first | assumption | exact keepc4d (by assumption) | exact keepc4b hbl hbl hbl hbl (by assumption) (by assumption))
                ((go_at_call 16; refine (hCmp.out _ (keepc4w (by assumption))).mono ?_; rintro e w' ⟨rfl, hb⟩))
        · all_goals
            rename_i hHeld
            have HR2 := Lib.hid (HR.out.below (keepc4w hHeld))
            clear hHeld hS hCmp
            go_wp2
            go_roundw
            case rel => exact ⟨i, q, rfl, rfl, by omega, by omega, by omega, HDN.out (by have := of_decide_eq_true hxy; omega), HR2⟩
            case measure => (simp [intOf]; try omega)
        · all_goals
            rename_i hHeld
            have HR2 := Lib.hid (HR.out.below (keepc4w hHeld))
            clear hHeld hS hCmp
            go_wp2
            go_roundw
            case rel => exact ⟨q + 1, j, by go_num, rfl, by omega, by omega, by omega, HUP.out (by have := of_decide_eq_false hxy; omega), HR2⟩
            case measure => (simp [intOf]; try omega)
      · obtain rfl : i = j := by omega
        have hlt1 : ¬ (i : Int) < (i : Int) := by omega
        obtain ⟨A1, A2, B1, B2, hp⟩ := parts_of HC.out HSA.out HSB.out HBs.out hmi hjz
        have HPP := Lib.hid hp
        have hEe : a + f + m - i = N - i := by have := HMID.out; have := HN.out; omega
        obtain ⟨E, hE⟩ : ∃ E, E = a + f + m - i := ⟨_, rfl⟩
        have hmz : a ≤ i ∧ i ≤ m ∧ m ≤ E ∧ E ≤ z ∧ i ≤ mid ∧ mid ≤ E := by
          have q1 := hp.i_; have q2 := hp.mid_; have q3 := hp.m_; have q4 := hp.e_; have q5 := hp.z_; have q6 := HMID.out
          refine ⟨by omega, by omega, by omega, by omega, by omega, by omega⟩
        obtain ⟨z1, z2, z3, z4, z5, z6⟩ := hmz
        have e5 : (N : Int) - (i : Int) = (E : Int) := by omega
        rw [← hE] at HPP
        have hR1 := HR.out
        rw [HPP.out.eqA, HPP.out.eqB] at hR1
        have HR1 : Hid (Row w0 b o n (pre ++ (A1 ++ (A2 ++ (B1 ++ (B2 ++ post))))) wr) := Lib.hid (by simpa using hR1)
        clear hR1 hp hE hEe
        have z7 : (E : Int) ≤ 100000 := by omega
        have hq1 : (i < m ∧ m < E) ∨ (i < m ∧ ¬ m < E ∧ B1 = []) ∨ (¬ i < m ∧ A2 = []) := by
          have q1 := HPP.out.m_; have q2 := HPP.out.e_
          by_cases t1 : i < m
          · by_cases t2 : m < E
            · exact .inl ⟨t1, t2⟩
            · exact .inr (.inl ⟨t1, t2, List.eq_nil_of_length_eq_zero (by omega)⟩)
          · exact .inr (.inr ⟨t1, List.eq_nil_of_length_eq_zero (by omega)⟩)
        have hq2 : (a < i ∧ i < mid) ∨ (a < i ∧ ¬ i < mid ∧ B1 = []) ∨ (¬ a < i ∧ A1 = []) := by
          have q1 := HPP.out.i_; have q2 := HPP.out.mid_; have q3 := HMID.out
          by_cases t1 : a < i
          · by_cases t2 : i < mid
            · exact .inl ⟨t1, t2⟩
            · exact .inr (.inl ⟨t1, t2, List.eq_nil_of_length_eq_zero (by omega)⟩)
          · exact .inr (.inr ⟨t1, List.eq_nil_of_length_eq_zero (by omega)⟩)
        have hq3 : (mid < E ∧ E < z) ∨ (mid < E ∧ ¬ E < z ∧ B2 = []) ∨ (¬ mid < E ∧ A2 = []) := by
          have q1 := HPP.out.m_; have q2 := HPP.out.e_; have q3 := HPP.out.mid_; have q4 := HMID.out; have q5 := HPP.out.z_
          by_cases t1 : mid < E
          · by_cases t2 : E < z
            · exact .inl ⟨t1, t2⟩
            · exact .inr (.inl ⟨t1, t2, List.eq_nil_of_length_eq_zero (by omega)⟩)
          · exact .inr (.inr ⟨t1, List.eq_nil_of_length_eq_zero (by omega)⟩)
        have HQ2 := Lib.hid hq2
        have HQ3 := Lib.hid hq3
        have HSYM1 : Hid (∀ W, a < i → i < mid → Row w0 b o n (pre ++ (A1 ++ (B1 ++ (A2 ++ (B2 ++ post))))) W → Calls Try.prog 19 #[.slice (some ⟨b, o, none⟩) n c, .int .i64 a, .int .i64 i, .int .i64 mid, .func (.func 16) #[] #[.pointer (some ⟨kb, 0, none⟩)]] W fun e w' => e = .returned (.tuple #[]) ∧ HalfRow w0 b o n pre A1 B1 (A2 ++ (B2 ++ post)) w') := fun W t1 t2 hW => by
          have hsym := IH.out a i mid pre A1 B1 (A2 ++ (B2 ++ post)) W (by have := HPP.out.i_; have := HPP.out.mid_; have := C1.out; have := HKK.out; have := H1.out; have := H2.out; omega) (by have := HPP.out.i_; omega) (by have := HPP.out.mid_; have := HMID.out; omega) hW
                  (HK.out.sub (fun x hx => by rw [HPP.out.eqA, HPP.out.eqB]; simp at hx ⊢; rcases hx with h | h <;> simp [h])) HPP.out.s1 HPP.out.s3 HA.out HPP.out.i_ (by have := HPP.out.mid_; have := HMID.out; omega)
          rw [HCMP.out] at hsym
          exact hsym.mono fun _ _ ⟨he, M1, hrw, hpm, hsm⟩ => ⟨he, M1, hpm, hsm, hrw⟩
        have HSYM2 : Hid (∀ W, mid < E → E < z → HalfRow w0 b o n pre A1 B1 (A2 ++ (B2 ++ post)) W → Calls Try.prog 19 #[.slice (some ⟨b, o, none⟩) n c, .int .i64 mid, .int .i64 E, .int .i64 z, .func (.func 16) #[] #[.pointer (some ⟨kb, 0, none⟩)]] W fun e w' => e = .returned (.tuple #[]) ∧ InsPost' w0 b o n pre (A ++ B) post w') := fun W t1 t2 hW => by
          obtain ⟨M1, p1, s1, hrow⟩ := hW
          have hml := p1.length_eq
          simp only [List.length_append] at hml
          have hsym := IH.out mid E z (pre ++ M1) A2 B2 post W (by have := HPP.out.i_; have := HPP.out.mid_; have := HPP.out.m_; have := HPP.out.e_; have := HPP.out.z_; have := C1.out; have := HKK.out; have := H1.out; have := H2.out; have := HM.out; have := HZ.out; omega) (by have := HPP.out.m_; have := HPP.out.e_; have := HPP.out.mid_; have := HMID.out; omega) (by have := HPP.out.z_; omega) (by simpa using hrow)
                  (HK.out.sub (fun x hx => by rw [HPP.out.eqA, HPP.out.eqB]; simp at hx ⊢; rcases hx with h | h <;> simp [h])) HPP.out.s2 HPP.out.s4 (by have := HPP.out.i_; have := HPP.out.mid_; have := HMID.out; have := HA.out; simp; omega) (by have := HPP.out.m_; have := HPP.out.e_; have := HPP.out.mid_; have := HMID.out; omega) HPP.out.z_
          rw [HCMP.out] at hsym
          refine hsym.mono fun _ _ ⟨he, M2, hrw, hpm, hsm⟩ => ?_
          have hj := HPP.out.join M1 M2 p1 hpm s1 hsm
          exact ⟨he, M1 ++ M2, by simpa using hrw, hj.2, hj.1⟩
        have HEND : Hid (∀ W, (B2 = [] ∨ A2 = []) → HalfRow w0 b o n pre A1 B1 (A2 ++ (B2 ++ post)) W → InsPost' w0 b o n pre (A ++ B) post W) := fun W h0 ⟨M1, p1, s1, hrow⟩ => by
          have hj := HPP.out.join M1 (A2 ++ B2) p1 (List.Perm.refl _) s1 (h0.elim (fun e => srt_nil_r HPP.out.s2 e) (fun e => srt_nil_l HPP.out.s4 e))
          exact ⟨M1 ++ (A2 ++ B2), by simpa using hrow, hj.2, hj.1⟩
        have HROT : Hid (i < m → m < E → Calls Try.prog 21 #[.slice (some ⟨b, o, none⟩) n c, .int .i64 i, .int .i64 m, .int .i64 E, .func (.func 16) #[] #[.pointer (some ⟨kb, 0, none⟩)]] wr fun e w' => e = .returned (.tuple #[]) ∧ Row w0 b o n (pre ++ (A1 ++ (B1 ++ (A2 ++ (B2 ++ post))))) w') := fun t1 t2 => by
          have hrot := rot_any w0 b o n c i m E (pre ++ A1) A2 B1 (B2 ++ post) (cmpV kb) wr (by simpa using HR1.out) (by have := HPP.out.i_; have := HA.out; simp; omega) (by have := HPP.out.m_; have := HPP.out.i_; have := HA.out; simp; omega) HPP.out.e_ (by have := HPP.out.m_; omega) (by have := HPP.out.e_; omega) hn
          rw [HCMP.out] at hrot
          exact hrot.mono fun _ _ ⟨he, hrw⟩ => ⟨he, by simpa using hrw⟩
        clear hq2 hq3
        rcases hq1 with ⟨p1, p2⟩ | ⟨r1, r2, hb⟩ | ⟨q1, hb⟩
        all_goals (first
          | (have hpp := p1
             have t1' : (i : Int) < (m : Int) := by omega
             have t2' : (m : Int) < (E : Int) := by omega
             go_upto_region 41 with (go_at_call 21; refine (HROT.out p1 p2).mono ?_; rintro e w5 ⟨rfl, hrw⟩; have HRR := Lib.hid hrw; clear hrw))
          | (have hpp := r1
             have t1' : (i : Int) < (m : Int) := by omega
             have t2' : ¬ (m : Int) < (E : Int) := by omega
             obtain ⟨w5, rfl⟩ : ∃ z : World, z = wr := ⟨_, rfl⟩
             have HRR : Hid (Row w0 b o n (pre ++ (A1 ++ (B1 ++ (A2 ++ (B2 ++ post))))) w5) := Lib.hid (by have := HR1.out; rw [hb] at this ⊢; simpa using this)
             clear hb
             go_upto_region 41 with fail)
          | (have hpp := q1
             have t1' : ¬ (i : Int) < (m : Int) := by omega
             obtain ⟨w5, rfl⟩ : ∃ z : World, z = wr := ⟨_, rfl⟩
             have HRR : Hid (Row w0 b o n (pre ++ (A1 ++ (B1 ++ (A2 ++ (B2 ++ post))))) w5) := Lib.hid (by have := HR1.out; rw [hb] at this ⊢; simpa using this)
             clear hb
             go_upto_region 41 with fail))
        all_goals
          clear hpp t1' HROT HR1
          rcases HQ2.out with ⟨p3, p4⟩ | ⟨r3, r4, hb⟩ | ⟨q3, hb⟩
          all_goals (first
            | (have hpp := p3
               have t3' : (a : Int) < (i : Int) := by omega
               have t4' : (i : Int) < (mid : Int) := by omega
               go_upto_region 43 with (go_at_call 19; refine (HSYM1.out _ p3 p4 HRR.out).mono ?_; rintro e w6 ⟨rfl, hrw⟩; have HRS := Lib.hid hrw; clear hrw))
            | (have hpp := r3
               have t3' : (a : Int) < (i : Int) := by omega
               have t4' : ¬ (i : Int) < (mid : Int) := by omega
               have HRS : Hid (HalfRow w0 b o n pre A1 B1 (A2 ++ (B2 ++ post)) w5) := Lib.hid ⟨A1 ++ B1, List.Perm.refl _, srt_nil_r HPP.out.s1 hb, by simpa using HRR.out⟩
               clear hb
               go_upto_region 43 with fail)
            | (have hpp := q3
               have t3' : ¬ (a : Int) < (i : Int) := by omega
               have HRS : Hid (HalfRow w0 b o n pre A1 B1 (A2 ++ (B2 ++ post)) w5) := Lib.hid ⟨A1 ++ B1, List.Perm.refl _, srt_nil_l HPP.out.s3 hb, by simpa using HRR.out⟩
               clear hb
               go_upto_region 43 with fail))
          all_goals
            clear hpp t3' HSYM1 HRR
            rcases HQ3.out with ⟨t5, t6⟩ | ⟨t5, t6, hb⟩ | ⟨t5, hb⟩
            · have t5' : (mid : Int) < (E : Int) := by omega
              have t6' : (E : Int) < (z : Int) := by omega
              go_wp2_with (go_at_call 19; refine (HSYM2.out _ t5 t6 HRS.out).mono ?_; rintro e w7 ⟨rfl, hrw⟩)
              go_end0
              exact ⟨rfl, hrw⟩
            · have t5' : (mid : Int) < (E : Int) := by omega
              have t6' : ¬ (E : Int) < (z : Int) := by omega
              have HF := Lib.hid (HEND.out _ (.inl hb) HRS.out)
              clear hb
              go_wp2
              go_end0
              exact ⟨rfl, HF.out⟩
            · have t5' : ¬ (mid : Int) < (E : Int) := by omega
              have HF := Lib.hid (HEND.out _ (.inr hb) HRS.out)
              clear hb
              go_wp2
              go_end0
              exact ⟨rfl, HF.out⟩
theorem sym_any (w0 : World) (b o n c kb : Nat) (hn : n ≤ 100000) : ∀ K, SymC w0 b o n c kb K
  | 0 => fun _ _ _ _ _ _ _ hK h0 => by omega
  | K + 1 => fun a m z pre A B post w hK h0 h1 hr hk hA hB ha hm hz => by
    by_cases e1 : A.length = 1
    · obtain ⟨x, rfl⟩ := List.length_eq_one_iff.1 e1
      exact symA_any w0 b o n c kb a m z pre B post x w hr hk hB ha hm hz hn
    · by_cases e2 : B.length = 1
      · obtain ⟨x, rfl⟩ := List.length_eq_one_iff.1 e2
        exact symB_any w0 b o n c kb a m z pre A post x w hr hk hA ha hm hz hn (by omega)
      · exact symG_any w0 b o n c kb K a m z (sym_any w0 b o n c kb hn K) pre A B post w hr hk hA hB ha hm hz hn (by omega) (by omega) hK
end Go.Proofs.Ytoncakcfibahaaa
