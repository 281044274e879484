/- linenref.Signs, walked. -/
import Derived.Test.YtgidfmdbaimcnaaDoorGrF
import Derived.Test.YtgidfmdbaimcnaaDoorMem
import Derived.Test.YtgidfmdbaimcnaaDoorApp
import Derived.Test.YtgidfmdbaimcnaaDoorBtP
import Derived.Test.YtgidfmdbaimcnaaDoorTypes
namespace Go.Proofs.YtgidfmdbaimcnaaDoor
open Go.RowKit Go.PlainAid

theorem ext_ext (s : ByteArray) (i n : Nat) (_h : i ≤ s.size) : (s.extract i s.size).extract n (s.extract i s.size).size = s.extract (i + n) s.size := by
  apply ByteArray.ext
  rw [ByteArray.size_extract]
  simp only [ByteArray.data_extract, Array.extract_extract]
  congr 1
  omega
theorem info_i64G : (Tryd.prog.info? 3).map (fun i => (i.zero, i.size, i.bytes)) = some (some (.int .i64 0), 1, 8) := by kernel_rfl
abbrev i64L (l : List Int) : List Value := l.map (Value.int .i64)
structure SgI (s : ByteArray) (w : World) (i : Nat) (pre : List Int) (D : Option Addr) (d : Nat) (E : Option Addr) (m e : Nat) (ys : List Int) (wr : World) : Prop where
  own : Owns wr w.heap.size 1 (.slice D pre.length d) pre.length (i64L pre)
  own2 : Owns wr w.heap.size 1 (.slice E m e) m (i64L ys)
  ne : Value.ownBlock (.slice E m e) = none ∨ Value.ownBlock (.slice E m e) ≠ Value.ownBlock (.slice D pre.length d)
  eq : sgs s = pre ++ sgs (s.extract i s.size)
  le : i ≤ s.size
  len : pre.length ≤ i
  len2 : m ≤ i
  below : Below w.heap.size w wr
def SgPost (s : ByteArray) (w : World) (e : Ending) (w' : World) : Prop :=
  ∃ D d v, e = .returned (.tuple #[.slice D (sgs s).length d, v]) ∧ RowsIn w' w'.heap.size D (sgs s).length d (fun z => [.int .i64 z]) 1 (sgs s) ∧ (∀ a, D = some a → w.heap.size ≤ a.block) ∧ Below w.heap.size w w'
theorem own_i64 {w : World} {base n c : Nat} {A : Option Addr} {xs : List Int} (h : Owns w base 1 (.slice A n c) n (i64L xs)) : RowsIn w w.heap.size A n c (fun z => [.int .i64 z]) 1 xs := by
  have h' : Owns w base 1 (.slice A n c) n (xs.flatMap (fun z => [Value.int .i64 z])) := by rw [← List.map_eq_flatMap]; exact h
  exact h'.rows (enc := fun z => [.int .i64 z]) (k := 1) (fun _ => rfl) (by decide)
section
variable {s : ByteArray} {w wq w3 w4 : World} {i n : Nat} {pre : List Int} {D D' : Option Addr} {d d' : Nat} {E E' : Option Addr} {m e e' : Nat} {ys : List Int} {x : Int}
theorem sg_step (hI : SgI s w i pre D d E m e ys wq) (h3 : Owns w3 w.heap.size 1 (.slice D' (pre.length + 1) d') (pre.length + 1) (i64L pre ++ [.int .i64 x])) (hl3 : Left wq w3 w.heap.size (Value.slice D pre.length d).ownBlock)
    (hn3 : Value.ownBlock (.slice D' (pre.length + 1) d') = (Value.slice D pre.length d).ownBlock ∨ ∀ k, Value.ownBlock (.slice D' (pre.length + 1) d') = some k → wq.heap.size ≤ k)
    (h4 : Owns w4 w.heap.size 1 (.slice E' (m + 1) e') (m + 1) (i64L ys ++ [.int .i64 (i : Int)])) (hl4 : Left w3 w4 w.heap.size (Value.slice E m e).ownBlock)
    (hn4 : Value.ownBlock (.slice E' (m + 1) e') = (Value.slice E m e).ownBlock ∨ ∀ k, Value.ownBlock (.slice E' (m + 1) e') = some k → w3.heap.size ≤ k)
    (hG : sgs s = (pre ++ [x]) ++ sgs (s.extract (i + n) s.size)) (hle : i + n ≤ s.size) (h1 : 1 ≤ n) : SgI s w (i + n) (pre ++ [x]) D' d' E' (m + 1) e' (ys ++ [(i : Int)]) w4 := by
  have b1 : ∀ g, (Value.slice E m e).ownBlock = some g → (Value.slice D' (pre.length + 1) d').ownBlock ≠ some g := fun g hg e2 => by
    rcases hn3 with h | h
    · rcases hI.ne with h5 | h5
      · rw [h5] at hg; cases hg
      · rw [h] at e2; exact h5 (hg.trans e2.symm)
    · have := h g e2; have := (hI.own2.lt g hg).2; omega
  have hl : (pre ++ [x]).length = pre.length + 1 := by simp
  refine ⟨?_, ?_, ?_, hG, hle, ?_, ?_, hl4.below (Nat.le_refl _) (hl3.below (Nat.le_refl _) hI.below)⟩
  · rw [hl, i64L, List.map_append]
    refine Owns.left (by simpa using h3) hl4 ?_
    cases h : (Value.slice D' (pre.length + 1) d').ownBlock with
    | none => exact .inl rfl
    | some g =>
      right; intro e2
      exact b1 g e2.symm h
  · rw [i64L, List.map_append]; exact h4
  · rw [hl]
    cases h : (Value.slice E' (m + 1) e').ownBlock with
    | none => exact .inl rfl
    | some g =>
      right; intro e2
      rcases hn4 with h5 | h5
      · rw [h5] at h; exact b1 g h e2.symm
      · have := h5 g h; have := (h3.lt g e2.symm).2; omega
  · rw [hl]; have := hI.len; omega
  · have := hI.len2; omega
end
set_option maxRecDepth 100000 in
set_option maxHeartbeats 2000000 in
theorem rsigns_any (s : ByteArray) (hs : s.size ≤ 4096) (w : World) : Calls Tryd.prog 9 #[.string s] w (SgPost s w) := by
  have HS := Lib.hid hs
  have I0 : Hid (SgI s w 0 [] none 0 none 0 0 [] w) := ⟨Owns.nil _ _ _, Owns.nil _ _ _, .inl rfl, by rw [List.nil_append]; congr 1; exact (by apply ByteArray.ext; simp : s.extract 0 s.size = s).symm, Nat.zero_le _, Nat.zero_le _, Nat.zero_le _, Below.refl _ _⟩
  clear hs
  go_enter Tryd.func9, Tryd.ntmps9
  go_wp2
  go_loopw [4, 5, 6] (fun v4 v5 v6 wr => ∃ (i : Nat) (pre : List Int) (D : Option Addr) (d : Nat) (E : Option Addr) (m e : Nat) (ys : List Int), v4 = .slice D pre.length d ∧ v5 = .slice E m e ∧ v6 = .int .i64 i ∧ Hid (SgI s w i pre D d E m e ys wr)) (fun _ _ v6 _ => s.size - (intOf v6).toNat)
  case atStart => exact ⟨0, [], none, 0, none, 0, 0, [], rfl, rfl, rfl, I0⟩
  case round =>
    obtain ⟨i, pre, D, d, E, m, e, ys, rfl, rfl, rfl, HI⟩ := hrel
    obtain ⟨wq, rfl⟩ : ∃ z : World, z = wr := ⟨_, rfl⟩
    have hip := HI.out.len
    have him := HI.out.len2
    have hsz := HI.out.below.size
    by_cases hlt : i < s.size
    · have hlt' : (i : Int) < (s.size : Int) := by omega
      have hi40 : (i : Int) ≤ 4096 := by have := HS.out; omega
      obtain ⟨T, hT⟩ : ∃ T, s.extract i s.size = T := ⟨_, rfl⟩
      have hTs : T.size = s.size - i := by rw [← hT, ByteArray.size_extract]; omega
      have hT0 : T.size ≠ 0 := by omega
      have hb0 : bt T 0 = bt s i := by rw [← hT]; exact bt_extract s i s.size 0 (by omega) (Nat.le_refl _)
      have HFC : Hid (∀ W, Calls Tryd.prog 15 #[.string T] W fun e w' => e = .returned (.tuple #[.int .i64 (fst T).1, .int .i64 (fst T).2]) ∧ w' = W) := fun W => first_any T hT0 W
      have hst := stp_fst T hT0
      have hs2 := stp_two T hT0
      have hsg := sgs_step hT0
      have hle : (i : Int) ≤ (s.size : Int) := by omega
      have hle2 : i ≤ s.size := by omega
      have hmn : ∀ n, T.extract n T.size = s.extract (i + n) s.size := fun n => by rw [← hT]; exact ext_ext s i n (by omega)
      rw [hmn] at hsg
      rw [hTs] at hs2
      obtain ⟨x, n, hxn⟩ : ∃ x n, stp T = (x, n) := ⟨_, _, rfl⟩
      rw [hxn] at hst hs2 hsg
      rw [hb0] at hst
      simp only at hs2 hsg
      have HG : Hid (sgs s = (pre ++ [x]) ++ sgs (s.extract (i + n) s.size)) := by show _ = _; rw [HI.out.eq, hT, hsg, List.append_assoc]; rfl
      have H2 := Lib.hid hs2
      obtain ⟨fv, fn, hfv⟩ : ∃ fv fn, fst T = (fv, fn) := ⟨_, _, rfl⟩
      rw [hfv] at hst HFC
      have HST := Lib.hid hst
      have hgi : ∀ h : i < s.size, ((s[i]'h).toNat : Int) = bt s i := get_bt s i
      have y0 := bt_nonneg s i
      have y1 := bt_le s i
      generalize bt s i = y at *
      clear hst hs2 hsg hxn hfv hmn hT0 hTs hb0
      simp only at HFC
      go_upto_if 21 with (go_at_call 15; refine (HFC.out _).mono ?_; rintro e w' ⟨rfl, rfl⟩)
      go_cut [7, 8] (fun s7 s8 wx => s7 = .int .i64 x ∧ s8 = .int .i64 n ∧ wx = w')
      case first =>
        by_cases hz : fn = 0
        · subst hz
          have e1 := HST.out
          rw [if_pos rfl] at e1
          obtain ⟨rfl, rfl⟩ := Prod.mk.inj e1
          clear e1 HST
          go_wp2
          go_meet
          case rel => exact ⟨rfl, rfl, rfl⟩
        · have e1 := HST.out
          rw [if_neg hz] at e1
          obtain ⟨rfl, rfl⟩ := Prod.mk.inj e1
          have hzb : ((n : Int) == 0) = false := beq_eq_false_iff_ne.2 (by omega)
          clear e1 HST hz
          go_wp2
          go_meet
          case rel => exact ⟨rfl, rfl, rfl⟩
      case rest =>
        obtain ⟨rfl, rfl, hwc⟩ := hcut
        rw [hwc]
        clear hwc HST hgi hT HFC
        have hn0 : (i : Int) + (n : Int) ≤ 4096 := by have := H2.out; have := HS.out; omega
        have hn2 : i + n ≤ s.size := by have := H2.out; omega
        have hn3 : 1 ≤ n := H2.out.1
        go_wp2_with (first
          | (at_builtin; refine wpList_add1 rfl rfl Tryd.underlying35 info_i64G rfl (by decide) HO2.out rfl HZ3.out rfl rfl rfl ?_ ?_ ?_ ?_; simp [Value.oneCell']; (have := HS.out; unfold maxLen; omega); (have := HS.out; omega); intro A4 c4 w4 hown4 hl4 hbk4; have HO4 := Lib.hid hown4; have HL4 := Lib.hid hl4; have HK4 := Lib.hid hbk4; clear hown4 hl4 hbk4)
          | (at_builtin; refine wpList_add1 rfl rfl Tryd.underlying35 info_i64G rfl (by decide) HI.out.own rfl HI.out.below.size rfl rfl rfl ?_ ?_ ?_ ?_; simp [Value.oneCell']; (have := HS.out; unfold maxLen; omega); (have := HS.out; omega); intro A3 c3 w3 hown3 hl3 hbk3; have HO2 := Lib.hid (HI.out.own2.left hl3 HI.out.ne); have HZ3 := Lib.hid (Nat.le_trans HI.out.below.size hl3.size); have HO3 := Lib.hid hown3; have HL3 := Lib.hid hl3; have HK3 := Lib.hid hbk3; clear hown3 hl3 hbk3))
        have HF : Hid (SgI s w (i + n) (pre ++ [x]) A3 c3 A4 (m + 1) c4 (ys ++ [(i : Int)]) w4) := sg_step HI.out HO3.out HL3.out HK3.out HO4.out HL4.out HK4.out HG.out hn2 hn3
        go_roundw
        case rel => exact ⟨i + n, pre ++ [x], A3, c3, A4, m + 1, c4, ys ++ [(i : Int)], by rw [List.length_append]; rfl, rfl, by go_num, HF.out⟩
        case measure => (simp [intOf]; omega)
    · have hlt' : ¬ (i : Int) < (s.size : Int) := by omega
      have hi : i = s.size := by have := HI.out.le; omega
      have hq : sgs s = pre := by
        have := HI.out.eq
        rw [sgs_nil (s := s.extract i s.size) (by rw [ByteArray.size_extract]; omega), List.append_nil] at this
        exact this
      have HQ := Lib.hid hq
      clear hq hi
      go_wp2_with (at_builtin; refine wpList_add1 rfl rfl Tryd.underlying35 info_i64G rfl (by decide) HI.out.own2 rfl HI.out.below.size rfl rfl rfl ?_ ?_ ?_ ?_; simp [Value.oneCell']; (have := HS.out; have := HI.out.le; unfold maxLen; omega); (have := HS.out; have := HI.out.le; omega); intro A4 c4 w4 hown4 hl4 hbk4; have HL4 := Lib.hid hl4; clear hown4 hl4 hbk4)
      go_ret2
      have hO := HI.out.own.left HL4.out (by
        cases h : (Value.slice D pre.length d).ownBlock with
        | none => exact .inl rfl
        | some g =>
          right; intro e2
          rcases HI.out.ne with h1 | h1
          · rw [h1] at e2; cases e2
          · exact h1 (e2.symm.trans h.symm))
      unfold SgPost
      rw [HQ.out]
      exact ⟨D, d, _, rfl, own_i64 hO, fun a ha => (hO.lt a.block (by rw [ha]; rfl)).1, HL4.out.below (Nat.le_refl _) HI.out.below⟩
end Go.Proofs.YtgidfmdbaimcnaaDoor
