/- glob.signs: its closure's contract as an iterator. -/
import Derived.Test.YtgidfmdbaimcnaaDoorGbL
import Derived.Test.YtgidfmdbaimcnaaDoorGbQ
import Derived.Test.YtgidfmdbaimcnaaDoorShelf
import Derived.Test.YtgidfmdbaimcnaaDoorBlk
import Derived.Test.YtgidfmdbaimcnaaDoorBtP
import Derived.Lib.Hide
import Derived.Deep.QuietTactic
namespace Go.Proofs.YtgidfmdbaimcnaaDoor
open Go.RowKit Go.Shelf Go.PlainAid
attribute [local go_sem] Oper.semAt_some

def strLenR : Value → Nat
  | .string t => t.size
  | _ => 0
def boxLenR (b : Nat) (w : World) : Nat := strLenR ((w.cell? ⟨b, 0, none⟩).getD undef)
theorem boxLenR_eq {b : Nat} {w : World} {T : ByteArray} (h : w.heap[b]? = some (.cells #[.string T] 9 (0, 0))) : boxLenR b w = T.size := by
  unfold boxLenR; rw [row_cell h 0]; rfl
theorem emp_neG {t : ByteArray} (h : t.size ≠ 0) : (t.toList == (⟨#[]⟩ : ByteArray).toList) = false := str_ne fun e => h (by rw [e]; rfl)
theorem is_emp {s : ByteArray} (h : s.size = 0) : s = ⟨#[]⟩ := by
  cases s with
  | mk a =>
    have : a.size = 0 := h
    rw [Array.size_eq_zero_iff.1 this]
theorem emp_ne2G {t : ByteArray} (h : t.size ≠ 0) : ¬ t.toList = [] := fun e => h (by
  rw [Lib.toList_data] at e
  have := congrArg List.length e
  simpa using this)
theorem emp_ne3G {t : ByteArray} (h : t.size ≠ 0) : t.toList.isEmpty = false := by
  have h1 := emp_ne2G h
  cases hl : t.toList with
  | nil => exact absurd hl h1
  | cons a b => rfl
set_option maxRecDepth 100000 in
set_option maxHeartbeats 2000000 in
theorem signs_seq (n : Nat) (hn : 1 ≤ n) (b : Nat) (hb1 : 1 < b) (s : ByteArray) (w : World) (hbox : w.heap[b]? = some (.cells #[.string s] 9 (0, 0))) (hT : TabsR w) :
    SeqRune Fence.wide n Tryd.prog 17 b (sgs s) w := fun l J Jx W hW hJ hJw hY h0 => by
  have hT0 : TabsR W := tabs_same (hW 0 (by omega)) (hW 1 (by omega)) hT
  have hWb := (hW b (.inl rfl)).trans hbox
  obtain ⟨xs, hxs⟩ : ∃ xs, xs = sgs s := ⟨_, rfl⟩
  rw [← hxs] at hY ⊢
  have HXS := Lib.hid hxs
  have HJ := Lib.hid hJ
  have HJW := Lib.hid hJw
  have HY := Lib.hid hY
  have HW := Lib.hid hWb
  have HT := Lib.hid hT0
  clear hxs hJ hJw hY hW hbox hT hT0 hWb
  refine callsIn_of_wp Tryd.func17 rfl trivial ?_ rfl
  simp only [Tryd.ntmps17, List.size_toArray, List.length_cons, List.length_nil, Nat.reduceAdd, Nat.reduceSub, Array.replicate_succ, Array.replicate_zero, List.push_toArray, List.append_toArray, List.nil_append, List.cons_append]
  gi_wp2
  gi_loopw [3, 4] (fun _ _ wr => ∃ (pre : List Int) (T : ByteArray), Hid (wr.heap[b]? = some (.cells #[.string T] 9 (0, 0)) ∧ xs = pre ++ sgs T ∧ J pre wr ∧ TabsR wr)) (fun _ _ wr => boxLenR b wr)
  case atStart => exact ⟨[], s, HW.out, by rw [List.nil_append]; exact HXS.out, h0, HT.out⟩
  case round =>
    obtain ⟨pre, T, HR⟩ := hrel
    obtain ⟨wq, rfl⟩ : ∃ z : World, z = wr := ⟨_, rfl⟩
    have c0 := row_cell HR.out.1 0
    have f0 := row_cold HR.out.1 0
    by_cases h0 : T.size = 0
    · obtain rfl : T = ⟨#[]⟩ := is_emp h0
      have hx : xs = pre := by have := HR.out.2.1; rw [this, sgs_nil rfl, List.append_nil]
      have HX := Lib.hid hx
      clear h0 hx
      gi_wp2
      go_end0
      exact ⟨⟨_, rfl⟩, .inl (by rw [HX.out]; exact HR.out.2.2.1)⟩
    · have e1 := emp_neG h0
      have e2 := emp_ne2G h0
      have e3 := emp_ne3G h0
      have BL : Hid (boxLenR b wq = T.size) := boxLenR_eq HR.out.1
      have hst := stp_two T h0
      have hstp : stp T = stp T := rfl
      conv at hstp => rhs; unfold stp
      have HD : Hid (∀ W, TabsR W → CallsIn Fence.wide (n - 1) Tryd.prog 18 #[.string T] W fun e w' => e = .returned (.tuple #[.int .i32 (Lib.decodeGo T).1, .int .i64 (Lib.decodeGo T).2]) ∧ Below W.heap.size W w') := fun W hW => callsIn_wide.2 (Tryd.utf8_DecodeRuneInString T W hW)
      generalize (Lib.decodeGo T).1 = R at *
      generalize (Lib.decodeGo T).2 = K at *
      have hz0 : (0 : Int) < (T.size : Int) := by omega
      have hz1 : 0 < T.size := by omega
      have b0 := bt_nonneg T 0
      have b1 := bt_le T 0
      have hL2 := HR.out
      have hbl : b < wq.heap.size := row_lt HR.out.1
      -- the sign and what is left of it
      obtain ⟨x, m, hx⟩ : ∃ x m, stp T = (x, m) := ⟨_, _, rfl⟩
      rw [hx] at hst
      obtain ⟨T2, hT2⟩ : ∃ T2, T.extract m T.size = T2 := ⟨_, rfl⟩
      have hT2s : T2.size = T.size - m := by rw [← hT2, ByteArray.size_extract]; omega
      have hsg := sgs_step h0
      rw [hx] at hsg
      simp only [hT2] at hsg
      have hxs : xs = pre ++ x :: sgs T2 := by rw [HR.out.2.1, hsg]
      have HX : Hid (xs = pre ++ x :: sgs T2) := hxs
      have HL : Hid (T2.size < T.size) := by simp only [Hid]; omega
      have hmn : min (m : Int) (T.size : Int) = (m : Int) := by omega
      have hml : (m : Int) ≤ (T.size : Int) := by omega
      have hsr : (x = 1114112 + bt T 0 ∧ R = 65533 ∧ K = 1 ∧ m = 1) ∨ (x = (R : Int) ∧ K = m ∧ ¬ R = 65533) ∨ (x = (R : Int) ∧ K = m ∧ R = 65533 ∧ ¬ m = 1) := by
        rw [hx] at hstp
        split at hstp
        · rename_i hc
          injection hstp with a1 a2
          exact .inl ⟨a1, hc.1, hc.2, a2⟩
        · rename_i hc
          injection hstp with a1 a2
          by_cases hr : R = 65533
          · exact .inr (.inr ⟨a1, a2.symm, hr, fun e => hc ⟨hr, by omega⟩⟩)
          · exact .inr (.inl ⟨a1, a2.symm, hr⟩)
      have HXB : Hid (0 ≤ x ∧ x ≤ 1114367) := hst.2.2
      clear hst hstp hsg hxs hL2 hT2s
      have hmz : ((m : Int)).toNat = m := by omega
      rcases hsr with ⟨rfl, rfl, rfl, rfl⟩ | ⟨rfl, rfl, hr⟩ | ⟨rfl, rfl, rfl, hm⟩
      · have hz2 : (1 : Int) ≤ (T.size : Int) := by omega
        have hmn2 : min (1 : Int) (T.size : Int) = 1 := by omega
        have HD1 : Hid (CallsIn Fence.wide (n - 1) Tryd.prog 18 #[.string T] wq fun e w' => e = .returned (.tuple #[.int .i32 65533, .int .i64 1]) ∧ Below wq.heap.size wq w') := HD.out wq HR.out.2.2.2
        clear hmn hml hmz hx
        have hg : ∀ h : 0 < T.size, ((T[0]'h).toNat : Int) = bt T 0 := get_bt T 0
        have hw0 : wrap32 (bt T 0) = bt T 0 := by unfold wrap32; omega
        have hw1 : wrap32 (1114112 + bt T 0) = 1114112 + bt T 0 := by unfold wrap32; omega
        gi_wp2_with (refine ⟨trivial, ?_⟩; gi_at_call 18; refine HD1.out.mono ?_; rintro e w3 ⟨rfl, hb3⟩; have hJ3 := HJW.out _ _ _ HR.out.2.2.1 hb3; have hr3 := row_below HR.out.1 hbl hb3; have c1 := row_cell hr3 0; have f1 := row_cold hr3 0; obtain ⟨fn, tmps, assign, body, hy, hR⟩ := HY.out pre (1114112 + bt T 0) w3 hJ3 (by rw [HX.out]; exact ⟨sgs T2, by simp⟩); have HRR := Lib.hid hR; have HR3 := Lib.hid hr3; have HT3 := Lib.hid (tabs_below hb3 (tabs_size HR.out.2.2.2) HR.out.2.2.2); clear hr3 hJ3 hb3 hR)
        refine HRR.out.mono ?_
        rintro e W3 (⟨rfl, hJ3, hk3⟩ | ⟨rfl, hJx3⟩)
        · have hb4 : W3.heap[b]? = some (.cells #[.string T] 9 (0, 0)) := (hk3 b (.inl rfl)).trans HR3.out
          have ht4 : TabsR W3 := tabs_same (hk3 0 (by omega)) (hk3 1 (by omega)) HT3.out
          have c2 := row_cell hb4 0
          have f2 := row_cold hb4 0
          have HB3 := Lib.hid hb4
          have HJ3 := Lib.hid hJ3
          have HT4 := Lib.hid ht4
          clear hb4 hJ3 hk3 ht4
          gi_wp2
          have HB4 : Hid ((W3.setCell ⟨b, 0, none⟩ (.string T2)).heap[b]? = some (.cells #[.string T2] 9 (0, 0))) := by
            have := row_store (j := 0) (v := .string T2) HB3.out
            simpa [Hid] using this
          have HT5 : Hid (TabsR (W3.setCell ⟨b, 0, none⟩ (.string T2))) := tabs_same (Below.heap_setCell _ _ _ _ (by show _ ≠ b; omega)) (Below.heap_setCell _ _ _ _ (by show _ ≠ b; omega)) HT4.out
          go_roundw
          case rel => exact ⟨pre ++ [1114112 + bt T 0], T2, HB4.out, by rw [HX.out, List.append_assoc]; rfl, HJ.out _ _ _ HJ3.out, HT5.out⟩
          case measure => (rw [BL.out, boxLenR_eq HB4.out]; exact HL.out)
        · gi_wp2
          refine bodyPost_ret (results_none rfl _ _ _) rfl ?_
          exact ⟨⟨_, rfl⟩, .inr ⟨pre ++ [1114112 + bt T 0], by rw [HX.out]; exact ⟨sgs T2, by simp⟩, hJx3⟩⟩
      · have hrf : ((R : Int) == 65533) = false := beq_eq_false_iff_ne.2 (by omega)
        have hrf2 : ¬ (R : Int) = 65533 := by omega
        have HD1 := Lib.hid (HD.out wq HR.out.2.2.2)
        clear hx hr
        gi_wp2_with (refine ⟨trivial, ?_⟩; gi_at_call 18; refine HD1.out.mono ?_; rintro e w3 ⟨rfl, hb3⟩; have hJ3 := HJW.out _ _ _ HR.out.2.2.1 hb3; have hr3 := row_below HR.out.1 hbl hb3; have c1 := row_cell hr3 0; have f1 := row_cold hr3 0; obtain ⟨fn, tmps, assign, body, hy, hR⟩ := HY.out pre ((R : Int)) w3 hJ3 (by rw [HX.out]; exact ⟨sgs T2, by simp⟩); have HRR := Lib.hid hR; have HR3 := Lib.hid hr3; have HT3 := Lib.hid (tabs_below hb3 (tabs_size HR.out.2.2.2) HR.out.2.2.2); clear hr3 hJ3 hb3 hR)
        refine HRR.out.mono ?_
        rintro e W3 (⟨rfl, hJ3, hk3⟩ | ⟨rfl, hJx3⟩)
        · have hb4 : W3.heap[b]? = some (.cells #[.string T] 9 (0, 0)) := (hk3 b (.inl rfl)).trans HR3.out
          have ht4 : TabsR W3 := tabs_same (hk3 0 (by omega)) (hk3 1 (by omega)) HT3.out
          have c2 := row_cell hb4 0
          have f2 := row_cold hb4 0
          have HB3 := Lib.hid hb4
          have HJ3 := Lib.hid hJ3
          have HT4 := Lib.hid ht4
          clear hb4 hJ3 hk3 ht4
          gi_wp2
          have HB4 : Hid ((W3.setCell ⟨b, 0, none⟩ (.string T2)).heap[b]? = some (.cells #[.string T2] 9 (0, 0))) := by
            have := row_store (j := 0) (v := .string T2) HB3.out
            simpa [Hid] using this
          have HT5 : Hid (TabsR (W3.setCell ⟨b, 0, none⟩ (.string T2))) := tabs_same (Below.heap_setCell _ _ _ _ (by show _ ≠ b; omega)) (Below.heap_setCell _ _ _ _ (by show _ ≠ b; omega)) HT4.out
          go_roundw
          case rel => exact ⟨pre ++ [(R : Int)], T2, HB4.out, by rw [HX.out, List.append_assoc]; rfl, HJ.out _ _ _ HJ3.out, HT5.out⟩
          case measure => (rw [BL.out, boxLenR_eq HB4.out]; exact HL.out)
        · gi_wp2
          refine bodyPost_ret (results_none rfl _ _ _) rfl ?_
          exact ⟨⟨_, rfl⟩, .inr ⟨pre ++ [(R : Int)], by rw [HX.out]; exact ⟨sgs T2, by simp⟩, hJx3⟩⟩
      · have hmf : ((K : Int) == 1) = false := beq_eq_false_iff_ne.2 (by omega)
        have hmf2 : ¬ (K : Int) = 1 := by omega
        have HD1 : Hid (CallsIn Fence.wide (n - 1) Tryd.prog 18 #[.string T] wq fun e w' => e = .returned (.tuple #[.int .i32 65533, .int .i64 K]) ∧ Below wq.heap.size wq w') := HD.out wq HR.out.2.2.2
        have HX : Hid (xs = pre ++ (65533 : Int) :: sgs T2) := HX
        clear hx hm
        gi_wp2_with (refine ⟨trivial, ?_⟩; gi_at_call 18; refine HD1.out.mono ?_; rintro e w3 ⟨rfl, hb3⟩; have hJ3 := HJW.out _ _ _ HR.out.2.2.1 hb3; have hr3 := row_below HR.out.1 hbl hb3; have c1 := row_cell hr3 0; have f1 := row_cold hr3 0; obtain ⟨fn, tmps, assign, body, hy, hR⟩ := HY.out pre (65533) w3 hJ3 (by rw [HX.out]; exact ⟨sgs T2, by simp⟩); have HRR := Lib.hid hR; have HR3 := Lib.hid hr3; have HT3 := Lib.hid (tabs_below hb3 (tabs_size HR.out.2.2.2) HR.out.2.2.2); clear hr3 hJ3 hb3 hR)
        refine HRR.out.mono ?_
        rintro e W3 (⟨rfl, hJ3, hk3⟩ | ⟨rfl, hJx3⟩)
        · have hb4 : W3.heap[b]? = some (.cells #[.string T] 9 (0, 0)) := (hk3 b (.inl rfl)).trans HR3.out
          have ht4 : TabsR W3 := tabs_same (hk3 0 (by omega)) (hk3 1 (by omega)) HT3.out
          have c2 := row_cell hb4 0
          have f2 := row_cold hb4 0
          have HB3 := Lib.hid hb4
          have HJ3 := Lib.hid hJ3
          have HT4 := Lib.hid ht4
          clear hb4 hJ3 hk3 ht4
          gi_wp2
          have HB4 : Hid ((W3.setCell ⟨b, 0, none⟩ (.string T2)).heap[b]? = some (.cells #[.string T2] 9 (0, 0))) := by
            have := row_store (j := 0) (v := .string T2) HB3.out
            simpa [Hid] using this
          have HT5 : Hid (TabsR (W3.setCell ⟨b, 0, none⟩ (.string T2))) := tabs_same (Below.heap_setCell _ _ _ _ (by show _ ≠ b; omega)) (Below.heap_setCell _ _ _ _ (by show _ ≠ b; omega)) HT4.out
          go_roundw
          case rel => exact ⟨pre ++ [65533], T2, HB4.out, by rw [HX.out, List.append_assoc]; rfl, HJ.out _ _ _ HJ3.out, HT5.out⟩
          case measure => (rw [BL.out, boxLenR_eq HB4.out]; exact HL.out)
        · gi_wp2
          refine bodyPost_ret (results_none rfl _ _ _) rfl ?_
          exact ⟨⟨_, rfl⟩, .inr ⟨pre ++ [65533], by rw [HX.out]; exact ⟨sgs T2, by simp⟩, hJx3⟩⟩

theorem signs_any (s : ByteArray) (w : World) : Calls Tryd.prog 14 #[.string s] w fun e w' => e = .returned (.func (.func 17) #[] #[.pointer (some ⟨w.heap.size, 0, none⟩)]) ∧ w' = w.alloc (.cells #[.string s] 9) := by
  go_enter Tryd.func14, Tryd.ntmps14
  go_wp2
  go_ret
  exact ⟨rfl, rfl⟩
end Go.Proofs.YtgidfmdbaimcnaaDoor
