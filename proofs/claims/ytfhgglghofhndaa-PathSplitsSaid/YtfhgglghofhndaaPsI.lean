/- path.names: its closure's contract as an iterator. -/
import Derived.Test.YtfhgglghofhndaaRfbL
import Derived.Test.YtfhgglghofhndaaPsP
import Derived.Test.YtfhgglghofhndaaShelf
import Derived.Test.YtfhgglghofhndaaBlk
import Derived.Test.YtfhgglghofhndaaFileW
import Derived.Lib.Hide
namespace Go.Proofs.Ytfhgglghofhndaa
open Go.RowKit Go.Shelf
attribute [local go_sem] Oper.semAt_some

def strLenB : Value → Nat
  | .string t => t.size
  | _ => 0
def boxLen (b : Nat) (w : World) : Nat := strLenB ((w.cell? ⟨b, 0, none⟩).getD undef)
theorem boxLen_eq {b : Nat} {w : World} {T : ByteArray} (h : w.heap[b]? = some (.cells #[.string T] 9 (0, 0))) : boxLen b w = T.size := by
  unfold boxLen; rw [row_cell h 0]; rfl

theorem ixb_lt : ∀ (l : List UInt8) (c : UInt8), -1 ≤ Lib.indexByte l c ∧ Lib.indexByte l c < l.length
  | [], c => by simp [Lib.indexByte]
  | d :: r, c => by
    have ih := ixb_lt r c
    unfold Lib.indexByte
    rw [List.length_cons]
    split
    · omega
    · split
      · omega
      · omega
set_option maxRecDepth 100000 in
set_option maxHeartbeats 2000000 in
theorem names_seq (n : Nat) (hn : 1 ≤ n) (b : Nat) (s : ByteArray) (hs : s.size ≤ 200) (w : World) (hbox : w.heap[b]? = some (.cells #[.string s] 9 (0, 0))) :
    SeqBox Fence.wide n Try.prog 96 b (pcs [] (bl s)) w := fun l J Jx W hW hJ hY h0 => by
  rw [hbox] at hW
  obtain ⟨xs, hxs⟩ : ∃ xs, xs = pcs [] (bl s) := ⟨_, rfl⟩
  rw [← hxs] at hY ⊢
  have HXS := Lib.hid hxs
  have HJ := Lib.hid hJ
  have HY := Lib.hid hY
  have HW := Lib.hid hW
  have HS := Lib.hid hs
  clear hxs hJ hY hW hbox hs
  have HIB : Hid (∀ (T : ByteArray) W, CallsIn Fence.wide (n - 1) Try.prog 97 #[.string T, .int .u8 47] W fun e w' => e = .returned (.int .i64 (Lib.indexByte (bl T) 47)) ∧ w' = W) := fun T W => callsIn_wide.2 (Try.strings_IndexByte T 47 W)
  refine callsIn_of_wp Try.func96 rfl trivial ?_ rfl
  simp only [Try.ntmps96, List.size_toArray, List.length_cons, List.length_nil, Nat.reduceAdd, Nat.reduceSub, Array.replicate_succ, Array.replicate_zero, List.push_toArray, List.append_toArray, List.nil_append, List.cons_append]
  gi_wp2
  gi_loopw [3] (fun _ wr => ∃ (pre : List ByteArray) (T : ByteArray), Hid (wr.heap[b]? = some (.cells #[.string T] 9 (0, 0)) ∧ xs = pre ++ pcs [] (bl T) ∧ J pre wr ∧ T.size ≤ 200)) (fun _ wr => boxLen b wr)
  case atStart => exact ⟨[], s, HW.out, by rw [List.nil_append]; exact HXS.out, h0, HS.out⟩
  case round =>
    obtain ⟨pre, T, HR⟩ := hrel
    obtain ⟨wq, rfl⟩ : ∃ z : World, z = wr := ⟨_, rfl⟩
    have c0 := row_cell HR.out.1 0
    have f0 := row_cold HR.out.1 0
    have hT2 : (T.size : Int) ≤ 200 := by have := HR.out.2.2.2; omega
    by_cases h0 : T.size = 0
    · obtain rfl : T = ⟨#[]⟩ := size_zero h0
      have hx : xs = pre := by have := HR.out.2.1; rw [this]; show pre ++ pcs [] [] = pre; rw [pcs_nil, List.append_nil]
      have HX := Lib.hid hx
      clear h0 hx
      gi_wp2
      go_end0
      exact ⟨⟨_, rfl⟩, .inl (by rw [HX.out]; exact HR.out.2.2.1)⟩
    · have e0 := emp_ne h0
      have e1 := emp_ne2 h0
      have e2 := emp_ne3 h0
      have hpf := pcs_find (bl T) []
      obtain ⟨q0, q1⟩ := ixb_lt (bl T) 47
      rw [bl_len] at q1
      have BL : Hid (boxLen b wq = T.size) := boxLen_eq HR.out.1
      by_cases hm : Lib.indexByte (bl T) 47 = -1
      · -- no slash
        rw [hm, if_neg (by decide), List.nil_append, if_neg (by intro h; exact h0 (by rw [← bl_len, h]; rfl)), mk_bl] at hpf
        have hxs : xs = pre ++ [T] := by rw [HR.out.2.1, hpf]
        obtain ⟨fn, tmps, assign, body, hy, hR⟩ := HY.out pre T wq HR.out.2.2.1 (by rw [hxs]; exact List.prefix_refl _)
        have HRR := Lib.hid hR
        have HX := Lib.hid hxs
        have hx1 : T.extract 0 T.size = T := by rw [ext_mk, List.drop_zero, Nat.sub_zero, List.take_of_length_le (by rw [bl_len]; exact Nat.le_refl _), mk_bl]
        have hx2 : T.extract T.size T.size = ⟨#[]⟩ := by rw [ext_mk, Nat.sub_self, List.take_zero]; rfl
        have hmn : min ((T.size : Int) + 1) (T.size : Int) = (T.size : Int) := by omega
        have hgt : (0 : Int) < (T.size : Int) := by omega
        have HIB2 := HIB.out T
        rw [hm] at HIB2
        have HIB3 := Lib.hid HIB2
        have HL : Hid (0 < T.size) := by simp only [Hid]; omega
        clear hpf q0 q1 hm hR hxs h0 HIB2
        gi_wp2_with (refine ⟨trivial, ?_⟩; gi_at_call 97; refine (HIB3.out _).mono ?_; rintro e w' ⟨rfl, hw'⟩; rw [hw']; clear hw')
        refine HRR.out.mono ?_
        rintro e W3 (⟨rfl, hJ3, hk3⟩ | ⟨rfl, hJx3⟩)
        · have hb3 : W3.heap[b]? = some (.cells #[.string T] 9 (0, 0)) := Eq.trans hk3 HR.out.1
          have c1 := row_cell hb3 0
          have f1 := row_cold hb3 0
          have HB3 := Lib.hid hb3
          have HJ3 := Lib.hid hJ3
          clear hb3 hJ3 hk3
          gi_wp2
          have HB4 : Hid ((W3.setCell ⟨b, 0, none⟩ (.string ⟨#[]⟩)).heap[b]? = some (.cells #[.string ⟨#[]⟩] 9 (0, 0))) := by
            have := row_store (j := 0) (v := .string ⟨#[]⟩) HB3.out
            simpa [Hid] using this
          go_roundw
          case rel => exact ⟨pre ++ [T], ⟨#[]⟩, HB4.out, by show xs = pre ++ [T] ++ pcs [] []; rw [pcs_nil, List.append_nil]; exact HX.out, HJ.out _ _ _ HJ3.out, by decide⟩
          case measure => (rw [BL.out]; exact Nat.lt_of_le_of_lt (Nat.le_of_eq (boxLen_eq HB4.out)) HL.out)
        · gi_wp2
          refine bodyPost_ret (results_none rfl _ _ _) rfl ?_
          exact ⟨⟨_, rfl⟩, .inr ⟨pre ++ [T], by rw [HX.out]; exact List.prefix_refl _, hJx3⟩⟩
      · obtain ⟨m, hk⟩ : ∃ m : Nat, Lib.indexByte (bl T) 47 = (m : Int) := ⟨(Lib.indexByte (bl T) 47).toNat, by omega⟩
        have hml : m < T.size := by omega
        rw [hk, if_pos (show (0 : Int) ≤ (m : Int) by omega), Int.toNat_natCast, List.nil_append] at hpf
        have HIB2 := HIB.out T
        rw [hk] at HIB2
        have HIB3 := Lib.hid HIB2
        obtain ⟨T2, hT2'⟩ : ∃ T2, T.extract (m + 1) T.size = T2 := ⟨_, rfl⟩
        have hT2e : bl T2 = (bl T).drop (m + 1) := by rw [← hT2', ext_mk, bl_mk, List.take_of_length_le (by rw [List.length_drop, bl_len]; exact Nat.le_refl _)]
        have hT2s : T2.size = T.size - (m + 1) := by rw [← hT2', ByteArray.size_extract]; omega
        have hmn : min ((m : Int) + 1) (T.size : Int) = (m : Int) + 1 := by omega
        have hmz : ((m : Int) + 1).toNat = m + 1 := by omega
        have hml2 : (m : Int) + 1 ≤ (T.size : Int) := by omega
        have hml3 : (m : Int) ≤ (T.size : Int) := by omega
        have HL : Hid (T2.size < T.size ∧ T2.size ≤ 200) := by have := HR.out.2.2.2; simp only [Hid]; omega
        rw [← hT2e] at hpf
        by_cases hm0 : m = 0
        · subst hm0
          rw [List.take_zero, if_pos rfl] at hpf
          have HX : Hid (xs = pre ++ pcs [] (bl T2)) := by show _ = _; rw [HR.out.2.1, hpf]
          have HIB4 : Hid (∀ W : World, CallsIn Fence.wide (n - 1) Try.prog 97 #[.string T, .int .u8 47] W fun e w' => e = .returned (.int .i64 0) ∧ w' = W) := HIB3.out
          have hmn' : min (0 + 1 : Int) (T.size : Int) = 1 := by omega
          have hmn2 : min (1 : Int) (T.size : Int) = 1 := by omega
          have hx3 : T.extract 1 T.size = T2 := hT2'
          have hml4 : (1 : Int) ≤ (T.size : Int) := by omega
          clear hpf q0 q1 hm h0 HIB2 hT2e hT2s hml hk HIB3 hmn hmz hml2 hml3 hT2'
          gi_wp2_with (refine ⟨trivial, ?_⟩; gi_at_call 97; refine (HIB4.out _).mono ?_; rintro e w' ⟨rfl, hw'⟩; rw [hw']; clear hw')
          refine ⟨fun _ h => (by cases h), ?_⟩
          gi_wp2
          have HB4 : Hid ((wq.setCell ⟨b, 0, none⟩ (.string T2)).heap[b]? = some (.cells #[.string T2] 9 (0, 0))) := by
            have := row_store (j := 0) (v := .string T2) HR.out.1
            simpa [Hid] using this
          go_roundw
          case rel => exact ⟨pre, T2, HB4.out, HX.out, HJ.out _ _ _ HR.out.2.2.1, HL.out.2⟩
          case measure => rw [BL.out, boxLen_eq HB4.out]; exact HL.out.1
        · have hx1 : T.extract 0 m = mkS ((bl T).take m) := by rw [ext_mk, List.drop_zero, Nat.sub_zero]
          obtain ⟨x, hx⟩ : ∃ x, x = mkS ((bl T).take m) := ⟨_, rfl⟩
          rw [← hx] at hx1 hpf
          have hne : ¬ (bl T).take m = [] := by
            intro h; have := congrArg List.length h; rw [List.length_take, bl_len, List.length_nil] at this; omega
          rw [if_neg hne] at hpf
          have hxs : xs = pre ++ x :: pcs [] (bl T2) := by rw [HR.out.2.1, hpf]
          obtain ⟨fn, tmps, assign, body, hy, hR⟩ := HY.out pre x wq HR.out.2.2.1 (by rw [hxs]; exact ⟨pcs [] (bl T2), by simp⟩)
          have HRR := Lib.hid hR
          have HX := Lib.hid hxs
          have hm1 : (0 : Int) < (m : Int) := by omega
          clear hpf q0 q1 hm h0 HIB2 hT2e hT2s hml hk hR hxs hne hx hm0
          gi_wp2_with (refine ⟨trivial, ?_⟩; gi_at_call 97; refine (HIB3.out _).mono ?_; rintro e w' ⟨rfl, hw'⟩; rw [hw']; clear hw')
          refine HRR.out.mono ?_
          rintro e W3 (⟨rfl, hJ3, hk3⟩ | ⟨rfl, hJx3⟩)
          · have hb3 : W3.heap[b]? = some (.cells #[.string T] 9 (0, 0)) := Eq.trans hk3 HR.out.1
            have c1 := row_cell hb3 0
            have f1 := row_cold hb3 0
            have HB3 := Lib.hid hb3
            have HJ3 := Lib.hid hJ3
            clear hb3 hJ3 hk3
            gi_wp2
            have HB4 : Hid ((W3.setCell ⟨b, 0, none⟩ (.string T2)).heap[b]? = some (.cells #[.string T2] 9 (0, 0))) := by
              have := row_store (j := 0) (v := .string T2) HB3.out
              simpa [Hid] using this
            go_roundw
            case rel => exact ⟨pre ++ [x], T2, HB4.out, by rw [HX.out, List.append_assoc]; rfl, HJ.out _ _ _ HJ3.out, HL.out.2⟩
            case measure => rw [BL.out, boxLen_eq HB4.out]; exact HL.out.1
          · gi_wp2
            refine bodyPost_ret (results_none rfl _ _ _) rfl ?_
            exact ⟨⟨_, rfl⟩, .inr ⟨pre ++ [x], by rw [HX.out]; exact ⟨pcs [] (bl T2), by simp⟩, hJx3⟩⟩
end Go.Proofs.Ytfhgglghofhndaa
