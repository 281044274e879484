/- file.whole, linenref.Bytes, Zeros and Slice, walked. -/
import Derived.Test.YtfhgglghofhndaaFileW
import Derived.Test.YtfhgglghofhndaaBldW
import Derived.Test.YtfhgglghofhndaaHeld
namespace Go.Proofs.Ytfhgglghofhndaa
open Go.RowKit Go.PlainAid

theorem cat_mk {P : Program} (l : List UInt8) (s : ByteArray) (h : l.length + s.size ≤ 9223372036854775807) : ∀ W : World, (Op.stringOp .add (mkS l) s).run P W = .ok (.string (mkS (l ++ bl s))) W := fun W => by
  rw [run_string_add_sum _ _ _ (by rw [mk_size]; exact h), mk_cat]
theorem zer_succ (n : Nat) : zer (n + 1) = zer n ++ [0] := by simp [zer, List.replicate_succ']
theorem rep_zer : ∀ n : Nat, Lib.repeatL [0] n = zer n
  | 0 => rfl
  | n + 1 => by simp [Lib.repeatL, rep_zer n, zer, List.replicate_succ]
theorem whB_append {sz : Nat} : ∀ (i : Nat) (a b : List ByteArray), whB sz i (a ++ b) = whB sz i a ++ whB sz (i + a.length) b
  | i, [], b => by simp [whB]
  | i, p :: a, b => by
    simp only [List.cons_append, whB, whB_append (i + 1) a b, List.length_cons, List.append_assoc]
    rw [show i + 1 + a.length = i + (a.length + 1) by omega]
theorem take_snoc {α : Type} {l : List α} {i : Nat} {x : α} (h : l[i]? = some x) : l.take (i + 1) = l.take i ++ [x] := by
  obtain ⟨hi, rfl⟩ := List.getElem?_eq_some_iff.1 h
  rw [List.take_succ_eq_append_getElem hi]
theorem whB_step {k i : Nat} {ps : List ByteArray} {p : ByteArray} (h : ps[i]? = some p) : whB k 0 (ps.take (i + 1)) = whB k 0 (ps.take i) ++ ptB k i p := by
  have hi := (List.getElem?_eq_some_iff.1 h).1
  rw [take_snoc h, whB_snoc, List.length_take, Nat.zero_add, Nat.min_eq_left (by omega)]
theorem whB_pre {k i : Nat} {ps : List ByteArray} : (whB k 0 (ps.take i)).length ≤ (whB k 0 ps).length := by
  have := whB_append (sz := k) 0 (ps.take i) (ps.drop i)
  rw [List.take_append_drop] at this
  rw [this, List.length_append]
  omega

set_option maxRecDepth 20000 in
theorem zeros_any (n : Nat) (h : n ≤ 8192) (w : World) : Calls Try.prog 87 #[.int .i64 n] w fun e w' => e = .returned (.string (mkS (zer n))) ∧ w' = w := by
  have hn : (n : Int) ≤ 8192 := by omega
  go_enter Try.func87, Try.ntmps87
  go_wp2
  go_loop [3, 5] (fun v3 v5 => ∃ i : Nat, i ≤ n ∧ v5 = .int .i64 i ∧ v3 = .string (mkS (zer i))) (fun _ v5 => n - (intOf v5).toNat)
  case atStart => exact ⟨0, Nat.zero_le _, rfl, rfl⟩
  case round =>
    obtain ⟨i, hi, rfl, rfl⟩ := hrel
    by_cases hlt : i < n
    · have i1 : (i : Int) < (n : Int) := by omega
      have hcat := cat_mk (P := Try.prog) (zer i) ⟨#[0]⟩ (by rw [zer_len]; show i + 1 ≤ _; omega)
      rw [show zer i ++ bl ⟨#[0]⟩ = zer (i + 1) from (zer_succ i).symm] at hcat
      go_wp2
      go_round
      case rel => exact ⟨i + 1, by omega, by go_num, rfl⟩
      case measure => (simp [intOf]; try omega)
    · obtain rfl : i = n := by omega
      have i1 : ¬ (i : Int) < (i : Int) := by omega
      go_wp2
      go_ret
      exact ⟨rfl, rfl⟩
set_option maxRecDepth 20000 in
theorem slice_any (s : ByteArray) (a n : Nat) (w : World) : Calls Try.prog 49 #[.string s, .int .i64 a, .int .i64 n] w fun e w' => e = .returned (.string (mkS (((bl s).drop a).take n))) ∧ w' = w := by
  have hb := bl_len s
  by_cases h1 : s.size ≤ a
  · have F : Hid (mkS (((bl s).drop a).take n) = mkS []) := by simp only [Hid]; rw [List.drop_of_length_le (by omega)]; simp
    have i1 : (s.size : Int) ≤ (a : Int) := by omega
    clear h1 hb
    go_enter Try.func49, Try.ntmps49
    go_wp2
    go_ret
    exact ⟨by rw [F.out] <;> rfl, rfl⟩
  · have i1 : (a : Int) < (s.size : Int) := by omega
    have i0 : ¬ (s.size : Int) ≤ (a : Int) := by omega
    have e1 := ext_mk s a s.size
    rw [List.take_of_length_le (by rw [List.length_drop]; omega)] at e1
    have e2 : (mkS ((bl s).drop a)).size = s.size - a := by rw [mk_size, List.length_drop, hb]
    by_cases h2 : n < s.size - a
    · have e3 : (mkS ((bl s).drop a)).extract 0 n = mkS (((bl s).drop a).take n) := by rw [mk_extract]; simp
      have E1 := Lib.hid e1
      have E2 := Lib.hid e2
      have E3 := Lib.hid e3
      clear e1 e2 e3
      go_enter Try.func49, Try.ntmps49
      go_wp2
      go_ret
      exact ⟨by rw [← E3.out, ← E1.out] <;> rfl, rfl⟩
    · have F : Hid (mkS (((bl s).drop a).take n) = s.extract a s.size) := by
        rw [e1]; simp only [Hid]; rw [List.take_of_length_le (by rw [List.length_drop]; omega)]
      have i3 : ¬ (n : Int) < ((s.size - a : Nat) : Int) := by omega
      clear e1 e2
      go_enter Try.func49, Try.ntmps49
      go_wp2
      go_ret
      exact ⟨by rw [F.out] <;> rfl, rfl⟩

theorem isB_below {B b : Nat} {bs : List Value} {w w' : World} (h : IsB B b bs w) (hb : Below w.heap.size w w') : IsB B b bs w' := by
  have key : ∀ p, Lib.BuilderAt 76 5 B b p bs w → Lib.BuilderAt 76 5 B b p bs w' := fun p h => by
    have hlt := h.lt
    obtain ⟨hB, v, h1, h2, h3⟩ := h
    refine ⟨hB, v, (hb.block b hlt).trans h1, ?_, h3⟩
    rcases h2 with ⟨hl, h2⟩
    refine ⟨hl, ?_⟩
    rcases h2 with h2 | ⟨g, cap, cur, e1, e2, e3, e4⟩
    · exact .inl h2
    · have hg : g < w.heap.size := by
        rcases Nat.lt_or_ge g w.heap.size with h | h
        · exact h
        · rw [Array.getElem?_eq_none h] at e3; cases e3
      exact .inr ⟨g, cap, cur, e1, e2, (hb.block g hg).trans e3, e4⟩
  rcases h with h | h
  · exact .inl (key _ h)
  · exact .inr (key _ h)
theorem bld_new (w : World) : IsB w.heap.size w.heap.size (Lib.byteCells []) (w.alloc (.cells #[.pointer none, .slice none 0 0] 76)) :=
  .inl ⟨Nat.le_refl _, .slice none 0 0, heap_alloc_new w _, World.ownsRow_nil _ _ _ _, by simp [Value.ownBlock]⟩

set_option maxRecDepth 20000 in
set_option maxHeartbeats 1000000 in
theorem whole_any (k : Nat) (A : Option Addr) (n c : Nat) (ps : List ByteArray) (w : World) (r : RowsIn w w.heap.size A n c (fun z => [.string z]) 1 ps) (hk : k ≤ 4096) (hok : PartsOk k ps) :
    Calls Try.prog 48 #[.agg #[.int .i64 k, .slice A n c]] w fun e w' => e = .returned (.string (mkS (whB k 0 ps))) ∧ Below w.heap.size w w' := by
  have hn := r.len
  subst hn
  obtain ⟨wa, hwa⟩ : ∃ wa, wa = w.alloc (.cells #[.int .i64 k, .slice A ps.length c] 24) := ⟨_, rfl⟩
  have hba : Below w.heap.size w wa := by rw [hwa]; exact (Below.refl _ _).alloc (Nat.le_refl _) _
  have hrb : wa.heap[w.heap.size]? = some (.cells #[.int .i64 k, .slice A ps.length c] 24 (0, 0)) := by rw [hwa]; exact heap_alloc_new w _
  have hza : wa.heap.size = w.heap.size + 1 := by rw [hwa]; simp
  have R := Lib.hid (r.below hba)
  have HWA := Lib.hid hwa
  have HBA := Lib.hid hba
  have HRB := Lib.hid hrb
  have HZA := Lib.hid hza
  have HOK := Lib.hid hok
  have hpl : ps.length ≤ 8 := by rw [hok.1]; unfold npt; omega
  have HTL : Hid ((whB k 0 ps).length = k) := whole_len hok
  have HK := Lib.hid hk
  have I0 : Hid (IsB (w.heap.size + 1) (w.heap.size + 1) (Lib.byteCells []) (wa.alloc (.cells #[.pointer none, .slice none 0 0] 76))) := by have := bld_new wa; rw [hza] at this; exact this
  have B0 : Hid (Below wa.heap.size wa (wa.alloc (.cells #[.pointer none, .slice none 0 0] 76))) := (Below.refl _ _).alloc (Nat.le_refl _) _
  clear r hba hrb hwa hok hza hk
  go_enter Try.func48, Try.ntmps48
  go_wp2
  rw [← HWA.out]
  go_loopw [9] (fun v9 wr => ∃ i : Nat, i ≤ ps.length ∧ v9 = .int .i64 i ∧ Hid (IsB (w.heap.size + 1) (w.heap.size + 1) (Lib.byteCells (whB k 0 (ps.take i))) wr) ∧ Hid (Below wa.heap.size wa wr)) (fun v9 _ => ps.length - (intOf v9).toNat)
  case atStart => exact ⟨0, Nat.zero_le _, rfl, I0.out, B0.out⟩
  case round =>
    obtain ⟨i, hi, rfl, HI, HB⟩ := hrel
    obtain ⟨wq, rfl⟩ : ∃ z : World, z = wr := ⟨_, rfl⟩
    clear I0 B0
    have hle : w.heap.size + 1 ≤ wq.heap.size := by rw [← HZA.out]; exact HB.out.size
    by_cases hlt : i < ps.length
    · obtain ⟨p, e1⟩ : ∃ p, ps[i]? = some p := ⟨_, List.getElem?_eq_getElem hlt⟩
      have HS := Lib.hid (whB_step (k := k) e1)
      have HP := Lib.hid (whB_pre (k := k) (i := i + 1) (ps := ps))
      have hpo := HOK.out.2 i p e1
      obtain ⟨b, o, rfl, hbB, hc⟩ := (R.out.more HBA.out.size |>.below HB.out).one e1
      obtain ⟨c0', c1'⟩ := dat_cells (row_below HRB.out (row_lt HRB.out) HB.out)
      have hil : (i : Int) < (ps.length : Int) := by omega
      have HW : Hid (∀ (t : ByteArray), bl t = ptB k i p → ∀ W, Below wq.heap.size wq W → Calls Try.prog 61 #[.pointer (some ⟨w.heap.size + 1, 0, none⟩), .string t] W fun e w' => e = .returned (.tuple #[.int .i64 t.size, .nilIface]) ∧ (Hid (IsB (w.heap.size + 1) (w.heap.size + 1) (Lib.byteCells (whB k 0 (ps.take (i + 1)))) w') ∧ Hid (Below wa.heap.size wa w'))) := fun t ht W hW => by
        have hlen : (Lib.byteCells (whB k 0 (ps.take i))).length + t.size ≤ 140737488355328 := by
          rw [Lib.byteCells_length, ← bl_len t, ht]
          have h1 := HP.out
          rw [HS.out, List.length_append, HTL.out] at h1
          have := HK.out
          omega
        refine (bwrite (w.heap.size + 1) (w.heap.size + 1) _ t W (isB_below HI.out hW) hlen (Nat.le_trans hle hW.size)).mono ?_
        rintro e w' ⟨rfl, h1, h2⟩
        refine ⟨rfl, ?_, ?_⟩
        · rw [HS.out, Lib.byteCells_append, ← ht]
          exact .inr h1
        · have h3 := HB.out.trans (hW.mono HB.out.size)
          exact h3.trans (h2.mono (Nat.le_of_eq HZA.out))
      have HLO := Lib.hid (long_any k i (by have := HK.out; omega) (by rw [← HOK.out.1]; exact hlt))
      have HNW : Hid (wid k i ≤ 512) := wid_le k i
      clear e1
      by_cases hp : p.size = 0
      · obtain rfl : p = ⟨#[]⟩ := by
          have := size_zero hp; exact this
        have HT : Hid (bl (mkS (zer (wid k i))) = ptB k i ⟨#[]⟩) := rfl
        have HRP : Hid (∀ W, Calls Try.prog 86 #[.string ⟨#[0]⟩, .int .i64 ((wid k i : Nat) : Int)] W fun e w' => e = .returned (.string (mkS (zer (wid k i)))) ∧ Below W.heap.size W w') := fun W => by
          have := Try.strings_Repeat ⟨#[0]⟩ (wid k i) W (by have := HNW.out; omega) (by have := HNW.out; show 1 * _ ≤ _; omega)
          have e : Lib.repeatL (⟨#[0]⟩ : ByteArray).data.toList (wid k i) = zer (wid k i) := rep_zer _
          rw [e] at this
          exact this
        clear hp hpo
        generalize hWW : wid k i = WW at *
        clear hWW
        go_wp2_with (first
          | (go_at_call 52; refine (HLO.out _).mono ?_; rintro e w' ⟨rfl, hw'⟩; rw [hw']; clear hw')
          | (go_at_call 86; refine (HRP.out _).mono ?_; rintro e w2 ⟨rfl, hb2⟩; have HB2 := Lib.hid hb2; clear hb2)
          | (go_at_call 61; refine (HW.out _ HT.out _ HB2.out).mono ?_; rintro e w3 ⟨rfl, hi3, hb3⟩))
        go_roundw
        case rel => exact ⟨i + 1, by omega, by go_num, hi3.out, hb3.out⟩
        case measure => (simp [intOf]; try omega)
      · have hne := emp_ne hp
        have hne2 := emp_ne2 hp
        have hne3 := emp_ne3 hp
        have HT : Hid (bl p = ptB k i p) := by simp only [Hid]; unfold ptB; rw [if_neg hp]
        clear hp hpo
        go_wp2_with (go_at_call 61; refine (HW.out _ HT.out _ (Below.refl _ _)).mono ?_; rintro e w3 ⟨rfl, hi3, hb3⟩)
        go_roundw
        case rel => exact ⟨i + 1, by omega, by go_num, hi3.out, hb3.out⟩
        case measure => (simp [intOf]; try omega)
    · obtain rfl : i = ps.length := by omega
      have hil : ¬ (ps.length : Int) < (ps.length : Int) := by omega
      have HST := Lib.hid (Try.Builder_String_any (w.heap.size + 1) (w.heap.size + 1) _ wq HI.out hle)
      rw [List.take_length] at HST
      go_wp2_with (go_at_call 62; refine HST.out.mono ?_; rintro e w3 ⟨rfl, hb3⟩)
      go_ret
      exact ⟨rfl, (HBA.out.trans (HB.out.mono HBA.out.size)).trans (hb3.mono (Nat.le_succ _))⟩
end Go.Proofs.Ytfhgglghofhndaa
