/- linenref.Text of a list of bits, walked. -/
import Derived.Test.YtnnmiolgffcgkaaPkT
import Derived.Deep.RegionLaw
namespace Go.Proofs.Ytnnmiolgffcgkaa
open Go.RowKit Go.PlainAid

theorem rowT_zero (L : List Int) (N : Nat) : rowT L N 0 = Array.replicate N (.int .u8 0) := by
  have h : ∀ j, byteL (L.take 0) j = 0 := fun j => by simp [byteL, horn]
  unfold rowT
  apply Array.ext'
  simp only [h]
  rw [List.map_const', List.length_range, Array.toList_replicate]
theorem mk_u8T (L : List Int) (N : Nat) (hN : N ≤ 8192) : ∀ W : World, (Instr.makeSlice 78 (.int .i64 (N : Int)) (.int .i64 (N : Int))).run Try.prog W = .ok (.slice (some ⟨W.heap.size, 0, none⟩) N N) (W.alloc (.cells (rowT L N 0) 5)) := fun W => by
  obtain ⟨i, hi, hzz⟩ := Option.map_eq_some_iff.1 info_u8P
  simp only [Prod.mk.injEq] at hzz
  obtain ⟨hz, hs, hbb⟩ := hzz
  have := run_make (P := Try.prog) W 78 5 i (.int .u8 0) Try.underlying78 hi hz .i64 .i64 N N (by omega) (by omega) (by rw [hbb]; omega) (by omega)
  rw [hs] at this
  rw [this, Int.toNat_natCast]
  have e : madeCells (Value.int .u8 0).cells (N * 1) = rowT L N 0 := by
    rw [rowT_zero]
    apply Array.ext'
    rw [Nat.mul_one, Array.toList_replicate]
    exact toList_madeCells_one _ _
  rw [e]
/-- The bytes at the end. -/
theorem rowT_text (L : List Int) {n N : Nat} (h : L.length ≤ n) : (rowT L N n).toList = (bytL L N).map (Value.int .u8) := by
  unfold rowT bytL
  rw [List.take_of_length_le h]
  simp
theorem tx_bits {q : Nat} {L : List Int} (hL : Bits01 L) {i : Nat} (h : L[i]? = some 1) (hq : q = i / 8) : 0 ≤ byteL (L.take i) q ∧ byteL (L.take i) q + 2 ^ (i % 8) ≤ 255 := by
  have h1 := byteL_bd (hL.take i) q
  have h2 := byteL_bd (hL.take (i + 1)) q
  rw [byteL_take h, if_pos hq] at h2
  omega

theorem own_row1 {w : World} {b N : Nat} {cs : Array Value} {t : TypeId} {xs : List Value} (h : w.heap[b]? = some (.cells cs t (0, 0))) (hl : cs.size = N) (hx : cs.toList = xs) (hN : N ≤ maxLen) : Owns w b 1 (.slice (some ⟨b, 0, none⟩) N N) N xs := by
  subst hx
  refine ⟨by simp [hl], .inr ⟨b, 0, N, rfl, Nat.le_refl _, row_lt h, Nat.le_refl _, hN, fun j u hu => ?_, fun j hj => ⟨?_, ?_⟩⟩⟩
  · rw [Nat.zero_add, row_cell h]; simpa using hu
  · rw [Nat.zero_add, row_cell h]
    have : j < cs.size := by omega
    simp [this]
  · rw [Nat.zero_add]; exact row_cold h j

set_option maxRecDepth 20000 in
set_option maxHeartbeats 1000000 in
theorem text_any (A : Option Addr) (n c : Nat) (L : List Int) (w : World) (r : RowsIn w w.heap.size A n c (fun z => [.int .i64 z]) 1 L) (hL : Bits01 L) (hn : n ≤ 65536) :
    Calls Try.prog 60 #[.slice A n c] w fun e w' => e = .returned (.string (txt L)) ∧ Below w.heap.size w w' := by
  have hlen := r.len
  obtain rfl := hlen
  have R := Lib.hid r
  have HL := Lib.hid hL
  clear r hL
  obtain ⟨N, hN⟩ : ∃ N, N = (L.length + 7) / 8 := ⟨_, rfl⟩
  have HMK := mk_u8T L N (by omega)
  have HN := Lib.hid hN
  have hND : ((L.length : Int) + 7) / 8 = (N : Int) := by omega
  have HR0 : Hid ((w.alloc (.cells (rowT L N 0) 5)).heap[w.heap.size]? = some (.cells (rowT L N 0) 5 (0, 0))) := heap_alloc_new w _
  have HB0 : Hid (Below w.heap.size w (w.alloc (.cells (rowT L N 0) 5))) := (Below.refl _ _).alloc (Nat.le_refl _) _
  clear hN
  go_enter Try.func60, Try.ntmps60
  go_wp2
  clear HMK hND
  go_loopw [4, 5, 13] (fun _ _ v13 wr => ∃ i : Nat, i ≤ L.length ∧ v13 = .int .i64 i ∧ Hid (wr.heap[w.heap.size]? = some (.cells (rowT L N i) 5 (0, 0))) ∧ Hid (Below w.heap.size w wr)) (fun _ _ v13 _ => L.length - (intOf v13).toNat)
  case atStart => exact ⟨0, Nat.zero_le _, rfl, HR0.out, HB0.out⟩
  case round =>
    obtain ⟨i, hi, rfl, HR, HB⟩ := hrel
    clear HR0 HB0
    by_cases hlt : i < L.length
    · have e1 := List.getElem?_eq_getElem hlt
      have hb01 := HL.out _ (List.getElem_mem hlt)
      obtain ⟨b, o, rfl, hbB, hc⟩ := (R.out.below HB.out).one e1
      have i1 : (i : Int) < (L.length : Int) := by omega
      rcases (show L[i] = 0 ∨ L[i] = 1 by omega) with h0 | h0
      · rw [h0] at e1 hc
        have HR1 : Hid (wr.heap[w.heap.size]? = some (.cells (rowT L N (i + 1)) 5 (0, 0))) := by simp only [Hid]; rw [rowT_same e1]; exact HR.out
        clear e1 h0 hb01
        go_wp2
        go_roundw
        case rel => exact ⟨i + 1, by omega, by go_num, HR1.out, HB.out⟩
        case measure => (simp [intOf]; try omega)
      · rw [h0] at e1 hc
        obtain ⟨q, hq⟩ : ∃ q, q = i / 8 := ⟨_, rfl⟩
        obtain ⟨m, hm⟩ : ∃ m, m = i % 8 := ⟨_, rfl⟩
        obtain ⟨t0, t1⟩ := tx_bits HL.out e1 hq
        have hqN : q < N := by have := HN.out; omega
        have HS := rowT_set (N := N) e1
        have g0 := row_cell HR.out q
        rw [rowT_get hqN] at g0
        have g1 := row_cold HR.out q
        rw [← hq, ← hm] at HS
        rw [← hm] at t1
        have HS2 := Lib.hid ((row_store (j := q) (v := .int .u8 (byteL (L.take i) q + 2 ^ m)) HR.out).trans (by rw [HS]))
        have HB2 := Lib.hid (HB.out.setCell (p := ⟨w.heap.size, q, none⟩) (Nat.le_refl _) (.int .u8 (byteL (L.take i) q + 2 ^ m)))
        have q1 : (i : Int).tdiv 8 = (q : Int) := by rw [Int.tdiv_eq_ediv_of_nonneg (by omega)]; omega
        have q2 : (i : Int).tmod 8 = (m : Int) := by rw [Int.tmod_eq_emod_of_nonneg (by omega)]; omega
        have q3 : (i : Int) / 8 = (q : Int) := by omega
        have q4 : (i : Int) % 8 = (m : Int) := by omega
        have q5 : (q : Int) < (N : Int) := by omega
        have q6 : (0 : Int) ≤ (q : Int) := by omega
        have q7 : (0 : Int) ≤ (m : Int) := by omega
        have q8 : (m : Int) < 8 := by omega
        have q9 : IntKind.i64.wrap (q : Int) = (q : Int) := by rw [IntKind.wrap_i64]; omega
        have p0 : (0 : Int) ≤ 2 ^ m := by have : (0 : Int) < 2 ^ m := Int.pow_pos (by decide); omega
        have p1 : IntKind.u8.wrap (2 ^ m) = 2 ^ m := by rw [IntKind.wrap_u8]; omega
        have p2 : IntKind.u8.wrap (byteL (L.take i) q + 2 ^ m) = byteL (L.take i) q + 2 ^ m := by rw [IntKind.wrap_u8]; omega
        have HQ := Lib.hid hq
        generalize byteL (L.take i) q = v at *
        clear e1 h0 hb01 HS hq hm
        go_wp2
        go_region_law (fail)
        all_goals
          go_wp2_with fail
          go_roundw
          case rel => exact ⟨i + 1, by omega, by go_num, HS2.out, HB2.out.drew⟩
          case measure => (simp [intOf]; try omega)
    · obtain rfl : i = L.length := by omega
      have i1 : ¬ (L.length : Int) < (L.length : Int) := by omega
      have HO : Hid (Owns wr w.heap.size 1 (.slice (some ⟨w.heap.size, 0, none⟩) N N) N ((bytL L N).map (Value.int .u8))) := own_row1 HR.out (by simp [rowT]) (rowT_text L (Nat.le_refl _)) (by have := HN.out; unfold maxLen; omega)
      have HF : Hid (strOfNums (bytL L N) = txt L) := by show _ = _; rw [HN.out]; rfl
      go_wp2_with (refine wpList_text rfl rfl Try.underlying78 Try.underlying5 Try.underlying9 HO.out rfl ?_)
      go_ret
      exact ⟨by rw [HF.out]; rfl, HB.out⟩
end Go.Proofs.Ytnnmiolgffcgkaa
