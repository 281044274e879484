/- dir.Read and linenref.ReadDir, walked. -/
import Derived.Test.YtfhgglghofhndaaDtxW
import Derived.Test.YtfhgglghofhndaaDrdP
import Derived.Test.YtfhgglghofhndaaApp
namespace Go.Proofs.Ytfhgglghofhndaa
open Go.RowKit Go.PlainAid

theorem info_entR : (Try.prog.info? 41).map (fun i => (i.zero, i.size, i.bytes)) = some (some (.agg #[.string ByteArray.empty, .int .i64 0]), 2, 24) := by kernel_rfl
def strLen : Value → Nat
  | .string t => t.size
  | _ => 0
structure RdI (s : ByteArray) (w : World) (p : Nat) (L : List EntD) (v : Value) (wr : World) : Prop where
  lst : RdL s p L
  own : Owns wr w.heap.size 2 v L.length (L.flatMap EntD.cells)
  below : Below w.heap.size w wr
def RdPost (s : ByteArray) (w : World) (e : Ending) (w' : World) : Prop :=
  ∃ D q d, e = .returned (.tuple #[.slice D q d, .int .i64 (rdE s)]) ∧ RowsIn w' w'.heap.size D q d EntD.cells 2 (rdR s) ∧ Below w.heap.size w w'
theorem no_ents (w : World) (B : Nat) : RowsIn w B none 0 0 EntD.cells 2 ([] : List EntD) := ⟨rfl, Nat.le_refl _, Nat.zero_le _, fun i x h => by simp at h⟩
theorem rdPost_bad {s : ByteArray} {w w' : World} (h : rdE s = 4 ∧ rdR s = []) (hb : Below w.heap.size w w') : RdPost s w (.returned (.tuple #[.slice none 0 0, .int .i64 4])) w' := ⟨none, 0, 0, by rw [h.1], by rw [h.2]; exact no_ents _ _, hb⟩
theorem flat_snoc (L : List EntD) (x : EntD) : (L ++ [x]).flatMap EntD.cells = L.flatMap EntD.cells ++ [.string x.Name, .int .i64 x.Ino] := by
  rw [List.flatMap_append]; simp [EntD.cells]
theorem ext_ext (s : ByteArray) (p a b : Nat) (hp : p ≤ s.size) (hb : b ≤ s.size - p) : (s.extract p s.size).extract a b = s.extract (p + a) (p + b) := by
  rw [ext_mk s p, mk_extract, ext_mk s (p + a)]
  congr 1
  rw [List.drop_take, List.drop_drop, List.take_take]
  congr 1
  omega

set_option maxRecDepth 20000 in
set_option maxHeartbeats 1000000 in
theorem dread_any (s : ByteArray) (hs : s.size ≤ 1048575) (w : World) : Calls Try.prog 22 #[.string s] w (RdPost s w) := by
  have HS := Lib.hid hs
  clear hs
  go_enter Try.func22, Try.ntmps22
  go_wp2
  go_loopw [0, 4] (fun v0 v4 wr => ∃ (p : Nat) (T : ByteArray) (L : List EntD), v0 = .string T ∧ Hid (T = s.extract p s.size) ∧ Hid (RdI s w p L v4 wr)) (fun v0 _ _ => strLen v0)
  case atStart => exact ⟨0, s, [], rfl, by show s = _; rw [ext_mk, List.drop_zero, Nat.sub_zero, List.take_of_length_le (by rw [bl_len]; exact Nat.le_refl _), mk_bl], rdL_zero s, Owns.nil _ _ _, Below.refl _ _⟩
  case round =>
    obtain ⟨p, T, L, rfl, HT, HR⟩ := hrel
    obtain ⟨wq, rfl⟩ : ∃ z : World, z = wr := ⟨_, rfl⟩
    obtain ⟨A, c, rfl⟩ := HR.out.own.form
    have hle := HR.out.lst.le
    have hTs : T.size = s.size - p := by rw [HT.out, ByteArray.size_extract]; omega
    by_cases hlt : p < s.size
    · have hTn : T.size ≠ 0 := by omega
      have e0 := emp_ne hTn
      have e0b := emp_ne2 hTn
      have e0c := emp_ne3 hTn
      obtain ⟨n, hn⟩ : ∃ n : Nat, bt s p = (n : Int) := ⟨(bt s p).toNat, by have := bt_nonneg s p; omega⟩
      have hn255 : (n : Int) ≤ 255 := by rw [← hn]; exact bt_le s p
      have hb0 : bt T 0 = (n : Int) := by rw [HT.out, bt_extract s p s.size 0 (by omega) (Nat.le_refl _)]; exact hn
      have hg := get_bt T
      have hT0 : 0 < T.size := by omega
      have htop : (T.size : Int) ≤ 1048575 := by have := HS.out; omega
      by_cases h2 : T.size < n + 2
      · have h2i : (T.size : Int) < (n : Int) + 2 := by omega
        have F := Lib.hid (HR.out.lst.none hlt hn (by omega))
        clear hn hle hTs hlt hTn h2
        go_wp2
        go_ret2
        exact rdPost_bad F.out HR.out.below
      · have h2i : ¬ (T.size : Int) < (n : Int) + 2 := by omega
        obtain ⟨v, hv⟩ : ∃ v, v = bt s (p + 1 + n) := ⟨_, rfl⟩
        have hbv : bt T (1 + n) = v := by rw [HT.out, bt_extract s p s.size (1 + n) (by omega) (Nat.le_refl _), hv]; congr 1; omega
        obtain ⟨NM, hNM⟩ : ∃ NM, NM = s.extract (p + 1) (p + 1 + n) := ⟨_, rfl⟩
        have hx1 : T.extract 1 (1 + n) = NM := by rw [HT.out, ext_ext s p 1 (1 + n) hle (by omega), hNM]; congr 1; omega
        obtain ⟨T2, hT2⟩ : ∃ T2, T2 = s.extract (p + n + 2) s.size := ⟨_, rfl⟩
        have hx2 : T.extract (n + 2) T.size = T2 := by rw [hTs, HT.out, ext_ext s p (n + 2) (s.size - p) hle (Nat.le_refl _), hT2]; congr 1 <;> omega
        have HST := HR.out.lst.step hn (by omega)
        rw [← hNM, ← hv] at HST
        have HN := Lib.hid HST
        have HT2 := Lib.hid hT2
        have HLE : Hid (T2.size < T.size) := by show _ < _; rw [hT2, ByteArray.size_extract]; omega
        have hcnt := HR.out.lst.cnt
        have G2 : Hid (∀ u ∈ (#[.string NM, .int .i64 v] : Array Value).toList, u.oneCell' = true) := by simp [Hid, Value.oneCell']
        have G3 : Hid (L.length + 1 ≤ maxLen ∧ (L.length + 1) * 24 ≤ 140737488355328) := by have := HS.out; unfold maxLen Hid; omega
        have G4 : Hid (0 < 2) := by simp [Hid]
        obtain ⟨U, hU⟩ : ∃ U, U = L.flatMap EntD.cells := ⟨_, rfl⟩
        have hown := HR.out.own
        rw [← hU] at hown
        have hsz := HR.out.below.size
        have GO : Hid (Owns (wq.alloc (.cells #[.string NM, .int .i64 v] 41)).drew w.heap.size 2 (.slice A L.length c) L.length U) := (hown.alloc _).drew
        have GB : Hid (w.heap.size ≤ (wq.alloc (.cells #[.string NM, .int .i64 v] 41)).drew.heap.size) := by simp [Hid]; omega
        have GH : Hid ((wq.alloc (.cells #[.string NM, .int .i64 v] 41)).drew.heap[wq.heap.size]? = some (.cells #[.string NM, .int .i64 v] 41)) := heap_alloc_new wq _
        have GZ : Hid (Below w.heap.size w (wq.alloc (.cells #[.string NM, .int .i64 v] 41)).drew) := (HR.out.below.alloc hsz _).drew
        have HU := Lib.hid hU
        have a1 : IntKind.i64.wrap (1 + (n : Int)) = 1 + (n : Int) := by rw [IntKind.wrap_i64]; omega
        have a2 : (1 + (n : Int)).toNat = 1 + n := by omega
        have a3 : (0 : Int) ≤ 1 + (n : Int) := by omega
        have a4 : 1 + (n : Int) < (T.size : Int) := by omega
        have a5 : 1 + n < T.size := by omega
        have a6 : (1 : Int) ≤ 1 + (n : Int) := by omega
        have a7 : 1 + (n : Int) ≤ (T.size : Int) := by omega
        have a8 : ((n : Int) + 2).toNat = n + 2 := by omega
        have a9 : IntKind.i64.wrap v = v := by rw [IntKind.wrap_i64, hv]; have := bt_nonneg s (p + 1 + n); have := bt_le s (p + 1 + n); omega
        clear hn hle hTs hlt hTn h2 hv hNM hT2 hU hown HST
        generalize hNN : L.length = N at *
        have HNN := Lib.hid hNN
        clear hNN
        go_upto_region 6 with fail
        go_region_law
          (refine step_app1 (P := Try.prog) (e := 41) (z := .agg #[.string ByteArray.empty, .int .i64 0]) (size := 2) (bytes := 24) (base := w.heap.size) rfl (.tmp 16) (.tmp 27) 36 rfl Try.underlying36 info_entR rfl G4.out A N c U (by simp [go_sem]) GO.out GB.out wq.heap.size 1 #[.string NM, .int .i64 v] 41 (by simp [go_sem]) GH.out rfl G2.out G3.out.1 G3.out.2 ?_; intro A' c' w2 hown2 hl2 hn2)
        all_goals
          have HF : Hid (RdI s w (p + n + 2) (L ++ [⟨NM, v⟩]) (.slice A' (N + 1) c') w2) := by
            refine { lst := HN.out, own := ?_, below := hl2.below (Nat.le_refl _) GZ.out }
            rw [flat_snoc, ← HU.out, List.length_append, HNN.out]
            exact hown2
          clear hown2 hl2 hn2
          go_wp2
          go_roundw
          case rel => exact ⟨p + n + 2, T2, L ++ [(⟨NM, v⟩ : EntD)], rfl, HT2, HF⟩
          case measure => exact HLE.out
    · obtain rfl : p = s.size := by omega
      obtain ⟨hl1, hl2⟩ := HR.out.lst.last
      obtain rfl : T = ⟨#[]⟩ := size_zero (by omega)
      have HOWN := Lib.hid (HR.out.own.rows (enc := EntD.cells) (fun _ => rfl) (by decide))
      have HB := Lib.hid HR.out.below
      have HC := Lib.hid (dcheck_any A L.length c L wq HOWN.out)
      clear hle hTs hlt hl2
      by_cases hd : dirE L = 0
      · have F := Lib.hid (rdv_ok hl1 hd)
        rw [hd] at HC
        clear hd hl1
        go_wp2_with (go_at_call 29; refine HC.out.mono ?_; rintro e w3 ⟨rfl, hb3⟩)
        go_ret2
        exact ⟨A, L.length, c, by rw [F.out.1]; rfl, by rw [F.out.2]; exact (HOWN.out.below hb3).more hb3.size, HB.out.trans (hb3.mono HB.out.size)⟩
      · have F := Lib.hid (rdv_bad hl1 hd)
        have hx2 : (dirE L != 0) = true := bne_iff_ne.2 hd
        clear hd hl1
        generalize dirE L = E at *
        go_wp2_with (go_at_call 29; refine HC.out.mono ?_; rintro e w3 ⟨rfl, hb3⟩)
        go_ret2
        exact rdPost_bad F.out (HB.out.trans (hb3.mono HB.out.size))
end Go.Proofs.Ytfhgglghofhndaa
