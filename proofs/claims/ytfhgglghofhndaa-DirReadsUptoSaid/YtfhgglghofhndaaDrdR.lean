/- linenref.ReadDir, walked. -/
import Derived.Test.YtfhgglghofhndaaDrdW
namespace Go.Proofs.Ytfhgglghofhndaa
open Go.RowKit Go.PlainAid

set_option maxRecDepth 20000 in
set_option maxHeartbeats 1000000 in
theorem rread_any (s : ByteArray) (hs : s.size ≤ 1048575) (w : World) : Calls Try.prog 23 #[.string s] w (RdPost s w) := by
  have HS := Lib.hid hs
  have htop : (s.size : Int) ≤ 1048575 := by omega
  clear hs
  go_enter Try.func23, Try.ntmps23
  go_wp2
  go_loopw [4, 5] (fun v4 v5 wr => ∃ (p : Nat) (L : List EntD), v5 = .int .i64 p ∧ Hid (RdI s w p L v4 wr)) (fun _ v5 _ => s.size - (intOf v5).toNat)
  case atStart => exact ⟨0, [], rfl, rdL_zero s, Owns.nil _ _ _, Below.refl _ _⟩
  case round =>
    obtain ⟨p, L, rfl, HR⟩ := hrel
    obtain ⟨wq, rfl⟩ : ∃ z : World, z = wr := ⟨_, rfl⟩
    obtain ⟨A, c, rfl⟩ := HR.out.own.form
    have hle := HR.out.lst.le
    have hpt : (p : Int) ≤ 1048575 := by omega
    by_cases hlt : p < s.size
    · have hli : (p : Int) < (s.size : Int) := by omega
      obtain ⟨n, hn⟩ : ∃ n : Nat, bt s p = (n : Int) := ⟨(bt s p).toNat, by have := bt_nonneg s p; omega⟩
      have hn255 : (n : Int) ≤ 255 := by rw [← hn]; exact bt_le s p
      have hg := get_bt s
      by_cases h2 : s.size ≤ p + n + 1
      · have h2i : (s.size : Int) ≤ (p : Int) + (n : Int) + 1 := by omega
        have F := Lib.hid (HR.out.lst.none hlt hn (by omega))
        clear hle h2
        go_wp2
        go_ret2
        exact rdPost_bad F.out HR.out.below
      · have h2i : ¬ (s.size : Int) ≤ (p : Int) + (n : Int) + 1 := by omega
        obtain ⟨v, hv⟩ : ∃ v, bt s (p + 1 + n) = v := ⟨_, rfl⟩
        obtain ⟨NM, hNM⟩ : ∃ NM, s.extract (p + 1) (p + 1 + n) = NM := ⟨_, rfl⟩
        have HST := HR.out.lst.step hn (by omega)
        rw [hNM, hv] at HST
        have HN := Lib.hid HST
        have HLT := Lib.hid hlt
        have hcnt := HR.out.lst.cnt
        have G2 : Hid (∀ u ∈ (#[.string NM, .int .i64 v] : Array Value).toList, u.oneCell' = true) := by simp [Hid, Value.oneCell']
        have G3 : Hid (L.length + 1 ≤ maxLen ∧ (L.length + 1) * 24 ≤ 140737488355328) := by have := HS.out; unfold maxLen Hid; omega
        have G4 : Hid (0 < 2) := by simp [Hid]
        obtain ⟨U, hU⟩ : ∃ U, U = L.flatMap EntD.cells := ⟨_, rfl⟩
        have hown := HR.out.own
        rw [← hU] at hown
        have hsz := HR.out.below.size
        have GO : Hid (Owns (wq.alloc (.cells #[.string NM, .int .i64 v] 41)).drew w.heap.size 2 (.slice A L.length c) L.length U) := (hown.alloc _).drew
        have GB : Hid (w.heap.size ≤ (wq.alloc (.cells #[.string NM, .int .i64 v] 41)).drew.heap.size) := by simp [Hid]; omega
        have GH : Hid ((wq.alloc (.cells #[.string NM, .int .i64 v] 41)).drew.heap[wq.heap.size]? = some (.cells #[.string NM, .int .i64 v] 41)) := heap_alloc_new wq _
        have GZ : Hid (Below w.heap.size w (wq.alloc (.cells #[.string NM, .int .i64 v] 41)).drew) := (HR.out.below.alloc hsz _).drew
        have HU := Lib.hid hU
        have a1 : IntKind.i64.wrap ((p : Int) + 1) = (p : Int) + 1 := by rw [IntKind.wrap_i64]; omega
        have a1' : IntKind.i64.wrap ((p : Int) + 1 + (n : Int)) = (p : Int) + 1 + (n : Int) := by rw [IntKind.wrap_i64]; omega
        have a2 : ((p : Int) + 1).toNat = p + 1 := by omega
        have a2' : ((p : Int) + 1 + (n : Int)).toNat = p + 1 + n := by omega
        have a3 : (0 : Int) ≤ (p : Int) + 1 := by omega
        have a3' : (0 : Int) ≤ (p : Int) + 1 + (n : Int) := by omega
        have a4 : (p : Int) + 1 + (n : Int) < (s.size : Int) := by omega
        have a5 : p + 1 + n < s.size := by omega
        have a6 : (p : Int) + 1 ≤ (p : Int) + 1 + (n : Int) := by omega
        have a7 : (p : Int) + 1 + (n : Int) ≤ (s.size : Int) := by omega
        have a9 : IntKind.i64.wrap v = v := by rw [IntKind.wrap_i64, ← hv]; have := bt_nonneg s (p + 1 + n); have := bt_le s (p + 1 + n); omega
        clear hle hU hown HST h2 hlt
        generalize hNN : L.length = N at *
        have HNN := Lib.hid hNN
        clear hNN
        go_upto_region 7 with fail
        go_region_law
          (refine step_app1 (P := Try.prog) (e := 41) (z := .agg #[.string ByteArray.empty, .int .i64 0]) (size := 2) (bytes := 24) (base := w.heap.size) rfl (.tmp 24) (.tmp 41) 36 rfl Try.underlying36 info_entR rfl G4.out A N c U (by simp [go_sem]) GO.out GB.out wq.heap.size 1 #[.string NM, .int .i64 v] 41 (by simp [go_sem]) GH.out rfl G2.out G3.out.1 G3.out.2 ?_; intro A' c' w2 hown2 hl2 hn2)
        all_goals
          have HF : Hid (RdI s w (p + n + 2) (L ++ [⟨NM, v⟩]) (.slice A' (N + 1) c') w2) := by
            refine { lst := HN.out, own := ?_, below := hl2.below (Nat.le_refl _) GZ.out }
            rw [flat_snoc, ← HU.out, List.length_append, HNN.out]
            exact hown2
          clear hown2 hl2 hn2
          go_wp2
          go_roundw
          case rel => exact ⟨p + n + 2, L ++ [(⟨NM, v⟩ : EntD)], by go_num, HF⟩
          case measure => (have := HLT.out; simp [intOf]; try omega)
    · obtain rfl : p = s.size := by omega
      obtain ⟨hl1, hl2⟩ := HR.out.lst.last
      have HOWN := Lib.hid (HR.out.own.rows (enc := EntD.cells) (fun _ => rfl) (by decide))
      have HB := Lib.hid HR.out.below
      have HC := Lib.hid (rtext_any A L.length c L wq HOWN.out)
      unfold DtPost at HC
      clear hle hlt
      by_cases hd : dirE L = 0
      · have F := Lib.hid (rdv_ok hl1 hd)
        rw [dirT_ok hd, hl2, mk_bl, hd] at HC
        clear hd hl1 hl2
        go_wp2_with (go_at_call 26; refine HC.out.mono ?_; rintro e w3 ⟨rfl, hb3⟩)
        go_ret2
        exact ⟨A, L.length, c, by rw [F.out.1]; rfl, by rw [F.out.2]; exact (HOWN.out.below hb3).more hb3.size, HB.out.trans (hb3.mono HB.out.size)⟩
      · have F := Lib.hid (rdv_bad hl1 hd)
        have hx2 : (dirE L != 0) = true := bne_iff_ne.2 hd
        clear hd hl1 hl2
        generalize dirE L = E at *
        generalize dirT L = DT at *
        go_wp2_with (go_at_call 26; refine HC.out.mono ?_; rintro e w3 ⟨rfl, hb3⟩)
        go_ret2
        exact rdPost_bad F.out (HB.out.trans (hb3.mono HB.out.size))
end Go.Proofs.Ytfhgglghofhndaa
