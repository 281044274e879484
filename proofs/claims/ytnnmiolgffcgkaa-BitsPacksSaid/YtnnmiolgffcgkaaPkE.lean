/- bits' sink: end, walked. -/
import Derived.Test.YtnnmiolgffcgkaaPkW
namespace Go.Proofs.Ytnnmiolgffcgkaa
open Go.RowKit Go.PlainAid

/-- A list of bits as a text. -/
def txt (L : List Int) : ByteArray := strOfNums (bytL L ((L.length + 7) / 8))

set_option maxRecDepth 20000 in
set_option maxHeartbeats 1000000 in
theorem end_any (L : List Int) (q : Nat) (A : Option Addr) (c : Nat) (B : Nat) (W : World) (sk : SkS B W A c L q (heldL L q) ((L.length - 8 * q : Nat) : Int)) (hL : Bits01 L) (hq : 8 * q ≤ L.length) (hn : L.length - 8 * q < 8) (hbig : L.length ≤ 65536) :
    Calls Try.prog 58 #[.pointer (some ⟨B, 0, none⟩)] W fun e w' => e = .returned (.string (txt L)) ∧ Below B W w' := by
  obtain ⟨n, hnn⟩ : ∃ n, n = L.length - 8 * q := ⟨_, rfl⟩
  rw [← hnn] at sk hn
  have HS := Lib.hid sk
  obtain ⟨k0, k1, k2, g0, g1, g2, hz⟩ := sk.cells
  by_cases h0 : n = 0
  · have F : Hid (bytL L q = bytL L ((L.length + 7) / 8)) := by simp only [Hid]; rw [show (L.length + 7) / 8 = q by omega]
    have HN : Hid (¬ 0 < n) := by simp only [Hid]; omega
    have d0 := decide_eq_false (show ¬ (0 : Int) < (n : Int) by omega)
    have d1 := decide_eq_false (show ¬ 0 < n by omega)
    clear sk hnn h0 hq hn
    go_enter Try.func58, Try.ntmps58
    go_wp2_with (refine wpList_text rfl rfl Try.underlying78 Try.underlying5 Try.underlying9 HS.out.own rfl ?_)
    go_ret
    exact ⟨by rw [F.out]; rfl, Below.refl _ _⟩
  · have hown := sk.own
    have RNE : Hid (Value.ownBlock (.slice A q c) ≠ some B) := fun e => Nat.not_succ_le_self B (hown.lt B e).1
    have F : Hid ((bytL L q).map (Value.int .u8) ++ [.int .u8 (byteL L q)] = (bytL L ((L.length + 7) / 8)).map (Value.int .u8)) := by
      simp only [Hid]; rw [show (L.length + 7) / 8 = q + 1 by omega, bytL_succ, List.map_append]; rfl
    have F2 : Hid (q + 1 = (L.length + 7) / 8) := by simp only [Hid]; omega
    have hlast := held_last (L := L) (q := q) (by omega)
    have hbd := byteL_bd hL q
    rw [hlast] at k1 HS
    have hq65 : q ≤ 8192 := by omega
    have d0 := decide_eq_true (show (0 : Int) < (n : Int) by omega)
    have d1 := decide_eq_true (show 0 < n by omega)
    generalize byteL L q = b at *
    have hwb : IntKind.u8.wrap b = b := by rw [IntKind.wrap_u8]; omega
    have G2 : Hid (∀ u ∈ (#[.int .u8 b] : Array Value).toList, u.oneCell' = true) := by simp [Hid, Value.oneCell']
    have G3 : Hid (q + 1 ≤ maxLen ∧ (q + 1) * 1 ≤ 140737488355328) := by unfold maxLen Hid; omega
    have G4 : Hid (0 < 1) := by simp [Hid]
    obtain ⟨U, hU⟩ : ∃ U, U = (bytL L q).map (Value.int .u8) := ⟨_, rfl⟩
    rw [← hU] at hown F
    have GO : Hid (Owns (W.alloc (.cells #[.int .u8 b] 5)).drew (B + 1) 1 (.slice A q c) q U) := (hown.alloc _).drew
    have GB : Hid (B + 1 ≤ (W.alloc (.cells #[.int .u8 b] 5)).drew.heap.size) := by simp [Hid]; omega
    have GH : Hid ((W.alloc (.cells #[.int .u8 b] 5)).drew.heap[W.heap.size]? = some (.cells #[.int .u8 b] 5)) := heap_alloc_new W _
    have HSA : Hid (SkS B (W.alloc (.cells #[.int .u8 b] 5)).drew A c L q b (n : Int)) := ⟨(heap_alloc_old W _ (by omega)).trans HS.out.row, (HS.out.own.alloc _).drew⟩
    have HBA : Hid (Below B W (W.alloc (.cells #[.int .u8 b] 5)).drew) := ((Below.refl B W).alloc (by omega) _).drew
    have HLT : Hid (B < (W.alloc (.cells #[.int .u8 b] 5)).drew.heap.size) := by simp [Hid]; omega
    have ka := HSA.out.cells.1
    have HZ := Lib.hid hz
    clear sk hnn h0 hq hn hown hU hlast hbd hL hbig
    go_enter Try.func58, Try.ntmps58
    go_wp2
    go_region_law
      (refine step_app1 (P := Try.prog) (e := 5) (z := .int .u8 0) (size := 1) (bytes := 1) (base := B + 1) rfl (.tmp 12) (.tmp 18) 78 rfl Try.underlying78 info_u8P rfl G4.out A q c U (by simp [go_sem]) GO.out GB.out W.heap.size 1 #[.int .u8 b] 5 (by simp [go_sem]) GH.out rfl G2.out G3.out.1 G3.out.2 ?_; intro A3 c3 w6 hown6 hl6 hn6; have kk := hl6.cell HSA.out.cells.1 RNE.out; have gg := (hl6.frozen (p := ⟨B, 0, none⟩) HLT.out RNE.out).trans HSA.out.cells.2.2.2.1)
    all_goals
      have HO7 : Hid (Owns (w6.setCell ⟨B, 0, none⟩ (.slice A3 (q + 1) c3)) (B + 1) 1 (.slice A3 (q + 1) c3) (q + 1) ((bytL L ((L.length + 7) / 8)).map (Value.int .u8))) := by
        simp only [Hid]; rw [← F.out]; exact hown6.setOther (fun e => Nat.not_succ_le_self B (hown6.lt B e).1) _
      have HB7 : Hid (Below B W (w6.setCell ⟨B, 0, none⟩ (.slice A3 (q + 1) c3))) := below_u (hl6.below (Nat.le_succ B) HBA.out) 0 _
      have k7 : (w6.setCell ⟨B, 0, none⟩ (.slice A3 (q + 1) c3)).cell? ⟨B, 0, none⟩ = some (.slice A3 (q + 1) c3) := World.cell?_setCell_same w6 ⟨B, 0, none⟩ _ kk
      obtain ⟨w7, hw7⟩ : ∃ w7, w7 = w6.setCell ⟨B, 0, none⟩ (.slice A3 (q + 1) c3) := ⟨_, rfl⟩
      rw [← hw7] at HO7 HB7 k7 ⊢
      clear hw7 hown6 hl6 hn6 kk gg ka GO GB GH HSA HBA HLT G2 G3 G4 k0 k1 k2 g0 g1 g2 hz hwb
      go_wp2_with (refine wpList_text rfl rfl Try.underlying78 Try.underlying5 Try.underlying9 HO7.out rfl ?_)
      go_ret
      exact ⟨rfl, HB7.out⟩
end Go.Proofs.Ytnnmiolgffcgkaa
