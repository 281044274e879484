/- linenref.LogCell, walked; its list lies in new memory. -/
import Derived.Test.YtjmgocfoimhmjaaScW
import Derived.Test.YtjmgocfoimhmjaaBreadF
namespace Go.Proofs.Ytjmgocfoimhmjaa
open Go.RowKit

def ScfPost (t : ByteArray) (w : World) (e : Ending) (w' : World) : Prop := ∃ D q d, e = .returned (.tuple #[.int .i64 (scN t), .slice D q d, .bool (scB t), .bool (scO t)]) ∧ RowsIn w' w'.heap.size D q d BlobD.cells 4 (scL t) ∧ Below w.heap.size w w' ∧ (∀ a, D = some a → w.heap.size ≤ a.block)
theorem scfPost_bad {t : ByteArray} {w w' : World} (h : ¬ scOk t) (hb : Below w.heap.size w w') : ScfPost t w (.returned (.tuple #[.int .i64 0, .slice none 0 0, .bool false, .bool false])) w' := by
  obtain ⟨a, b, c, d⟩ := sc_bad h
  exact ⟨none, 0, 0, by rw [a, c, d], by rw [b]; exact no_blobsC _ _, hb, fun _ h => by cases h⟩

set_option maxRecDepth 20000 in
set_option maxHeartbeats 1000000 in
theorem rlogf_any (A : Option Addr) (n c : Nat) (cs : List ByteArray) (A' : Option Addr) (n' c' : Nat) (ws : List PutD) (k : Nat) (w : World) (r : RowsIn w w.heap.size A n c (fun z => [.string z]) 1 cs) (r' : RowsIn w w.heap.size A' n' c' PutD.cells 2 ws) (hk : k < cs.length) (hws : ws.length ≤ 400) (hk2 : 2 ≤ k) :
    Calls Try.prog 75 #[.agg #[.slice A n c, .slice A' n' c'], .int .i64 k] w (ScfPost (nowS cs ws k) w) := by
  have hlen := r.len
  subst hlen
  have hlen' := r'.len
  subst hlen'
  obtain ⟨wa, hwa⟩ : ∃ wa, wa = w.alloc (.cells #[.slice A cs.length c, .slice A' ws.length c'] 41) := ⟨_, rfl⟩
  have hba : Below w.heap.size w wa := by rw [hwa]; exact (Below.refl _ _).alloc (Nat.le_refl _) _
  have hrb : wa.heap[w.heap.size]? = some (.cells #[.slice A cs.length c, .slice A' ws.length c'] 41 (0, 0)) := by rw [hwa]; exact heap_alloc_new w _
  have hle := hba.size
  have RA := Lib.hid ((r.below hba).more hle)
  have RA' := Lib.hid ((r'.below hba).more hle)
  have HN : Hid (∀ W, Below wa.heap.size wa W → Calls Try.prog 27 #[.agg #[.slice A cs.length c, .slice A' ws.length c'], .int .i64 k, .func (.func 28) #[] #[]] W fun e w' => e = .returned (.string (nowS cs ws k)) ∧ Below W.heap.size W w') := fun W h => cell_any 28 #[] allB A _ c cs A' _ c' ws k W ((RA.out.below h).more h.size) ((RA'.out.below h).more h.size) hk hws (keeps_everyS _ _ _) cf_everyS
  have HO : Hid (∀ t W, Calls Try.prog 52 #[.string t] W fun e w' => e = .returned (.tuple #[.int .i64 (openK t), .int .i64 (openN t), .string (openT t), .int .i64 (openE t)]) ∧ Below W.heap.size W w') := fun t W => unseal_any t W
  have HR : Hid (∀ t W, Calls Try.prog 54 #[.string t] W (BrfPost t W)) := fun t W => breadf_any t W
  unfold BrfPost at HR
  have q0 : wa.cell? ⟨w.heap.size, 0, none⟩ = some (.slice A cs.length c) := row_cell hrb 0
  have q1 : wa.cell? ⟨w.heap.size, 1, none⟩ = some (.slice A' ws.length c') := row_cell hrb 1
  have i1 : (k : Int) < (cs.length : Int) := by omega
  have i2 : ¬ (k : Int) < 2 := by omega
  have i3 : (2 : Int) ≤ (k : Int) := by omega
  have HWA := Lib.hid hwa
  have HBA := Lib.hid hba
  clear r r' hwa hba hle hk hrb hk2
  generalize nowS cs ws k = t at *
  have HOt := Lib.hid (HO.out t)
  have HRt := Lib.hid (HR.out (openT t))
  by_cases hc : scOk t
  · obtain ⟨e1, e2, e3, e4⟩ := sc_ok hc
    have F1 := Lib.hid e1
    have F2 := Lib.hid e2
    have F3 := Lib.hid e3
    have F4 := Lib.hid e4
    rw [hc.1, hc.2] at HOt
    clear hc e1 e2 e3 e4 HO HR
    generalize openN t = N at *
    generalize openT t = T at *
    generalize brL T = BL at *
    generalize brB T = BB at *
    generalize hbe : brE T = BE at *
    have g1 : (BE == 0) = decide (BE = 0) := rfl
    go_enter Try.func75, Try.ntmps75
    go_wp2_with (first
      | (go_at_call 27; rw [← HWA.out]; refine (HN.out _ (Below.refl _ _)).mono ?_; rintro e w1 ⟨rfl, hb1⟩)
      | (go_at_call 52; refine (HOt.out _).mono ?_; rintro e w2 ⟨rfl, hb2⟩)
      | (go_at_call 54; refine (HRt.out _).mono ?_; rintro e w3 ⟨D, q, d, rfl, r3, hb3, hfr⟩))
    refine bodyPost_ret (results_ttt4 rfl _ _) rfl ?_
    exact ⟨D, q, d, by rw [F1.out, F3.out, F4.out]; rfl, by rw [F2.out]; exact r3, HBA.out.trans ((hb1.trans ((hb2.trans (hb3.mono hb2.size)).mono hb1.size)).mono HBA.out.size), fun a h => Nat.le_trans HBA.out.size (Nat.le_trans hb1.size (Nat.le_trans hb2.size (hfr a h)))⟩
  · have HC := Lib.hid hc
    by_cases he : openE t = 0
    · have hk1 : openK t ≠ 1 := fun h => hc ⟨he, h⟩
      have g1 : (openK t != 1) = true := bne_iff_ne.2 hk1
      rw [he] at HOt
      clear he hk1 hc HO HR HRt
      generalize openK t = K at *
      generalize openN t = N at *
      generalize openT t = T at *
      go_enter Try.func75, Try.ntmps75
      go_wp2_with (first
        | (go_at_call 27; rw [← HWA.out]; refine (HN.out _ (Below.refl _ _)).mono ?_; rintro e w1 ⟨rfl, hb1⟩)
        | (go_at_call 52; refine (HOt.out _).mono ?_; rintro e w2 ⟨rfl, hb2⟩))
      refine bodyPost_ret (results_ttt4 rfl _ _) rfl ?_
      exact scfPost_bad HC.out (HBA.out.trans ((hb1.trans (hb2.mono hb1.size)).mono HBA.out.size))
    · have g1 : (openE t != 0) = true := bne_iff_ne.2 he
      clear he hc HO HR HRt
      generalize openE t = E at *
      generalize openK t = K at *
      generalize openN t = N at *
      generalize openT t = T at *
      go_enter Try.func75, Try.ntmps75
      go_wp2_with (first
        | (go_at_call 27; rw [← HWA.out]; refine (HN.out _ (Below.refl _ _)).mono ?_; rintro e w1 ⟨rfl, hb1⟩)
        | (go_at_call 52; refine (HOt.out _).mono ?_; rintro e w2 ⟨rfl, hb2⟩))
      refine bodyPost_ret (results_ttt4 rfl _ _) rfl ?_
      exact scfPost_bad HC.out (HBA.out.trans ((hb1.trans (hb2.mono hb1.size)).mono HBA.out.size))
end Go.Proofs.Ytjmgocfoimhmjaa
