/- The law CodeWrites, walked: it returns true for all lists (of signs, at most 1048575). -/
import Derived.Test.YtdoaogfpahjmmaaCwW
import Derived.Test.YtdoaogfpahjmmaaCwR
import Derived.Test.YtdoaogfpahjmmaaCwL
import Derived.Test.YtdoaogfpahjmmaaNumberW
import Derived.Test.YtdoaogfpahjmmaaSlc
import Derived.Deep.QuietTactic
import Derived.BigQuiet
namespace Go.Proofs.Ytdoaogfpahjmmaa.lCodeWrites
open Go.RowKit

set_option maxRecDepth 20000 in
set_option maxHeartbeats 1000000 in
theorem walk (a0 : Option Addr) (n0 c0 : Nat) (x0 : List Int) (a1 : Option Addr) (n1 c1 : Nat) (x1 : List Int) (w : World) (r0 : RowsIn w w.heap.size a0 n0 c0 (fun z => [.int .i64 z]) 1 x0) (_o0 : ∀ z ∈ x0, (fun z => (Lit.int .i64 z).wf = true) z) (_s0 : c0 ≤ 1048575) (r1 : RowsIn w w.heap.size a1 n1 c1 (fun z => [.int .i64 z]) 1 x1) (_o1 : ∀ z ∈ x1, (fun z => (Lit.int .i64 z).wf = true) z) (s1 : c1 ≤ 1048575) :
    Calls Try.prog 7 #[.slice a0 n0 c0, .slice a1 n1 c1] w fun e w' => e = .returned (.bool true) ∧ Below w.heap.size w w' := by
  have hn1 : n1 ≤ 1048575 := by have := r1.le; omega
  have H1 : Hid (∀ W, Below w.heap.size w W → Calls Try.prog 22 #[.slice a0 n0 c0, .slice a1 n1 c1] W fun e w' => ∃ A q d, e = .returned (.tuple #[.slice A q d, .int .i64 (cwE x0 x1)]) ∧ RowsIn w' w'.heap.size A q d Piece.cells 2 (cwP x0 x1) ∧ Below W.heap.size W w') := fun W hb => cw_any a0 n0 c0 x0 a1 n1 c1 x1 W ((r0.below hb).more hb.size) ((r1.below hb).more hb.size) hn1
  have H2 : Hid (∀ W, Below w.heap.size w W → Calls Try.prog 23 #[.slice a0 n0 c0, .slice a1 n1 c1] W (CwrPost x0 x1 W)) := fun W hb => cwr_any a0 n0 c0 x0 a1 n1 c1 x1 W ((r0.below hb).more hb.size) ((r1.below hb).more hb.size) hn1
  obtain ⟨S, hP, hB, hW, hS⟩ := cw_form x0 x1
  unfold CwrPost at H2
  rw [hP] at H1
  rw [hB, hW] at H2
  have HS := Lib.hid (fun i hi => cw_round (l := x0) (S := S) hS (i := i) hi)
  generalize cwE x0 x1 = E at *
  have hlP : (S.map (sgP x0)).length = S.length := by simp
  have hlW : (S.map (wd x0)).length = S.length := by simp
  have HLP := Lib.hid hlP
  have HLW := Lib.hid hlW
  clear hP hB hW hS r0 r1 _o0 _o1 _s0 s1 hlP hlW
  generalize hPP : S.map (sgP x0) = PP at *
  generalize hWW : S.map (wd x0) = WW at *
  clear hPP hWW
  go_enter Try.func7, Try.ntmps7
  go_wp2_with (first
    | (go_at_call 22; refine (H1.out _ (Below.refl _ _)).mono ?_; rintro e w1 ⟨AP, nP, cP, rfl, rP, hb1⟩; have hnP := rP.len; rw [HLP.out] at hnP; subst hnP)
    | (go_at_call 23; refine (H2.out _ hb1).mono ?_; rintro e w2 ⟨AB, nB, cB, AW, nW, cW, rfl, rB, rW, hb2⟩; have hnW := rW.len; rw [HLW.out] at hnW; subst hnW))
  have hbw : Below w.heap.size w w2 := hb1.trans (hb2.mono hb1.size)
  have RP := Lib.hid ((rP.below hb2).more hb2.size)
  have RW := Lib.hid rW
  have r0' : IntRow w2 w2.heap.size (.slice AB nB cB) nB ((S.drop 0).flatMap (sgB x0)) := ⟨_, _, rfl, rB⟩
  have hS1 := rP.le
  have hS2 := rP.top
  unfold maxLen at hS2
  clear rP rW rB hb1 hb2 H1 H2
  go_loopw [7, 10, 36] (fun v7 v10 v36 wr => ∃ (i m : Nat), i ≤ S.length ∧ v36 = .int .i64 i ∧ IntRow w2 w2.heap.size v7 m ((S.drop i).flatMap (sgB x0)) ∧ Below w2.heap.size w2 wr) (fun _ _ v36 _ => S.length - (intOf v36).toNat)
  case atStart => exact ⟨0, nB, Nat.zero_le _, rfl, r0', Below.refl _ _⟩
  case round =>
    obtain ⟨i, m, hi, rfl, ⟨A, c, rfl, hr⟩, hb⟩ := hrel
    by_cases hlt : i < S.length
    · obtain ⟨x, f, bs, hx1, hx15, e1, e2, hh, hl, hbt, hd⟩ := HS.out i hlt
      rw [hd] at hr
      have hm : x ≤ m := by have := hr.len; rw [List.length_append] at this; omega
      have hmc := hr.le
      obtain ⟨b, o, rfl⟩ : ∃ b o, A = some ⟨b, o, none⟩ := by
        obtain ⟨b, o, e, _⟩ := hr.at_ 0 _ (List.getElem?_eq_getElem (by rw [hr.len]; omega))
        exact ⟨b, o, e⟩
      obtain ⟨bp, op, rfl, hbp, hcp⟩ := (RP.out.below hb).at_ i _ e1
      obtain ⟨bw, ow, rfl, hbw', hcw⟩ := (RW.out.below hb).one e2
      have hp0 : wr.cell? ⟨bp, op + i * 2, none⟩ = some (.int .u64 f) := hcp 0 _ rfl
      have hp1 : wr.cell? ⟨bp, op + i * 2 + 1, none⟩ = some (.int .i64 x) := hcp 1 _ rfl
      have hpre := hr.pre hm
      have htk : (bs ++ (S.drop (i + 1)).flatMap (sgB x0)).take x = bs := by rw [← hl]; simp
      rw [htk] at hpre
      have HN : Hid (∀ W, Below w2.heap.size w2 W → Calls Try.prog 24 #[.slice (some ⟨b, o, none⟩) x c] W fun e w' => e = .returned (.int .u64 f) ∧ W = w') := fun W hbW => by
        have := number_any (some ⟨b, o, none⟩) x c bs w2.heap.size W (hpre.below hbW) hbt (by omega)
        rw [hh] at this; exact this
      have hsuf := hr.suf_any (n := x) hm
      have hdr : (bs ++ (S.drop (i + 1)).flatMap (sgB x0)).drop x = (S.drop (i + 1)).flatMap (sgB x0) := by rw [← hl]; simp
      rw [hdr] at hsuf
      have HSUF := Lib.hid hsuf
      have i1 : (i : Int) < (S.length : Int) := by omega
      have i2 : (x : Int) ≤ (m : Int) := by omega
      have i3 : (x : Int) ≤ (c : Int) := by omega
      have i4 : (0 : Int) ≤ (i : Int) := by omega
      have i5 : (0 : Int) ≤ (x : Int) := by omega
      have i6 : x ≤ c := by omega
      have HB := Lib.hid hb
      clear e1 e2 hh hl hbt hd hr hcp hpre htk hsuf hdr hb
      go_wp2
      go_quiet ((go_at_call 24; exact Calls.quiet_of_same ((HN.out _ (below_drewN HB.out _)).mono fun _ _ h => ⟨h.1, h.2.symm⟩)))
      go_wp2
      go_roundw
      case rel => exact ⟨i + 1, m - x, by omega, by go_num, ⟨_, _, rfl, by simpa using HSUF.out⟩, below_drewN HB.out _⟩
      case measure => (simp [intOf]; try omega)
    · have i1 : ¬ (i : Int) < (S.length : Int) := by omega
      go_wp2
      go_ret
      exact ⟨rfl, hbw.trans (hb.mono hbw.size)⟩
end Go.Proofs.Ytdoaogfpahjmmaa.lCodeWrites
