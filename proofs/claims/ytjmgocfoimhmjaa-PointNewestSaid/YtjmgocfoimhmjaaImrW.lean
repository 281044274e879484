/- imap.Read, walked. -/
import Derived.Test.YtjmgocfoimhmjaaImrV
namespace Go.Proofs.Ytjmgocfoimhmjaa
open Go.RowKit Go.PlainAid

set_option maxRecDepth 20000 in
set_option maxHeartbeats 2000000 in
theorem imr_any (s : ByteArray) (w : World) : Calls Try.prog 71 #[.string s] w (ImrPost s w) := by
  have HF := Lib.hid fresh_at
  have hone : Hid (∀ b b' : Nat, ((imCells b b').all (·.oneCell')) = true) := fun b b' => by simp [imCells, Value.oneCell']
  have hone0 : Hid ((zeroImap : Array Value).all (·.oneCell') = true) := by simp [Hid, Value.oneCell']
  have HR0 := Lib.hid (heap_alloc_new w (.cells zeroImap 25))
  have HB0 : Hid (Below w.heap.size w (w.alloc (.cells zeroImap 25))) := (Below.refl _ _).alloc (Nat.le_refl _) _
  have hz0 : (w.alloc (.cells zeroImap 25)).heap.size = w.heap.size + 1 := by simp
  have HZ0 := Lib.hid hz0
  clear hz0
  go_enter Try.func71, Try.ntmps71
  go_wp2_with (first
    | (go_at_call 99; refine (HF.out _).mono ?_; rintro e w1 ⟨b, b', rfl, hp, hg, hb1, hgt, hgt', hne⟩; have HP := Lib.hid hp; have HG := Lib.hid hg; have HB1 := Lib.hid hb1; have HNE := Lib.hid hne; clear hp hg hb1 hne)
    | (refine wpList_store_rowTo rfl _ _ _ rfl rfl w1.heap.size (imCells b b') rfl rfl 25 zeroImap (heap_alloc_new w1 _) info_imap rfl (hone.out b b') ?_; obtain ⟨w2, hw2⟩ : ∃ w2, (w1.alloc (.cells zeroImap 25)).setRow w1.heap.size (imCells b b') = w2 := ⟨_, rfl⟩; rw [hw2]; have hm2 : w2.heap[w1.heap.size]? = some (.cells (imCells b b') 25) := (by rw [← hw2]; exact row_set (heap_alloc_new w1 _)); have hc0 : w2.cell? ⟨w1.heap.size, 0, none⟩ = some (.slice (some ⟨b, 0, none⟩) 48 48) := row_cell hm2 0; have HM2 := Lib.hid hm2; have HW2 := Lib.hid hw2; clear hm2 hw2))
  obtain ⟨M, hM⟩ : ∃ M, M = w1.heap.size := ⟨_, rfl⟩
  have hz1 := HB1.out.size
  rw [HZ0.out] at hz1
  have hgt1 : w.heap.size < b := by have := HZ0.out; simp at hgt; omega
  have hgt1' : w.heap.size < b' := by have := HZ0.out; simp at hgt'; omega
  have hlb := row_lt HP.out
  have hlb' := row_lt HG.out
  have hrow : ∀ k x, k < w1.heap.size → w1.heap[k]? = x → w2.heap[k]? = x := fun k x hk hx => by
    rw [← HW2.out, setRow_other _ _ _ _ (by omega), heap_alloc_old _ _ hk]; exact hx
  have hI : ImrI s w w2 b b' w1.heap.size 0 := ⟨fun j hj => by omega, own_of_row (hrow _ _ hlb HP.out) (zeroPlaces_list s) (by rfl) (by omega) (by decide), own_of_row (hrow _ _ hlb' HG.out) (zeroGens_list s) (by rfl) (by omega) (by decide), ⟨HNE.out, by omega, by omega⟩, ⟨hgt1, hgt1', by omega⟩, HM2.out, hrow _ _ (by omega) ((HB1.out.block _ (by rw [HZ0.out]; omega)).trans HR0.out), by
    rw [← HW2.out]; exact below_setRow (((HB0.out.trans (HB1.out.mono (by rw [HZ0.out]; omega))).alloc (by omega) _)) (by omega) _⟩
  have HI := Lib.hid hI
  rw [← hM] at HI hc0 ⊢
  clear hI hrow hlb hlb' hgt1 hgt1' hz1 HW2 HM2 HB1 HP HG HNE hgt hgt' hM HR0 HB0 HZ0 HF
  go_wp2
  go_loopw [0, 13] (fun v0 v13 wr => ∃ i : Nat, i ≤ 48 ∧ v0 = .string (tl s (jpos s i)) ∧ v13 = .int .i64 i ∧ ImrI s w wr b b' M i) (fun _ v13 _ => 48 - (intOf v13).toNat)
  case atStart => exact ⟨0, Nat.zero_le _, by rw [show jpos s 0 = 0 from rfl, tl_zero], rfl, HI.out⟩
  case round =>
    obtain ⟨i, hi, rfl, rfl, hI⟩ := hrel
    have HIi := Lib.hid hI
    clear HI hc0 hI
    by_cases hlt : i < 48
    · have i1 : (i : Int) < 48 := by omega
      have hnot : Hid (¬ JOk s (jpos s i) → ¬ ImrOk s) := fun h k => h (k.all i hlt)
      have H : Hid (∀ W, Calls Try.prog 92 #[.string (tl s (jpos s i))] W fun e w' => e = .returned (.tuple #[.int .u64 (getV (bt (tl s (jpos s i))) (tl s (jpos s i)).size), .int .i64 (getN (bt (tl s (jpos s i))) (tl s (jpos s i)).size), .int .i64 (jE s (jpos s i))]) ∧ W = w') := fun W => get_any _ W
      by_cases hE : jE s (jpos s i) = 0
      · obtain ⟨a1, a2, a3, a4, a5⟩ := j_num hE
        rw [a1, a2, hE] at H
        have hts := tl_size s (jpos s i)
        by_cases hV : jV s (jpos s i) ≤ 2147483647
        · by_cases hf : jpos s i + jK s (jpos s i) + 2 ≤ s.size
          · have hok : JOk s (jpos s i) := ⟨hE, hV, hf⟩
            have hpl := plF_set s hlt
            have hgn := gnF_set s hlt
            obtain ⟨g1, g2⟩ := plF_get s hlt
            have g3 := gnF_get s hlt
            obtain ⟨c1, f1⟩ := HIi.out.ats.here g1
            obtain ⟨c2, f2⟩ := HIi.out.ats.here g2
            obtain ⟨c3, f3⟩ := HIi.out.gens.here g3
            simp only [Nat.zero_add] at c1 c2 c3 f1 f2 f3
            have m0 : wr.cell? ⟨M, 0, none⟩ = some (.slice (some ⟨b, 0, none⟩) 48 48) := row_cell HIi.out.m 0
            have m1 : wr.cell? ⟨M, 1, none⟩ = some (.slice (some ⟨b', 0, none⟩) 48 48) := row_cell HIi.out.m 1
            have hx1 : bt (tl s (jpos s i)) (jK s (jpos s i)) = (jpl s (jpos s i)).Cell := bt_extract s _ _ _ (by omega) (Nat.le_refl _)
            have hx2 : bt (tl s (jpos s i)) (jK s (jpos s i) + 1) = (jpl s (jpos s i)).Nth := (bt_extract s _ _ _ (by omega) (Nat.le_refl _)).trans (by show bt s _ = bt s _; congr 1)
            have hgb := get_bt (tl s (jpos s i))
            have hp' : jpos s (i + 1) = jpos s i + (jK s (jpos s i) + 2) := rfl
            have htl : tl s (jpos s (i + 1)) = (tl s (jpos s i)).extract (jK s (jpos s i) + 2) (tl s (jpos s i)).size := by rw [tl_tl, hp']
            have HTL := Lib.hid htl
            have HOK := Lib.hid hok
            have HPL := Lib.hid hpl
            have HGN := Lib.hid hgn
            have b1 := bt_nonneg (tl s (jpos s i)) (jK s (jpos s i)); have b2 := bt_le (tl s (jpos s i)) (jK s (jpos s i))
            have b3 := bt_nonneg (tl s (jpos s i)) (jK s (jpos s i) + 1); have b4 := bt_le (tl s (jpos s i)) (jK s (jpos s i) + 1)
            have hix1 := run_idx (P := Try.prog) Try.underlying9 (tl s (jpos s i)) (jK s (jpos s i) : Int) (jK s (jpos s i)) _ rfl (by omega) (hgb (jK s (jpos s i)) (by omega))
            have hix2 := run_idx (P := Try.prog) Try.underlying9 (tl s (jpos s i)) ((jK s (jpos s i) : Int) + 1) (jK s (jpos s i) + 1) _ (by simp) (by omega) (hgb (jK s (jpos s i) + 1) (by omega))
            rw [hx1] at hix1 b1 b2
            rw [hx2] at hix2 b3 b4
            have hsz : jK s (jpos s i) + 2 ≤ (tl s (jpos s i)).size := by omega
            clear hpl hgn g1 g2 g3 hE hok htl hx1 hx2 hgb hp' hf a1 a2 hnot hts a5
            generalize (jpl s (jpos s i)).Cell = B1 at *
            generalize (jpl s (jpos s i)).Nth = B2 at *
            generalize jK s (jpos s i) = K at *
            generalize jV s (jpos s i) = V at *
            generalize tl s (jpos s i) = T at *
            have j1 : (K : Int) + 2 ≤ (T.size : Int) := by omega
            have j2 : (V : Int) ≤ 2147483647 := by omega
            have k1 : IntKind.i64.wrap ((K : Int) + 1) = (K : Int) + 1 := by rw [IntKind.wrap_i64]; omega
            have k2 : IntKind.i64.wrap (V : Int) = V := by rw [IntKind.wrap_i64]; omega
            have k3 : IntKind.i64.wrap B1 = B1 := by rw [IntKind.wrap_i64]; omega
            have k4 : IntKind.i64.wrap B2 = B2 := by rw [IntKind.wrap_i64]; omega
            have i0 : (0 : Int) ≤ (i : Int) := by omega
            have HIX := Lib.hid (And.intro hix1 (And.intro hix2 (And.intro k1 (And.intro k2 (And.intro k3 k4)))))
            clear hix1 hix2 k1 k2 k3 k4
            go_wp2_with (go_at_call 92; refine (H.out _).mono ?_; rintro e w' ⟨rfl, rfl⟩)
            obtain ⟨hix1, hix2, k1, k2, k3, k4⟩ := HIX.out
            have hnb : b ≠ b' := HIi.out.ne.1
            have n1 : (wr.setCell ⟨b', i, none⟩ (.int .i64 (V : Int))).cell? ⟨b, i * 2, none⟩ = some (.int .i64 0) := (World.cell?_setCell_other _ _ _ _ (fun e => hnb (by injection e with e; exact e.symm))).trans c1
            have n2 : ((wr.setCell ⟨b', i, none⟩ (.int .i64 (V : Int))).setCell ⟨b, i * 2, none⟩ (.int .i64 B1)).cell? ⟨b, i * 2 + 1, none⟩ = some (.int .i64 0) := (World.cell?_setCell_other _ _ _ _ (fun e => by injection e with _ e; omega)).trans ((World.cell?_setCell_other _ _ _ _ (fun e => hnb (by injection e with e; exact e.symm))).trans c2)
            have n3 : (wr.setCell ⟨b, i * 2, none⟩ (.int .i64 B1)).cell? ⟨b, i * 2 + 1, none⟩ = some (.int .i64 0) := (World.cell?_setCell_other _ _ _ _ (fun e => by injection e with _ e; omega)).trans c2
            have n4 : ((wr.setCell ⟨b, i * 2, none⟩ (.int .i64 B1)).setCell ⟨b, i * 2 + 1, none⟩ (.int .i64 B2)).cell? ⟨b', i, none⟩ = some (.int .i64 0) := (World.cell?_setCell_other _ _ _ _ (fun e => hnb (by injection e with e))).trans ((World.cell?_setCell_other _ _ _ _ (fun e => hnb (by injection e with e))).trans c3)
            have S0 : wr.cell? ⟨M, 0, none⟩ = some (.slice (some ⟨b, 0, none⟩) 48 48) ∧ wr.cell? ⟨M, 1, none⟩ = some (.slice (some ⟨b', 0, none⟩) 48 48) := ⟨m0, m1⟩
            have q1 : M ≠ b := fun e => HIi.out.ne.2.1 e.symm
            have q2 : M ≠ b' := fun e => HIi.out.ne.2.2 e.symm
            clear m0 m1
            go_region_held3 (fun W => W.cell? ⟨M, 0, none⟩ = some (.slice (some ⟨b, 0, none⟩) 48 48) ∧ W.cell? ⟨M, 1, none⟩ = some (.slice (some ⟨b', 0, none⟩) 48 48))
              (first | assumption | exact keepM (by assumption) | exact keepM1 q2 (by assumption) | exact keepM2 q1 (by assumption))
              (fail)
            all_goals
              have HN : Hid (ImrI s w (((wr.setCell ⟨b', i, none⟩ (.int .i64 (V : Int))).setCell ⟨b, i * 2, none⟩ (.int .i64 B1)).setCell ⟨b, i * 2 + 1, none⟩ (.int .i64 B2)).drew b b' M (i + 1) ∧ ImrI s w (((wr.setCell ⟨b, i * 2, none⟩ (.int .i64 B1)).setCell ⟨b, i * 2 + 1, none⟩ (.int .i64 B2)).setCell ⟨b', i, none⟩ (.int .i64 (V : Int))).drew b b' M (i + 1)) := ⟨(HIi.out.stepA HOK.out HPL.out HGN.out).drew, (HIi.out.stepB HOK.out HPL.out HGN.out).drew⟩
              clear n1 n2 n3 n4 S0 c1 c2 c3 f1 f2 f3 hix1 hix2 k1 k2 k3 k4
              go_wp2
              go_roundw
              case rel => exact ⟨i + 1, by omega, by rw [HTL.out], by go_num, by first | exact HN.out.1 | exact HN.out.2⟩
              case measure => (simp [intOf]; try omega)
          · have F := Lib.hid (hnot.out fun k => hf k.fits)
            have hsz : ¬ jK s (jpos s i) + 2 ≤ (tl s (jpos s i)).size := by omega
            clear hnot hE hf a1 a2 hts a5
            generalize jK s (jpos s i) = K at *
            generalize jV s (jpos s i) = V at *
            generalize tl s (jpos s i) = T at *
            have j1 : (T.size : Int) < (K : Int) + 2 := by omega
            have j2 : (V : Int) ≤ 2147483647 := by omega
            go_wp2_with (first
              | (go_at_call 92; refine (H.out _).mono ?_; rintro e w' ⟨rfl, rfl⟩)
              | (refine wpList_store_rowTo rfl _ _ _ rfl rfl w.heap.size zeroImap rfl rfl 25 zeroImap HIi.out.res info_imap rfl hone0.out ?_))
            refine bodyPost_ret (results_cell_tmp_row rfl _ _ w.heap.size _ zeroImap (0, 0) _ rfl (row_set HIi.out.res) Try.underlying25 rfl info_imap) rfl ?_
            exact imrPost_bad F.out (below_setRow HIi.out.bel (Nat.le_refl _) _)
        · have F := Lib.hid (hnot.out fun k => hV k.top)
          clear hnot hE a1 a2 hts a5
          generalize jK s (jpos s i) = K at *
          generalize jV s (jpos s i) = V at *
          generalize tl s (jpos s i) = T at *
          have j2 : (2147483647 : Int) < (V : Int) := by omega
          go_wp2_with (first
            | (go_at_call 92; refine (H.out _).mono ?_; rintro e w' ⟨rfl, rfl⟩)
            | (refine wpList_store_rowTo rfl _ _ _ rfl rfl w.heap.size zeroImap rfl rfl 25 zeroImap HIi.out.res info_imap rfl hone0.out ?_))
          refine bodyPost_ret (results_cell_tmp_row rfl _ _ w.heap.size _ zeroImap (0, 0) _ rfl (row_set HIi.out.res) Try.underlying25 rfl info_imap) rfl ?_
          exact imrPost_bad F.out (below_setRow HIi.out.bel (Nat.le_refl _) _)
      · have hne : (jE s (jpos s i) != 0) = true := bne_iff_ne.2 hE
        have F := Lib.hid (hnot.out fun k => hE k.num)
        clear hnot hE
        generalize getV (bt (tl s (jpos s i))) (tl s (jpos s i)).size = V at *
        generalize getN (bt (tl s (jpos s i))) (tl s (jpos s i)).size = NN at *
        generalize jE s (jpos s i) = E at *
        generalize tl s (jpos s i) = T at *
        go_wp2_with (first
          | (go_at_call 92; refine (H.out _).mono ?_; rintro e w' ⟨rfl, rfl⟩)
          | (refine wpList_store_rowTo rfl _ _ _ rfl rfl w.heap.size zeroImap rfl rfl 25 zeroImap HIi.out.res info_imap rfl hone0.out ?_))
        refine bodyPost_ret (results_cell_tmp_row rfl _ _ w.heap.size _ zeroImap (0, 0) _ rfl (row_set HIi.out.res) Try.underlying25 rfl info_imap) rfl ?_
        exact imrPost_bad F.out (below_setRow HIi.out.bel (Nat.le_refl _) _)
    · obtain rfl : i = 48 := by omega
      have i1 : ¬ ((48 : Nat) : Int) < 48 := by omega
      have m0 : wr.cell? ⟨M, 0, none⟩ = some (.slice (some ⟨b, 0, none⟩) 48 48) := row_cell HIi.out.m 0
      have m1 : wr.cell? ⟨M, 1, none⟩ = some (.slice (some ⟨b', 0, none⟩) 48 48) := row_cell HIi.out.m 1
      obtain ⟨pe1, pe2⟩ := plF_end s
      have r1 := HIi.out.ats
      have r2 := HIi.out.gens
      rw [pe1] at r1
      rw [pe2] at r2
      have R1 := Lib.hid (r1.rows place_two2 (by omega))
      have R2 := Lib.hid (own_intsI r2)
      have H : Hid (Calls Try.prog 56 #[.agg #[.slice (some ⟨b, 0, none⟩) 48 48, .slice (some ⟨b', 0, none⟩) 48 48]] wr fun e w' => e = .returned (.int .i64 (impE (jPl s 48) (jGs s 48))) ∧ Below wr.heap.size wr w') := imapc_any _ _ _ _ _ _ _ _ wr R1.out R2.out
      clear r1 r2 pe1 pe2
      by_cases he : jpos s 48 = s.size
      · have hT : tl s (jpos s 48) = ⟨#[]⟩ := by rw [he]; unfold tl; apply ByteArray.ext; rw [ByteArray.data_extract]; apply Array.ext'; simp
        rw [hT]
        clear hT
        by_cases hE : impE (jPl s 48) (jGs s 48) = 0
        · have F := Lib.hid (imr_ok (s := s) ⟨HIi.out.all, he, hE⟩)
          rw [hE] at H
          clear hE
          go_wp2_with (first
            | (go_at_call 56; refine H.out.mono ?_; rintro e w3 ⟨rfl, hbc⟩; have hm3 := Lib.hid (row_below HIi.out.m (row_lt HIi.out.m) hbc); have hr3 := Lib.hid (row_below HIi.out.res (row_lt HIi.out.res) hbc); have k0 : w3.cell? ⟨M, 0, none⟩ = some (.slice (some ⟨b, 0, none⟩) 48 48) := row_cell hm3.out 0; have k1 : w3.cell? ⟨M, 1, none⟩ = some (.slice (some ⟨b', 0, none⟩) 48 48) := row_cell hm3.out 1; have HBC := Lib.hid hbc; clear hbc)
            | (refine wpList_store_rowTo rfl _ _ _ rfl rfl w.heap.size (imCells b b') rfl rfl 25 zeroImap hr3.out info_imap rfl (hone.out b b') ?_))
          refine bodyPost_ret (results_cell_tmp_row rfl _ _ w.heap.size _ (imCells b b') (0, 0) _ rfl (row_set hr3.out) Try.underlying25 rfl info_imap) rfl ?_
          have o1 := (HIi.out.ats.fresh_below HBC.out).setRow (b := w.heap.size) (by omega) (imCells b b')
          have o2 := (HIi.out.gens.fresh_below HBC.out).setRow (b := w.heap.size) (by omega) (imCells b b')
          rw [(plF_end s).1] at o1
          rw [(plF_end s).2] at o2
          exact ⟨some ⟨b, 0, none⟩, 48, 48, some ⟨b', 0, none⟩, 48, 48, by rw [F.out.1]; rfl, by rw [F.out.2.1]; exact o1.rows place_two2 (by omega), by rw [F.out.2.2]; exact own_intsI o2, below_setRow (HIi.out.bel.trans (HBC.out.mono HIi.out.bel.size)) (Nat.le_refl _) _⟩
        · have F : Hid (¬ ImrOk s) := fun k => hE k.right
          have hne : (impE (jPl s 48) (jGs s 48) != 0) = true := bne_iff_ne.2 hE
          generalize impE (jPl s 48) (jGs s 48) = ee at *
          clear hE
          go_wp2_with (first
            | (go_at_call 56; refine H.out.mono ?_; rintro e w3 ⟨rfl, hbc⟩; have hr3 := Lib.hid (row_below HIi.out.res (row_lt HIi.out.res) hbc); have HBC := Lib.hid hbc; clear hbc)
            | (refine wpList_store_rowTo rfl _ _ _ rfl rfl w.heap.size zeroImap rfl rfl 25 zeroImap hr3.out info_imap rfl hone0.out ?_))
          refine bodyPost_ret (results_cell_tmp_row rfl _ _ w.heap.size _ zeroImap (0, 0) _ rfl (row_set hr3.out) Try.underlying25 rfl info_imap) rfl ?_
          exact imrPost_bad F.out (below_setRow (HIi.out.bel.trans (HBC.out.mono HIi.out.bel.size)) (Nat.le_refl _) _)
      · have F : Hid (¬ ImrOk s) := fun k => he k.end_
        have hle := jpos_end HIi.out.all
        have hts := tl_size s (jpos s 48)
        generalize tl s (jpos s 48) = T at *
        have hT1 : T.toList ≠ [] := toList_ne (by omega)
        clear he hts
        go_wp2_with (refine wpList_store_rowTo rfl _ _ _ rfl rfl w.heap.size zeroImap rfl rfl 25 zeroImap HIi.out.res info_imap rfl hone0.out ?_)
        refine bodyPost_ret (results_cell_tmp_row rfl _ _ w.heap.size _ zeroImap (0, 0) _ rfl (row_set HIi.out.res) Try.underlying25 rfl info_imap) rfl ?_
        exact imrPost_bad F.out (below_setRow HIi.out.bel (Nat.le_refl _) _)
end Go.Proofs.Ytjmgocfoimhmjaa
