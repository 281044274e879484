/- linenref.ReadImap, walked. -/
import Derived.Test.YtjmgocfoimhmjaaImrV
import Derived.Test.YtjmgocfoimhmjaaTwo
import Derived.Deep.RegionLaw
namespace Go.Proofs.Ytjmgocfoimhmjaa
open Go.RowKit Go.PlainAid

structure ImqI (s : ByteArray) (w wr : World) (A A' : Option Addr) (c c' i : Nat) : Prop where
  all : ∀ j, j < i → JOk s (jpos s j)
  ats : Owns wr (w.heap.size + 2) 2 (.slice A i c) i ((jPl s i).flatMap PlaceD.cells)
  gens : Owns wr (w.heap.size + 2) 1 (.slice A' i c') i ((jGs s i).map (Value.int .i64))
  ap : Apart (.slice A' i c') (.slice A i c)
  m : wr.heap[w.heap.size + 1]? = some (.cells #[.slice A i c, .slice A' i c'] 25 (0, 0))
  res : wr.heap[w.heap.size]? = some (.cells zeroImap 25 (0, 0))
  bel : Below w.heap.size w wr
  sz : w.heap.size + 2 ≤ wr.heap.size
  le : i ≤ 48
  lp : jpos s i ≤ s.size
def strLen : Value → Nat
  | .string s => s.size
  | _ => 0
theorem ImqI.start (s : ByteArray) (w : World) : ImqI s w ((w.alloc (.cells zeroImap 25)).alloc (.cells zeroImap 25)) none none 0 0 0 :=
  ⟨fun j hj => by omega, Owns.nil _ _ _, Owns.nil _ _ _, Apart.nil _ _ _, by
    have := heap_alloc_new (w.alloc (.cells zeroImap 25)) (.cells zeroImap 25)
    rw [show (w.alloc (.cells zeroImap 25)).heap.size = w.heap.size + 1 by simp] at this
    exact this, (heap_alloc_old _ _ (by simp)).trans (heap_alloc_new w _), ((Below.refl _ _).alloc (Nat.le_refl _) _).alloc (by simp) _, by simp, by omega, by simp [jpos]⟩
theorem info_placeQ : (Try.prog.info? 27).map (fun i => (i.zero, i.size, i.bytes)) = some (some (.agg #[.int .i64 0, .int .i64 0]), 2, 16) := by kernel_rfl
theorem info_i64q : (Try.prog.info? 3).map (fun i => (i.zero, i.size, i.bytes)) = some (some (.int .i64 0), 1, 8) := by kernel_rfl

theorem imrPost_ok {s : ByteArray} {w w' : World} {A A' : Option Addr} {c c' : Nat} (h : ImrOk s) (r : RowsIn w' w'.heap.size A 48 c PlaceD.cells 2 (jPl s 48)) (r' : RowsIn w' w'.heap.size A' 48 c' (fun z => [.int .i64 z]) 1 (jGs s 48)) (hb : Below w.heap.size w w') : ImrPost s w (.returned (.tuple #[.agg #[.slice A 48 c, .slice A' 48 c'], .int .i64 0])) w' := by
  obtain ⟨a, b, d⟩ := imr_ok h
  exact ⟨A, 48, c, A', 48, c', by rw [a], by rw [b]; exact r, by rw [d]; exact r', hb⟩

set_option maxRecDepth 20000 in
set_option maxHeartbeats 4000000 in
theorem imq_any (s : ByteArray) (w : World) (hs : s.size ≤ 140737488351232) : Calls Try.prog 72 #[.string s] w (ImrPost s w) := by
  have hone0 : Hid ((zeroImap : Array Value).all (·.oneCell') = true) := by simp [Hid, Value.oneCell']
  have hone : Hid (∀ (A A' : Option Addr) (n c n' c' : Nat), ((#[.slice A n c, .slice A' n' c'] : Array Value).all (·.oneCell')) = true) := fun _ _ _ _ _ _ => by simp [Value.oneCell']
  have HI := Lib.hid (ImqI.start s w)
  go_enter Try.func72, Try.ntmps72
  go_wp2
  go_loopw [5] (fun v5 wr => ∃ (i : Nat) (A A' : Option Addr) (c c' : Nat), v5 = .string (tl s (jpos s i)) ∧ ImqI s w wr A A' c c' i) (fun v5 _ => strLen v5)
  case atStart => exact ⟨0, none, none, 0, 0, by rw [show jpos s 0 = 0 from rfl, tl_zero], HI.out⟩
  case round =>
    obtain ⟨i, A, A', c, c', rfl, hI⟩ := hrel
    have HIi := Lib.hid hI
    clear HI hI
    have hts := tl_size s (jpos s i)
    have hlp := HIi.out.lp
    have m0 : wr.cell? ⟨w.heap.size + 1, 0, none⟩ = some (.slice A i c) := row_cell HIi.out.m 0
    have m1 : wr.cell? ⟨w.heap.size + 1, 1, none⟩ = some (.slice A' i c') := row_cell HIi.out.m 1
    by_cases hlt : jpos s i < s.size
    · have hT1 : (!(tl s (jpos s i)).toList.isEmpty) = true := by have := toList_ne (T := tl s (jpos s i)) (by omega); simpa using this
      have hat := Lib.hid (fun k : ImrOk s => imr_at k hlt)
      have H : Hid (∀ W, Calls Try.prog 94 #[.string (tl s (jpos s i))] W fun e w' => e = .returned (.tuple #[.int .u64 (getV (bt (tl s (jpos s i))) (tl s (jpos s i)).size), .int .i64 (getN (bt (tl s (jpos s i))) (tl s (jpos s i)).size), .int .i64 (jE s (jpos s i))]) ∧ W = w') := fun W => getr_any _ W (by omega)
      by_cases hE : jE s (jpos s i) = 0
      · obtain ⟨a1, a2, a3, a4, a5⟩ := j_num hE
        rw [a1, a2, hE] at H
        by_cases hV : jV s (jpos s i) ≤ 2147483647
        · by_cases hf : jpos s i + jK s (jpos s i) + 2 ≤ s.size
          · by_cases hi48 : i = 48
            · subst hi48
              have F := Lib.hid (show ¬ ImrOk s from fun k => by have := (hat.out k).1; omega)
              have hsz : jK s (jpos s 48) + 2 ≤ (tl s (jpos s 48)).size := by omega
              clear hat hE hf a1 a2 hts a5 hlt hlp
              generalize jK s (jpos s 48) = K at *
              generalize jV s (jpos s 48) = V at *
              generalize tl s (jpos s 48) = T at *
              have j1 : (K : Int) + 2 ≤ (T.size : Int) := by omega
              have j2 : (V : Int) ≤ 2147483647 := by omega
              go_wp2_with (first
                | (go_at_call 94; refine (H.out _).mono ?_; rintro e w' ⟨rfl, rfl⟩)
                | (refine wpList_store_rowTo rfl _ _ _ rfl rfl w.heap.size zeroImap rfl rfl 25 zeroImap HIi.out.res info_imap rfl hone0.out ?_))
              refine bodyPost_ret (results_cell_tmp_row rfl _ _ w.heap.size _ zeroImap (0, 0) _ rfl (row_set HIi.out.res) Try.underlying25 rfl info_imap) rfl ?_
              exact imrPost_bad F.out (below_setRow HIi.out.bel (Nat.le_refl _) _)
            · have hi : i < 48 := by have := HIi.out.le; omega
              have hok : JOk s (jpos s i) := ⟨hE, hV, hf⟩
              have hx1 : bt (tl s (jpos s i)) (jK s (jpos s i)) = (jpl s (jpos s i)).Cell := bt_extract s _ _ _ (by omega) (Nat.le_refl _)
              have hx2 : bt (tl s (jpos s i)) (jK s (jpos s i) + 1) = (jpl s (jpos s i)).Nth := (bt_extract s _ _ _ (by omega) (Nat.le_refl _)).trans (by show bt s _ = bt s _; congr 1)
              have hgb := get_bt (tl s (jpos s i))
              have hp' : jpos s (i + 1) = jpos s i + (jK s (jpos s i) + 2) := rfl
              have htl : tl s (jpos s (i + 1)) = (tl s (jpos s i)).extract (jK s (jpos s i) + 2) (tl s (jpos s i)).size := by rw [tl_tl, hp']
              have HTL := Lib.hid htl
              have HOK := Lib.hid hok
              have HLP : Hid (jpos s (i + 1) ≤ s.size) := by simp only [Hid]; omega
              have HGS : Hid ((jGs s (i + 1)).map (Value.int .i64) = (jGs s i).map (Value.int .i64) ++ [.int .i64 (jV s (jpos s i))]) := by simp only [Hid]; rw [jGs_succ, List.map_append]; rfl
              have HPS : Hid ((jPl s (i + 1)).flatMap PlaceD.cells = (jPl s i).flatMap PlaceD.cells ++ [.int .i64 (jpl s (jpos s i)).Cell, .int .i64 (jpl s (jpos s i)).Nth]) := by simp only [Hid]; rw [jPl_succ, List.flatMap_append]; simp [PlaceD.cells]
              have b1 := bt_nonneg (tl s (jpos s i)) (jK s (jpos s i)); have b2 := bt_le (tl s (jpos s i)) (jK s (jpos s i))
              have b3 := bt_nonneg (tl s (jpos s i)) (jK s (jpos s i) + 1); have b4 := bt_le (tl s (jpos s i)) (jK s (jpos s i) + 1)
              have hix1 := run_idx (P := Try.prog) Try.underlying9 (tl s (jpos s i)) (jK s (jpos s i) : Int) (jK s (jpos s i)) _ rfl (by omega) (hgb (jK s (jpos s i)) (by omega))
              have hix2 := run_idx (P := Try.prog) Try.underlying9 (tl s (jpos s i)) ((jK s (jpos s i) : Int) + 1) (jK s (jpos s i) + 1) _ (by simp) (by omega) (hgb (jK s (jpos s i) + 1) (by omega))
              rw [hx1] at hix1 b1 b2
              rw [hx2] at hix2 b3 b4
              have hsz : jK s (jpos s i) + 2 ≤ (tl s (jpos s i)).size := by omega
              have hdec : (tl s (jpos s (i + 1))).size < (tl s (jpos s i)).size := by rw [tl_size, tl_size, hp']; omega
              have HDEC := Lib.hid hdec
              clear hE hok htl hx1 hx2 hgb hp' hf a1 a2 hts a5 hlt hat hdec hlp
              generalize (jpl s (jpos s i)).Cell = B1 at *
              generalize (jpl s (jpos s i)).Nth = B2 at *
              generalize jK s (jpos s i) = K at *
              generalize jV s (jpos s i) = V at *
              generalize tl s (jpos s i) = T at *
              have j1 : (K : Int) + 2 ≤ (T.size : Int) := by omega
              have j2 : (V : Int) ≤ 2147483647 := by omega
              have j3 : ((i : Int) == 48) = false := by rw [beq_eq_false_iff_ne]; omega
              have k1 : IntKind.i64.wrap ((K : Int) + 1) = (K : Int) + 1 := by rw [IntKind.wrap_i64]; omega
              have k3 : IntKind.i64.wrap B1 = B1 := by rw [IntKind.wrap_i64]; omega
              have k4 : IntKind.i64.wrap B2 = B2 := by rw [IntKind.wrap_i64]; omega
              have HIX := Lib.hid (And.intro hix1 (And.intro hix2 (And.intro k1 (And.intro k3 k4))))
              have hszw := HIi.out.sz
              have f1 := row_cold HIi.out.m 1
              have G2 : Hid (∀ u ∈ (#[.int .i64 B1, .int .i64 B2] : Array Value).toList, u.oneCell' = true) := by simp [Hid, Value.oneCell']
              have G3 : Hid (i + 1 ≤ maxLen ∧ (i + 1) * 16 ≤ 140737488355328) := by unfold maxLen Hid; omega
              have G4 : Hid (0 < 2) := by simp [Hid]
              clear hix1 hix2 k1 k3 k4
              go_wp2_with (first
                | (go_at_call 94; refine (H.out _).mono ?_; rintro e w' ⟨rfl, rfl⟩)
                | (at_builtin; refine wpList_add1 rfl rfl Try.underlying23 info_i64q rfl (Nat.le_refl 1) HIi.out.gens rfl hszw rfl rfl rfl ?_ ?_ ?_ ?_; simp [Value.oneCell']; (unfold maxLen; omega); omega; intro A3 c3 w3 hown3 hl3 hbk3; have hm3 := row_left HIi.out.m hl3 (fun e => by have := (HIi.out.gens.lt _ e).1; omega); have g0 : w3.cell? ⟨w.heap.size + 1, 0, none⟩ = some (.slice A i c) := row_cell hm3 0; have g1 : w3.cell? ⟨w.heap.size + 1, 1, none⟩ = some (.slice A' i c') := row_cell hm3 1; have g2 := row_cold hm3 1))
              have ho4 := Lib.hid (hown3.setOther (p := ⟨w.heap.size + 1, 1, none⟩) (fun e => by have e2 : w.heap.size + 2 ≤ w.heap.size + 1 := (hown3.lt _ e).1; omega) (.slice A3 (i + 1) c3))
              have ha3 := HIi.out.ats.apart hl3 HIi.out.ap
              have ha4 := Lib.hid (ha3.setOther (p := ⟨w.heap.size + 1, 1, none⟩) (fun e => by have e2 : w.heap.size + 2 ≤ w.heap.size + 1 := (ha3.lt _ e).1; omega) (.slice A3 (i + 1) c3))
              have hap4 := Lib.hid (HIi.out.ap.grow hbk3 (fun g e => (HIi.out.ats.lt g e).2))
              have hm4 := Lib.hid (row_store (j := 1) (v := .slice A3 (i + 1) c3) hm3)
              have hr4 := Lib.hid (row_other (a := ⟨w.heap.size + 1, 1, none⟩) (v := .slice A3 (i + 1) c3) (row_left HIi.out.res hl3 (fun e => by have := (HIi.out.gens.lt _ e).1; omega)) (show w.heap.size ≠ w.heap.size + 1 by omega))
              have hb4 : Hid (Below w.heap.size w (w3.setCell ⟨w.heap.size + 1, 1, none⟩ (.slice A3 (i + 1) c3))) := (hl3.below (by omega) HIi.out.bel).setCell (by simp) _
              have hz4 : w.heap.size + 2 ≤ (w3.setCell ⟨w.heap.size + 1, 1, none⟩ (.slice A3 (i + 1) c3)).heap.size := by have := hl3.size; simp [World.setCell]; omega
              clear hown3 hl3 hbk3 hm3 g0 g1 g2 ha3 m0 m1 f1 hszw
              generalize w3.setCell ⟨w.heap.size + 1, 1, none⟩ (.slice A3 (i + 1) c3) = W4 at *
              generalize hU : (jPl s i).flatMap PlaceD.cells = U at *
              have HALL := Lib.hid HIi.out.all
              have GO : Hid (Owns (W4.alloc (.cells #[.int .i64 B1, .int .i64 B2] 27)).drew (w.heap.size + 2) 2 (.slice A i c) i U) := (ha4.out.alloc _).drew
              have GG : Hid (Owns (W4.alloc (.cells #[.int .i64 B1, .int .i64 B2] 27)).drew (w.heap.size + 2) 1 (.slice A3 (i + 1) c3) (i + 1) ((jGs s i).map (Value.int .i64) ++ [.int .i64 (V : Int)])) := (ho4.out.alloc _).drew
              have GB : Hid (w.heap.size + 2 ≤ (W4.alloc (.cells #[.int .i64 B1, .int .i64 B2] 27)).drew.heap.size) := by simp [Hid]; omega
              have GH : Hid ((W4.alloc (.cells #[.int .i64 B1, .int .i64 B2] 27)).drew.heap[W4.heap.size]? = some (.cells #[.int .i64 B1, .int .i64 B2] 27)) := heap_alloc_new W4 _
              have GR : Hid ((W4.alloc (.cells #[.int .i64 B1, .int .i64 B2] 27)).drew.heap[w.heap.size + 1]? = some (.cells #[.slice A i c, .slice A3 (i + 1) c3] 25)) := row_alloc hm4.out _
              have GR0 : Hid ((W4.alloc (.cells #[.int .i64 B1, .int .i64 B2] 27)).drew.heap[w.heap.size]? = some (.cells zeroImap 25)) := row_alloc hr4.out _
              have GZ : Hid (Below w.heap.size w (W4.alloc (.cells #[.int .i64 B1, .int .i64 B2] 27)).drew) := (hb4.out.alloc (by omega) _).drew
              have N1 : Hid (Value.ownBlock (.slice A i c) ≠ some (w.heap.size + 1)) := fun e => by have := (ha4.out.lt _ e).1; omega
              have N0 : Hid (Value.ownBlock (.slice A i c) ≠ some w.heap.size) := fun e => by have := (ha4.out.lt _ e).1; omega
              have m0 : W4.cell? ⟨w.heap.size + 1, 0, none⟩ = some (.slice A i c) := row_cell hm4.out 0
              have hlt4 : w.heap.size + 1 < W4.heap.size := by omega
              have m0' : (W4.alloc (.cells #[.int .i64 B1, .int .i64 B2] 27)).cell? ⟨w.heap.size + 1, 0, none⟩ = some (.slice A i c) := row_cell GR.out 0
              obtain ⟨hix1, hix2, k1, k3, k4⟩ := HIX.out
              clear ho4 ha4 hm4 hr4 hb4 HIi H
              go_region_law (first
                | (refine step_app1 (P := Try.prog) (e := 27) (z := .agg #[.int .i64 0, .int .i64 0]) (size := 2) (bytes := 16) (base := w.heap.size + 2) rfl (.tmp 46) (.tmp 57) 22 rfl Try.underlying22 info_placeQ rfl G4.out A i c U rfl GO.out GB.out W4.heap.size 1 #[.int .i64 B1, .int .i64 B2] 27 rfl GH.out rfl G2.out G3.out.1 G3.out.2 ?_; intro A5 c5 w5 hown5 hl5 hn5; have hq1 := row_left GR.out hl5 N1.out; have hq := row_cell hq1 0; have hf := row_cold hq1 0; simp only [List.getElem?_toArray, List.getElem?_cons_zero] at hq))
              all_goals
                have o5 := hown5.setOther (p := ⟨w.heap.size + 1, 0, none⟩) (fun e => by have e2 : w.heap.size + 2 ≤ w.heap.size + 1 := (hown5.lt _ e).1; omega) (.slice A5 (i + 1) c5)
                have g5 := GG.out.apart hl5 hap4.out.symm
                have g6 := g5.setOther (p := ⟨w.heap.size + 1, 0, none⟩) (fun e => by have e2 : w.heap.size + 2 ≤ w.heap.size + 1 := (g5.lt _ e).1; omega) (.slice A5 (i + 1) c5)
                have HN : Hid (ImqI s w (w5.setCell ⟨w.heap.size + 1, 0, none⟩ (.slice A5 (i + 1) c5)) A5 A3 c5 c3 (i + 1)) := ⟨fun j hj => by
                  by_cases e : j = i
                  · subst e; exact HOK.out
                  · exact HALL.out j (by omega), by rw [HPS.out]; exact o5, by rw [HGS.out]; exact g6, (hap4.out.symm.grow hn5 (fun g e => (GG.out.lt g e).2)).symm, row_store (j := 0) (v := .slice A5 (i + 1) c5) hq1, row_other (a := ⟨w.heap.size + 1, 0, none⟩) (v := .slice A5 (i + 1) c5) (row_left GR0.out hl5 N0.out) (show w.heap.size ≠ w.heap.size + 1 by omega), (hl5.below (by omega) GZ.out).setCell (by simp) _, by have h1 := hl5.size; have h2 := GB.out; simp [World.setCell] at *; omega, by omega, HLP.out⟩
                clear hq hf hq1 hl5 hown5 hn5 o5 g5 g6 GO GB GH GR GR0 GZ GG
                generalize w5.setCell ⟨w.heap.size + 1, 0, none⟩ (.slice A5 (i + 1) c5) = w6 at *
                clear hix1 hix2 k1 k3 k4
                go_wp2
                refine ⟨⟨i + 1, A5, A3, c5, c3, by rw [HTL.out], HN.out⟩, ?_⟩
                rw [← HTL.out]; exact HDEC.out
          · have F := Lib.hid (show ¬ ImrOk s from fun k => hf (hat.out k).2.fits)
            have hsz : ¬ jK s (jpos s i) + 2 ≤ (tl s (jpos s i)).size := by omega
            clear hat hE hf a1 a2 hts a5 hlt hlp
            generalize jK s (jpos s i) = K at *
            generalize jV s (jpos s i) = V at *
            generalize tl s (jpos s i) = T at *
            have j1 : (T.size : Int) < (K : Int) + 2 := by omega
            have j2 : (V : Int) ≤ 2147483647 := by omega
            go_wp2_with (first
              | (go_at_call 94; refine (H.out _).mono ?_; rintro e w' ⟨rfl, rfl⟩)
              | (refine wpList_store_rowTo rfl _ _ _ rfl rfl w.heap.size zeroImap rfl rfl 25 zeroImap HIi.out.res info_imap rfl hone0.out ?_))
            refine bodyPost_ret (results_cell_tmp_row rfl _ _ w.heap.size _ zeroImap (0, 0) _ rfl (row_set HIi.out.res) Try.underlying25 rfl info_imap) rfl ?_
            exact imrPost_bad F.out (below_setRow HIi.out.bel (Nat.le_refl _) _)
        · have F := Lib.hid (show ¬ ImrOk s from fun k => hV (hat.out k).2.top)
          clear hat hE a1 a2 hts a5 hlt hlp
          generalize jK s (jpos s i) = K at *
          generalize jV s (jpos s i) = V at *
          generalize tl s (jpos s i) = T at *
          have j2 : (2147483647 : Int) < (V : Int) := by omega
          go_wp2_with (first
            | (go_at_call 94; refine (H.out _).mono ?_; rintro e w' ⟨rfl, rfl⟩)
            | (refine wpList_store_rowTo rfl _ _ _ rfl rfl w.heap.size zeroImap rfl rfl 25 zeroImap HIi.out.res info_imap rfl hone0.out ?_))
          refine bodyPost_ret (results_cell_tmp_row rfl _ _ w.heap.size _ zeroImap (0, 0) _ rfl (row_set HIi.out.res) Try.underlying25 rfl info_imap) rfl ?_
          exact imrPost_bad F.out (below_setRow HIi.out.bel (Nat.le_refl _) _)
      · have hne : (jE s (jpos s i) != 0) = true := bne_iff_ne.2 hE
        have F := Lib.hid (show ¬ ImrOk s from fun k => hE (hat.out k).2.num)
        clear hat hE hts hlt hlp
        generalize getV (bt (tl s (jpos s i))) (tl s (jpos s i)).size = V at *
        generalize getN (bt (tl s (jpos s i))) (tl s (jpos s i)).size = NN at *
        generalize jE s (jpos s i) = E at *
        generalize tl s (jpos s i) = T at *
        go_wp2_with (first
          | (go_at_call 94; refine (H.out _).mono ?_; rintro e w' ⟨rfl, rfl⟩)
          | (refine wpList_store_rowTo rfl _ _ _ rfl rfl w.heap.size zeroImap rfl rfl 25 zeroImap HIi.out.res info_imap rfl hone0.out ?_))
        refine bodyPost_ret (results_cell_tmp_row rfl _ _ w.heap.size _ zeroImap (0, 0) _ rfl (row_set HIi.out.res) Try.underlying25 rfl info_imap) rfl ?_
        exact imrPost_bad F.out (below_setRow HIi.out.bel (Nat.le_refl _) _)
    · have he : jpos s i = s.size := by omega
      have hT : tl s (jpos s i) = ⟨#[]⟩ := by rw [he]; unfold tl; apply ByteArray.ext; rw [ByteArray.data_extract]; apply Array.ext'; simp
      rw [hT]
      have HIFF := Lib.hid (imr_iff HIi.out.all he)
      have hlt1 : w.heap.size < wr.heap.size := by have := HIi.out.sz; omega
      have H : Hid (Calls Try.prog 17 #[.agg #[.slice A i c, .slice A' i c']] wr fun e w' => e = .returned (.int .i64 (impE (jPl s i) (jGs s i))) ∧ Below wr.heap.size wr w') := imapr_any _ _ _ _ _ _ _ _ wr (HIi.out.ats.rows place_two2 (by omega)) (own_intsI HIi.out.gens)
      have HE := Lib.hid he
      clear hT hts hlt hlp
      by_cases hE : impE (jPl s i) (jGs s i) = 0
      · have hok := HIFF.out.2 hE
        have HI48 : Hid (i = 48) := jpos_inj (he.trans hok.end_.symm)
        have hok2 := Lib.hid hok
        rw [hE] at H
        clear hE hok he
        go_wp2_with (first
          | (go_at_call 17; refine H.out.mono ?_; rintro e w3 ⟨rfl, hbc⟩; have hm3 := Lib.hid (row_below HIi.out.m (row_lt HIi.out.m) hbc); have hr3 := Lib.hid (row_below HIi.out.res (row_lt HIi.out.res) hbc); have k0 : w3.cell? ⟨w.heap.size + 1, 0, none⟩ = some (.slice A i c) := row_cell hm3.out 0; have k1 : w3.cell? ⟨w.heap.size + 1, 1, none⟩ = some (.slice A' i c') := row_cell hm3.out 1; have HBC := Lib.hid hbc; clear hbc)
          | (refine wpList_store_rowTo rfl _ _ _ rfl rfl w.heap.size #[.slice A i c, .slice A' i c'] rfl rfl 25 zeroImap hr3.out info_imap rfl (hone.out A A' i c i c') ?_))
        refine bodyPost_ret (results_cell_tmp_row rfl _ _ w.heap.size _ #[.slice A i c, .slice A' i c'] (0, 0) _ rfl (row_set hr3.out) Try.underlying25 rfl info_imap) rfl ?_
        have o1 := (HIi.out.ats.fresh_below HBC.out).setRow (b := w.heap.size) (by omega) #[.slice A i c, .slice A' i c']
        have o2 := (HIi.out.gens.fresh_below HBC.out).setRow (b := w.heap.size) (by omega) #[.slice A i c, .slice A' i c']
        have G := HBC.out
        have P := HIi.out.bel
        have hi48 := HI48.out
        clear HIi HBC hm3 hr3 k0 k1 H HIFF m0 m1 HI48
        subst hi48
        exact imrPost_ok hok2.out (o1.rows place_two2 (by omega)) (own_intsI o2) (below_setRow (P.trans (G.mono P.size)) (Nat.le_refl _) _)
      · have F : Hid (¬ ImrOk s) := fun k => hE (HIFF.out.1 k)
        have hne : (impE (jPl s i) (jGs s i) != 0) = true := bne_iff_ne.2 hE
        generalize impE (jPl s i) (jGs s i) = ee at *
        clear hE he
        go_wp2_with (first
          | (go_at_call 17; refine H.out.mono ?_; rintro e w3 ⟨rfl, hbc⟩; have hr3 := Lib.hid (row_below HIi.out.res (row_lt HIi.out.res) hbc); have HBC := Lib.hid hbc; clear hbc)
          | (refine wpList_store_rowTo rfl _ _ _ rfl rfl w.heap.size zeroImap rfl rfl 25 zeroImap hr3.out info_imap rfl hone0.out ?_))
        refine bodyPost_ret (results_cell_tmp_row rfl _ _ w.heap.size _ zeroImap (0, 0) _ rfl (row_set hr3.out) Try.underlying25 rfl info_imap) rfl ?_
        exact imrPost_bad F.out (below_setRow (HIi.out.bel.trans (HBC.out.mono HIi.out.bel.size)) (Nat.le_refl _) _)
end Go.Proofs.Ytjmgocfoimhmjaa
