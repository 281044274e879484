/- use.Inode, walked. -/
import Derived.Test.YtjmgocfoimhmjaaUiL
namespace Go.Proofs.Ytjmgocfoimhmjaa
open Go.RowKit

set_option maxRecDepth 20000 in
set_option maxHeartbeats 16000000 in
theorem usei_any (A : Option Addr) (n c : Nat) (cs : List ByteArray) (A' : Option Addr) (n' c' : Nat) (ws : List PutD) (Am : Option Addr) (nm cm : Nat) (xs : List PlaceD) (Ag : Option Addr) (ng cg : Nat) (gs : List Int) (k : Nat) (pc pn g : Int) (w : World) (r : RowsIn w w.heap.size A n c (fun z => [.string z]) 1 cs) (r' : RowsIn w w.heap.size A' n' c' PutD.cells 2 ws) (rm : RowsIn w w.heap.size Am nm cm PlaceD.cells 2 xs) (rg : RowsIn w w.heap.size Ag ng cg (fun z => [.int .i64 z]) 1 gs) (hd : dskE cs ws = 0) (hp : xs[k]? = some ⟨pc, pn⟩) (hg : gs[k]? = some g) :
    Calls Try.prog 76 #[.agg #[.slice A n c, .slice A' n' c'], .agg #[.slice Am nm cm, .slice Ag ng cg], .int .i64 k] w (InPost cs ws k ⟨pc, pn⟩ g w) := by
  have hlen := r.len
  subst hlen
  have hlen' := r'.len
  subst hlen'
  have hlenm := rm.len
  subst hlenm
  have hleng := rg.len
  subst hleng
  obtain ⟨wa, hwa⟩ : ∃ wa, wa = ((w.alloc (.cells #[.slice A cs.length c, .slice A' ws.length c'] 41)).alloc (.cells #[.slice Am xs.length cm, .slice Ag gs.length cg] 25)).alloc (.cells zeroIno 116) := ⟨_, rfl⟩
  obtain ⟨hza, hba⟩ := new3n w (.cells #[.slice A cs.length c, .slice A' ws.length c'] 41) (.cells #[.slice Am xs.length cm, .slice Ag gs.length cg] 25) (.cells zeroIno 116)
  obtain ⟨hrb, hrm, hra⟩ := new3 w (.cells #[.slice A cs.length c, .slice A' ws.length c'] 41) (.cells #[.slice Am xs.length cm, .slice Ag gs.length cg] 25) (.cells zeroIno 116)
  rw [← hwa] at hza hba hrb hrm hra
  have hle := hba.size
  have RA := Lib.hid ((r.below hba).more hle)
  have RA' := Lib.hid ((r'.below hba).more hle)
  have i1 : (k : Int) < (xs.length : Int) := by have := (List.getElem?_eq_some_iff.1 hp).1; omega
  have i2 : (k : Int) < (gs.length : Int) := by have := (List.getElem?_eq_some_iff.1 hg).1; omega
  obtain ⟨bm, om, rfl, hbm, hcm⟩ := (rm.below hba).at_ k _ hp
  obtain ⟨bg, og, rfl, hbg, hcg⟩ := (rg.below hba).one hg
  have hp0 : wa.cell? ⟨bm, om + k * 2, none⟩ = some (.int .i64 pc) := by simpa using hcm 0 _ rfl
  have hp1 : wa.cell? ⟨bm, om + k * 2 + 1, none⟩ = some (.int .i64 pn) := hcm 1 _ rfl
  have HC : Hid (∀ W, Below wa.heap.size wa W → W.cell? ⟨w.heap.size, 0, none⟩ = some (.slice A cs.length c) ∧ W.cell? ⟨w.heap.size, 1, none⟩ = some (.slice A' ws.length c') ∧ W.cell? ⟨w.heap.size + 1, 0, none⟩ = some (.slice (some ⟨bm, om, none⟩) xs.length cm) ∧ W.cell? ⟨w.heap.size + 1, 1, none⟩ = some (.slice (some ⟨bg, og, none⟩) gs.length cg) ∧ W.cell? ⟨bm, om + k * 2, none⟩ = some (.int .i64 pc) ∧ W.cell? ⟨bm, om + k * 2 + 1, none⟩ = some (.int .i64 pn) ∧ W.cell? ⟨bg, og + k, none⟩ = some (.int .i64 g) ∧ Hid (W.heap[w.heap.size + 1 + 1]? = some (.cells zeroIno 116 (0, 0)))) := fun W h => by
    have q0 := row_below hrb (row_lt hrb) h
    have q1 := row_below hrm (row_lt hrm) h
    exact ⟨row_cell q0 0, row_cell q0 1, row_cell q1 0, row_cell q1 1, (h.cell (p := ⟨bm, om + k * 2, none⟩) (by simp only; omega)).trans hp0, (h.cell (p := ⟨bm, om + k * 2 + 1, none⟩) (by simp only; omega)).trans hp1, (h.cell (p := ⟨bg, og + k, none⟩) (by simp only; omega)).trans hcg, row_below hra (row_lt hra) h⟩
  have HUB : Hid (∀ W, Below wa.heap.size wa W → Calls Try.prog 74 #[.agg #[.slice A cs.length c, .slice A' ws.length c'], .agg #[.int .i64 pc, .int .i64 pn]] W fun e w' => ∃ _ : Unit, e = .returned (.tuple #[.agg #[.int .i64 (ubB cs ws pc pn).Kind, .int .i64 (ubB cs ws pc pn).Ino, .int .i64 (ubB cs ws pc pn).Nth, .string (ubB cs ws pc pn).Text], .int .i64 (ubE cs ws pc pn)]) ∧ Below W.heap.size W w') := fun W h => calls_ub (useb_any A _ c cs A' _ c' ws pc pn W ((RA.out.below h).more h.size) ((RA'.out.below h).more h.size) (dsk_zero hd).2.2.2.2)
  have HIR : Hid (∀ W, Calls Try.prog 100 #[.string (ubB cs ws pc pn).Text] W fun e w' => ∃ A n c, e = .returned (.tuple #[.agg #[.int .i64 (irK (ubB cs ws pc pn).Text), .int .i64 (irG (ubB cs ws pc pn).Text), .int .i64 (irS (ubB cs ws pc pn).Text), .slice A n c], .int .i64 (irE (ubB cs ws pc pn).Text)]) ∧ RowsIn w' w'.heap.size A n c PlaceD.cells 2 (irP (ubB cs ws pc pn).Text) ∧ Below W.heap.size W w' ∧ (∀ a, A = some a → W.heap.size ≤ a.block)) := fun W => iread_fresh _ W (by have := ubB_size hd pc pn; omega)
  have hone0 : Hid ((zeroIno : Array Value).all (·.oneCell') = true) := by simp [Hid, Value.oneCell']
  have HNO : Hid (¬ (ubE cs ws pc pn = 0 ∧ (ubB cs ws pc pn).Kind = 2 ∧ (ubB cs ws pc pn).Ino = k ∧ irE (ubB cs ws pc pn).Text = 0 ∧ irG (ubB cs ws pc pn).Text = g) → ∀ w', Below w.heap.size w w' → InPost cs ws k ⟨pc, pn⟩ g w (.returned (.tuple #[.agg zeroIno, .string ⟨#[]⟩, .int .i64 18])) w') := fun h w' hb => .inr ⟨h, rfl, hb⟩
  have HYES : Hid ((ubE cs ws pc pn = 0 ∧ (ubB cs ws pc pn).Kind = 2 ∧ (ubB cs ws pc pn).Ino = k ∧ irE (ubB cs ws pc pn).Text = 0 ∧ irG (ubB cs ws pc pn).Text = g) → ∀ (K G S : Int) (D : Option Addr) (q d : Nat) (w' : World), RowsIn w' w'.heap.size D q d PlaceD.cells 2 (irP (ubB cs ws pc pn).Text) → Below w.heap.size w w' → (∀ a, D = some a → w.heap.size ≤ a.block) → InPost cs ws k ⟨pc, pn⟩ g w (.returned (.tuple #[.agg #[.int .i64 K, .int .i64 G, .int .i64 S, .slice D q d], .string (ubB cs ws pc pn).Text, .int .i64 0])) w') := fun h K G S D q d w' hr hb hf => .inl ⟨h, K, G, S, D, q, d, rfl, hr, hb, hf⟩
  have HWA := Lib.hid hwa
  have HBA := Lib.hid hba
  have HZA := Lib.hid hza
  clear r r' rm rg hwa hba hza hrb hrm hra hle hd hp hg hcm hcg hp0 hp1 hbm hbg
  generalize ubE cs ws pc pn = E at *
  generalize ubB cs ws pc pn = B at *
  obtain ⟨bk, bi, bn, bt⟩ := B
  simp only at HUB HIR HNO HYES
  generalize irE bt = ie at *
  generalize irG bt = ig at *
  generalize irK bt = ik at *
  generalize irS bt = is at *
  generalize irP bt = ip at *
  go_enter Try.func76, Try.ntmps76
  go_wp2
  rw [← HWA.out]
  obtain ⟨v0, v1, v2, v3, v4, v5, v6, v7⟩ := HC.out wa (Below.refl _ _)
  obtain ⟨y0, y1, y2, y3, y4, y5, y6, y7⟩ := HC.out (wa.alloc (.cells zeroBlR 71)) ((Below.refl _ _).alloc (Nat.le_refl _) _)
  have HBZ : Hid (Below wa.heap.size wa (wa.alloc (.cells zeroBlR 71)).drew) := ((Below.refl _ _).alloc (Nat.le_refl _) _).drew
  have HZZ : Hid (wa.heap.size < (wa.alloc (.cells zeroBlR 71)).drew.heap.size) := by simp only [Hid]; show wa.heap.size < (wa.alloc (.cells zeroBlR 71)).heap.size; simp
  go_cut [9, 10] (fun s9 s10 wx => UiI 71 (w.heap.size + 3) ⟨bk, bi, bn, bt⟩ E wa s9 s10 wx)
  case first =>
    go_region_law (first
      | (refine step_enterc rfl 74 rfl #[.agg #[.slice A cs.length c, .slice A' ws.length c'], .agg #[.int .i64 pc, .int .i64 pn]] (fun _ : Unit => Value.tuple #[.agg #[.int .i64 bk, .int .i64 bi, .int .i64 bn, .string bt], .int .i64 E]) (by simp [go_sem]) (HUB.out wa.drew (Below.refl _ _).drew) ?_; rintro ⟨⟩ w2 hb2; have hnew := heap_alloc_new w2 (.cells zeroBlR 71); have u0 : (w2.alloc (.cells zeroBlR 71)).cell? ⟨w2.heap.size, 0, none⟩ = some (.int .i64 0) := row_cell hnew 0; have u1 : (w2.alloc (.cells zeroBlR 71)).cell? ⟨w2.heap.size, 1, none⟩ = some (.int .i64 0) := row_cell hnew 1; have u2 : (w2.alloc (.cells zeroBlR 71)).cell? ⟨w2.heap.size, 2, none⟩ = some (.int .i64 0) := row_cell hnew 2; have u3 : (w2.alloc (.cells zeroBlR 71)).cell? ⟨w2.heap.size, 3, none⟩ = some (.string ⟨#[]⟩) := row_cell hnew 3; have u4 := row_cold hnew 0; have u5 := row_cold hnew 1; have u6 := row_cold hnew 2; have u7 := row_cold hnew 3)
      | (refine step_enterc rfl 74 rfl #[.agg #[.slice A cs.length c, .slice A' ws.length c'], .agg #[.int .i64 pc, .int .i64 pn]] (fun _ : Unit => Value.tuple #[.agg #[.int .i64 bk, .int .i64 bi, .int .i64 bn, .string bt], .int .i64 E]) (by simp [go_sem]) (HUB.out (wa.alloc (.cells zeroBlR 71)).drew HBZ.out) ?_; rintro ⟨⟩ w2 hb2; have hM := row_below (w := (wa.alloc (.cells zeroBlR 71)).drew) (heap_alloc_new wa _) HZZ.out hb2; have u0 : w2.cell? ⟨wa.heap.size, 0, none⟩ = some (.int .i64 0) := row_cell hM 0; have u1 : w2.cell? ⟨wa.heap.size, 1, none⟩ = some (.int .i64 0) := row_cell hM 1; have u2 : w2.cell? ⟨wa.heap.size, 2, none⟩ = some (.int .i64 0) := row_cell hM 2; have u3 : w2.cell? ⟨wa.heap.size, 3, none⟩ = some (.string ⟨#[]⟩) := row_cell hM 3; have u4 := row_cold hM 0; have u5 := row_cold hM 1; have u6 := row_cold hM 2; have u7 := row_cold hM 3))
    all_goals
      go_wp2_with fail
      go_meet
      case rel => first | exact ui_old (b := ⟨bk, bi, bn, bt⟩) hM hb2 HZA.out | exact ui_new (b := ⟨bk, bi, bn, bt⟩) hb2 HZA.out
  case rest =>
    obtain ⟨M, rfl, rfl, hlo, HM, HB⟩ := hcut
    obtain ⟨w3, rfl⟩ : ∃ z : World, z = wc := ⟨_, rfl⟩
    clear v0 v1 v2 v3 v4 v5 v6 v7 y0 y1 y2 y3 y4 y5 y6 y7
    obtain ⟨_, _, _, v3, _, _, v6, v7⟩ := HC.out w3 HB.out
    have b0 : w3.cell? ⟨M, 0, none⟩ = some (.int .i64 bk) := row_cell HM.out 0
    have b1 : w3.cell? ⟨M, 1, none⟩ = some (.int .i64 bi) := row_cell HM.out 1
    have b3 : w3.cell? ⟨M, 3, none⟩ = some (.string bt) := row_cell HM.out 3
    by_cases hE : E = 0
    · subst hE
      by_cases hk2 : bk = 2
      · subst hk2
        by_cases hbi : bi = k
        · subst hbi
          go_wp2_with (go_at_call 100; refine (HIR.out _).mono ?_; rintro e w4 ⟨D, q, d, rfl, r4, hb4, hf4⟩; have HM4 := Lib.hid (row_below HM.out (row_lt HM.out) hb4); have HB4 := Lib.hid (HB.out.trans (hb4.mono HB.out.size)); have R4 := Lib.hid r4; have HF4 := Lib.hid hf4; have HZ4 : Hid (w3.heap.size ≤ w4.heap.size) := hb4.size; clear hb4 r4 hf4)
          have HT5 := Lib.hid (heap_alloc_new w4 (.cells #[.int .i64 ik, .int .i64 ig, .int .i64 is, .slice D q d] 116))
          have HM5 := Lib.hid (row_alloc HM4.out (.cells #[.int .i64 ik, .int .i64 ig, .int .i64 is, .slice D q d] 116))
          have HB5 := Lib.hid (HB4.out.alloc HB4.out.size (.cells #[.int .i64 ik, .int .i64 ig, .int .i64 is, .slice D q d] 116))
          have R5 := Lib.hid (carry_new R4.out (.cells #[.int .i64 ik, .int .i64 ig, .int .i64 is, .slice D q d] 116))
          clear v3 v6 v7 b0 b1 b3 R4 HM4 HB4
          generalize w4.alloc (.cells #[.int .i64 ik, .int .i64 ig, .int .i64 is, .slice D q d] 116) = w5 at *
          obtain ⟨_, _, _, v3, _, _, v6, v7⟩ := HC.out w5 HB5.out
          have t0 : w5.cell? ⟨w4.heap.size, 0, none⟩ = some (.int .i64 ik) := row_cell HT5.out 0
          have t1 : w5.cell? ⟨w4.heap.size, 1, none⟩ = some (.int .i64 ig) := row_cell HT5.out 1
          have t2 : w5.cell? ⟨w4.heap.size, 2, none⟩ = some (.int .i64 is) := row_cell HT5.out 2
          have t3 : w5.cell? ⟨w4.heap.size, 3, none⟩ = some (.slice D q d) := row_cell HT5.out 3
          have b3 : w5.cell? ⟨M, 3, none⟩ = some (.string bt) := row_cell HM5.out 3
          by_cases hie : ie = 0
          · subst hie
            by_cases hig : ig = g
            · subst hig
              have HYES' := Lib.hid (HYES.out (by simp))
              go_quiet (fail)
              obtain ⟨w6, hw6⟩ : ∃ z, z = w5.drewN nq := ⟨_, rfl⟩
              have v8 : w6.heap[w.heap.size + 1 + 1]? = some (.cells zeroIno 116 (0, 0)) := by rw [hw6]; exact v7.out
              have HT6 : Hid (w6.heap[w4.heap.size]? = some (.cells #[.int .i64 ik, .int .i64 ig, .int .i64 is, .slice D q d] 116 (0, 0))) := by rw [hw6]; exact HT5.out
              have HM6 : Hid (w6.heap[M]? = some (.cells #[.int .i64 2, .int .i64 k, .int .i64 bn, .string bt] 71 (0, 0))) := by rw [hw6]; exact HM5.out
              have HB6 : Hid (Below wa.heap.size wa w6) := by rw [hw6]; exact below_dN HB5.out nq
              have R6 : Hid (RowsIn w6 w6.heap.size D q d PlaceD.cells 2 ip) := by rw [hw6]; exact R5.out.drewN nq
              rw [← hw6]
              clear hw6 t0 t1 t2 t3 b3 v3 v6
              have HV8 := Lib.hid v8
              have t0 : w6.cell? ⟨w4.heap.size, 0, none⟩ = some (.int .i64 ik) := row_cell HT6.out 0
              have t1 : w6.cell? ⟨w4.heap.size, 1, none⟩ = some (.int .i64 ig) := row_cell HT6.out 1
              have t2 : w6.cell? ⟨w4.heap.size, 2, none⟩ = some (.int .i64 is) := row_cell HT6.out 2
              have t3 : w6.cell? ⟨w4.heap.size, 3, none⟩ = some (.slice D q d) := row_cell HT6.out 3
              have b3 : w6.cell? ⟨M, 3, none⟩ = some (.string bt) := row_cell HM6.out 3
              have l0 : w6.cell? ⟨w.heap.size + 1 + 1, 0, none⟩ = some (.int .i64 0) := row_cell v8 0
              have l1 : w6.cell? ⟨w.heap.size + 1 + 1, 1, none⟩ = some (.int .i64 0) := row_cell v8 1
              have l2 : w6.cell? ⟨w.heap.size + 1 + 1, 2, none⟩ = some (.int .i64 0) := row_cell v8 2
              have l3 : w6.cell? ⟨w.heap.size + 1 + 1, 3, none⟩ = some (.slice none 0 0) := row_cell v8 3
              have l4 := row_cold v8 0
              have l5 := row_cold v8 1
              have l6 := row_cold v8 2
              have l7 := row_cold v8 3
              have HWH : Hid (w.heap.size + 3 ≤ w3.heap.size) := by have h1 := HB.out.size; have h2 := HZA.out; simp only [Hid]; omega
              clear v8
              go_wp2_with fail
              go_region_law (fail)
              all_goals
                have hm := row_store (j := 3) (v := .slice D q d) (row_store (j := 2) (v := .int .i64 is) (row_store (j := 1) (v := .int .i64 ig) (row_store (j := 0) (v := .int .i64 ik) HV8.out)))
                have HM9 : Hid (((((w6.setCell ⟨w.heap.size + 1 + 1, 0, none⟩ (.int .i64 ik)).setCell ⟨w.heap.size + 1 + 1, 1, none⟩ (.int .i64 ig)).setCell ⟨w.heap.size + 1 + 1, 2, none⟩ (.int .i64 is)).setCell ⟨w.heap.size + 1 + 1, 3, none⟩ (.slice D q d)).drew.heap[w.heap.size + 1 + 1]? = some (.cells #[.int .i64 ik, .int .i64 ig, .int .i64 is, .slice D q d] 116 (0, 0))) := hm
                have hne : ∀ b o, D = some ⟨b, o, none⟩ → 0 < q → b ≠ w.heap.size + 1 + 1 := fun b o e _ e2 => by have h1 := HF4.out _ e; have h2 := HWH.out; simp only at h1; omega
                have R9 : Hid (RowsIn ((((w6.setCell ⟨w.heap.size + 1 + 1, 0, none⟩ (.int .i64 ik)).setCell ⟨w.heap.size + 1 + 1, 1, none⟩ (.int .i64 ig)).setCell ⟨w.heap.size + 1 + 1, 2, none⟩ (.int .i64 is)).setCell ⟨w.heap.size + 1 + 1, 3, none⟩ (.slice D q d)).drew ((((w6.setCell ⟨w.heap.size + 1 + 1, 0, none⟩ (.int .i64 ik)).setCell ⟨w.heap.size + 1 + 1, 1, none⟩ (.int .i64 ig)).setCell ⟨w.heap.size + 1 + 1, 2, none⟩ (.int .i64 is)).setCell ⟨w.heap.size + 1 + 1, 3, none⟩ (.slice D q d)).drew.heap.size D q d PlaceD.cells 2 ip) :=
                  ((aside_cellU (z := 3) (aside_cellU (z := 2) (aside_cellU (z := 1) (aside_cellU (z := 0) R6.out hne _) hne _) hne _) hne _).more (by simp [World.setCell])).drew
                have HB9 : Hid (Below w.heap.size w ((((w6.setCell ⟨w.heap.size + 1 + 1, 0, none⟩ (.int .i64 ik)).setCell ⟨w.heap.size + 1 + 1, 1, none⟩ (.int .i64 ig)).setCell ⟨w.heap.size + 1 + 1, 2, none⟩ (.int .i64 is)).setCell ⟨w.heap.size + 1 + 1, 3, none⟩ (.slice D q d)).drew) := (((((HBA.out.trans (HB6.out.mono HBA.out.size)).setCell (p := ⟨w.heap.size + 1 + 1, 0, none⟩) (by simp only; omega) _).setCell (p := ⟨w.heap.size + 1 + 1, 1, none⟩) (by simp only; omega) _).setCell (p := ⟨w.heap.size + 1 + 1, 2, none⟩) (by simp only; omega) _).setCell (p := ⟨w.heap.size + 1 + 1, 3, none⟩) (by simp only; omega) _).drew
                clear hm hne l0 l1 l2 l3 l4 l5 l6 l7
                generalize ((((w6.setCell ⟨w.heap.size + 1 + 1, 0, none⟩ (.int .i64 ik)).setCell ⟨w.heap.size + 1 + 1, 1, none⟩ (.int .i64 ig)).setCell ⟨w.heap.size + 1 + 1, 2, none⟩ (.int .i64 is)).setCell ⟨w.heap.size + 1 + 1, 3, none⟩ (.slice D q d)).drew = w9 at *
                go_wp2
                refine bodyPost_ret (results_ctt_row rfl _ _ (w.heap.size + 1 + 1) _ #[.int .i64 ik, .int .i64 ig, .int .i64 is, .slice D q d] (0, 0) _ rfl HM9.out Try.underlying116 rfl info_inode) rfl ?_
                exact HYES'.out _ _ _ _ _ _ _ R9.out HB9.out (fun a e => by have h1 := HF4.out a e; have h2 := HWH.out; omega)
            · have g1 : (ig != g) = true := bne_iff_ne.2 hig
              go_quiet (fail)
              obtain ⟨w6, hw6⟩ : ∃ z, z = w5.drewN nq := ⟨_, rfl⟩
              have v8 : w6.heap[w.heap.size + 1 + 1]? = some (.cells zeroIno 116 (0, 0)) := by rw [hw6]; exact v7.out
              have HB6 : Hid (Below wa.heap.size wa w6) := by rw [hw6]; exact below_dN HB5.out nq
              rw [← hw6]
              clear hw6
              go_wp2_with (refine wpList_store_rowTo rfl _ _ _ rfl rfl (w.heap.size + 1 + 1) zeroIno rfl rfl 116 zeroIno v8 info_inode rfl hone0.out ?_)
              refine bodyPost_ret (results_ctt_row rfl _ _ (w.heap.size + 1 + 1) _ zeroIno (0, 0) _ rfl (row_set v8) Try.underlying116 rfl info_inode) rfl ?_
              exact HNO.out (fun h => hig h.2.2.2.2) _ (below_setRow (HBA.out.trans (HB6.out.mono HBA.out.size)) (by omega) _)
          · have g1 : (ie != 0) = true := bne_iff_ne.2 hie
            go_quiet (fail)
            obtain ⟨w6, hw6⟩ : ∃ z, z = w5.drewN nq := ⟨_, rfl⟩
            have v8 : w6.heap[w.heap.size + 1 + 1]? = some (.cells zeroIno 116 (0, 0)) := by rw [hw6]; exact v7.out
            have HB6 : Hid (Below wa.heap.size wa w6) := by rw [hw6]; exact below_dN HB5.out nq
            rw [← hw6]
            clear hw6
            go_wp2_with (refine wpList_store_rowTo rfl _ _ _ rfl rfl (w.heap.size + 1 + 1) zeroIno rfl rfl 116 zeroIno v8 info_inode rfl hone0.out ?_)
            refine bodyPost_ret (results_ctt_row rfl _ _ (w.heap.size + 1 + 1) _ zeroIno (0, 0) _ rfl (row_set v8) Try.underlying116 rfl info_inode) rfl ?_
            exact HNO.out (fun h => hie h.2.2.2.1) _ (below_setRow (HBA.out.trans (HB6.out.mono HBA.out.size)) (by omega) _)
        · have g1 : (bi != (k : Int)) = true := bne_iff_ne.2 hbi
          clear hbi
          go_wp2_with (refine wpList_store_rowTo rfl _ _ _ rfl rfl (w.heap.size + 1 + 1) zeroIno rfl rfl 116 zeroIno v7.out info_inode rfl hone0.out ?_)
          refine bodyPost_ret (results_ctt_row rfl _ _ (w.heap.size + 1 + 1) _ zeroIno (0, 0) _ rfl (row_set v7.out) Try.underlying116 rfl info_inode) rfl ?_
          exact HNO.out (fun h => by have := h.2.2.1; revert g1; rw [this]; simp) _ (below_setRow (HBA.out.trans (HB.out.mono HBA.out.size)) (by omega) _)
      · have g1 : (bk != 2) = true := bne_iff_ne.2 hk2
        go_wp2_with (refine wpList_store_rowTo rfl _ _ _ rfl rfl (w.heap.size + 1 + 1) zeroIno rfl rfl 116 zeroIno v7.out info_inode rfl hone0.out ?_)
        refine bodyPost_ret (results_ctt_row rfl _ _ (w.heap.size + 1 + 1) _ zeroIno (0, 0) _ rfl (row_set v7.out) Try.underlying116 rfl info_inode) rfl ?_
        exact HNO.out (fun h => hk2 h.2.1) _ (below_setRow (HBA.out.trans (HB.out.mono HBA.out.size)) (by omega) _)
    · have g1 : (E != 0) = true := bne_iff_ne.2 hE
      go_wp2_with (refine wpList_store_rowTo rfl _ _ _ rfl rfl (w.heap.size + 1 + 1) zeroIno rfl rfl 116 zeroIno v7.out info_inode rfl hone0.out ?_)
      refine bodyPost_ret (results_ctt_row rfl _ _ (w.heap.size + 1 + 1) _ zeroIno (0, 0) _ rfl (row_set v7.out) Try.underlying116 rfl info_inode) rfl ?_
      exact HNO.out (fun h => hE h.1) _ (below_setRow (HBA.out.trans (HB.out.mono HBA.out.size)) (by omega) _)
end Go.Proofs.Ytjmgocfoimhmjaa
