/- point.Read and linenref.ReadPoint, walked. -/
import Derived.Test.YtjmgocfoimhmjaaPreadP
import Derived.Test.YtjmgocfoimhmjaaOpenW
import Derived.Test.YtjmgocfoimhmjaaImrW
import Derived.Test.YtjmgocfoimhmjaaImrR
import Derived.Test.YtjmgocfoimhmjaaFixW
namespace Go.Proofs.Ytjmgocfoimhmjaa
open Go.RowKit Go.PlainAid

abbrev zeroPt : Array Value := #[.int .i64 0, .slice none 0 0, .slice none 0 0]
theorem info_pt : (Try.prog.info? 64).map (·.size) = some 3 := by kernel_rfl
theorem results_tct_row {P : Program} {fn : Func} {p u z : Tmp} {ty : TypeId} (h : fn.results = #[.tmp z, .cell p ty, .tmp u]) (tmps : Array Value) (w : World) (g : Nat) (t : TypeId) (cs : Array Value) (fr : Nat × Nat) (d : TypeDesc)
    (hp : tmps.getD p undef = .pointer (some ⟨g, 0, none⟩)) (hg : w.heap[g]? = some (.cells cs t fr))
    (hu : P.underlying ty = some d) (hd : (match d with | .struct _ | .array _ _ => true | _ => false) = true) (hi : (P.info? ty).map (·.size) = some cs.size) :
    (results fn tmps).run P w = .ok (.tuple #[tmps.getD z undef, .agg cs, tmps.getD u undef]) w := by
  have hp' : tmps[p]?.getD undef = .pointer (some ⟨g, 0, none⟩) := by simpa using hp
  simp [results, h, hp', asAddr, run_loadVar_row w g t ty cs fr d hg hu hd hi]
theorem aside_cell {α : Type} {enc : α → List Value} {k n c B M z : Nat} {A : Option Addr} {xs : List α} {w : World} (r : RowsIn w B A n c enc k xs) (hM : ∀ b o, A = some ⟨b, o, none⟩ → 0 < n → b ≠ M) (v : Value) : RowsIn (w.setCell ⟨M, z, none⟩ v) B A n c enc k xs :=
  ⟨r.len, r.le, r.top, fun i x hx => by
    obtain ⟨b, o, e, hb, hc⟩ := r.at_ i x hx
    have h0 : 0 < n := by have := r.len; have := (List.getElem?_eq_some_iff.1 hx).1; omega
    exact ⟨b, o, e, hb, fun j u hu => (World.cell?_setCell_other _ _ _ _ (fun e2 => hM b o e h0 (by injection e2 with e2; exact e2.symm))).trans (hc j u hu)⟩⟩
theorem pt_int {x : Int} {k : Nat} (h : (zeroPt : Array Value)[k]? = some (.int .i64 x)) : k = 0 := by
  match k, h with
  | 0, _ => rfl
  | 1, h => simp at h
  | 2, h => simp at h
  | k + 3, h => simp at h
theorem pt_ne_places {w : World} {B n c M : Nat} {A : Option Addr} {xs : List PlaceD} {t : TypeId} (r : RowsIn w B A n c PlaceD.cells 2 xs) (hM : w.heap[M]? = some (.cells zeroPt t (0, 0))) : ∀ b o, A = some ⟨b, o, none⟩ → 0 < n → b ≠ M := fun b o e h0 e2 => by
  subst e2
  have hl := r.len
  obtain ⟨b', o', e', _, hc⟩ := r.at_ 0 (xs[0]'(by omega)) (List.getElem?_eq_getElem (by omega))
  rw [e] at e'; injection e' with e'; injection e' with e1 e2 _
  subst e1; subst e2
  have h1 := hc 1 _ rfl
  rw [row_cell hM] at h1
  have := pt_int h1
  omega
theorem pt_ne_ints {w : World} {B n c M : Nat} {A : Option Addr} {xs : List Int} {t : TypeId} (r : RowsIn w B A n c (fun z => [.int .i64 z]) 1 xs) (hn : xs.length ≠ 1) (hM : w.heap[M]? = some (.cells zeroPt t (0, 0))) : ∀ b o, A = some ⟨b, o, none⟩ → 0 < n → b ≠ M := fun b o e h0 e2 => by
  subst e2
  have hl := r.len
  obtain ⟨b', o', e', _, hc⟩ := r.at_ 1 (xs[1]'(by omega)) (List.getElem?_eq_getElem (by omega))
  rw [e] at e'; injection e' with e'; injection e' with e1 e2 _
  subst e1; subst e2
  have h1 := hc 0 _ rfl
  rw [row_cell hM] at h1
  have := pt_int h1
  omega
theorem imrG_one (s : ByteArray) : (imrG s).length ≠ 1 := by
  unfold imrG
  split
  · rw [jGs_length]; decide
  · simp
def PrdPost (s : ByteArray) (w : World) (e : Ending) (w' : World) : Prop := ∃ A n c A' n' c', e = .returned (.tuple #[.int .i64 (prN s), .agg #[.int .i64 (prS s), .slice A n c, .slice A' n' c'], .int .i64 (prE s)]) ∧ RowsIn w' w'.heap.size A n c PlaceD.cells 2 (prP s) ∧ RowsIn w' w'.heap.size A' n' c' (fun z => [.int .i64 z]) 1 (prG s) ∧ Below w.heap.size w w'
theorem prdPost_bad {s : ByteArray} {w w' : World} {k : Int} (h : ¬ PrOk s) (he : prE s = k) (hb : Below w.heap.size w w') : PrdPost s w (.returned (.tuple #[.int .i64 0, .agg zeroPt, .int .i64 k])) w' := by
  obtain ⟨a, b, c, d⟩ := pr_bad h
  exact ⟨none, 0, 0, none, 0, 0, by rw [a, b, he], by rw [c]; exact no_places _ _, by rw [d]; exact no_intsI _ _, hb⟩
theorem RowsIn.aside3 {α : Type} {enc : α → List Value} {k n c B M : Nat} {A : Option Addr} {xs : List α} {w : World} (r : RowsIn w B A n c enc k xs) (hM : ∀ b o, A = some ⟨b, o, none⟩ → 0 < n → b ≠ M) (cs' : Array Value) : RowsIn (w.setRow M cs') B A n c enc k xs :=
  ⟨r.len, r.le, r.top, fun i x hx => by
    obtain ⟨b, o, e, hb, hc⟩ := r.at_ i x hx
    have h0 : 0 < n := by have := r.len; have := (List.getElem?_eq_some_iff.1 hx).1; omega
    exact ⟨b, o, e, hb, fun j u hu => (World.cell?_of_block (w := w) (setRow_other w M b cs' (hM b o e h0))).trans (hc j u hu)⟩⟩

set_option maxRecDepth 20000 in
set_option maxHeartbeats 2000000 in
theorem prd_any (s : ByteArray) (w : World) : Calls Try.prog 36 #[.string s] w (PrdPost s w) := by
  obtain ⟨wa, hwa⟩ : ∃ wa, wa = w.alloc (.cells zeroPt 64) := ⟨_, rfl⟩
  have hza : wa.heap.size = w.heap.size + 1 := by rw [hwa]; simp
  have hba : Below w.heap.size w wa := by rw [hwa]; exact (Below.refl _ _).alloc (Nat.le_refl _) _
  have hra : wa.heap[w.heap.size]? = some (.cells zeroPt 64 (0, 0)) := by rw [hwa]; exact heap_alloc_new w _
  have H1 : Hid (∀ W, Calls Try.prog 51 #[.string s] W fun e w' => e = .returned (.tuple #[.int .i64 (openK s), .int .i64 (openN s), .string (openT s), .int .i64 (openE s)]) ∧ Below W.heap.size W w') := fun W => open_any s W
  have H2 : Hid (∀ t W, Calls Try.prog 70 #[.string t] W fun e w' => e = .returned (.tuple #[.int .u64 (unfixV t), .int .i64 (unfixE t)]) ∧ W = w') := fun t W => unfix_any t W
  have H3 : Hid (∀ a b W, Calls Try.prog 71 #[.string ((openT s).extract a b)] W (ImrPost ((openT s).extract a b) W)) := fun a b W => imr_any _ W
  have hone0 : Hid ((zeroPt : Array Value).all (·.oneCell') = true) := by simp [Hid, Value.oneCell']
  have hone : Hid (∀ (x : Int) (A A' : Option Addr) (n c n' c' : Nat), ((#[.int .i64 x, .slice A n c, .slice A' n' c'] : Array Value).all (·.oneCell')) = true) := fun _ _ _ _ _ _ _ => by simp [Value.oneCell']
  have HRA := Lib.hid hra
  have HWA := Lib.hid hwa
  have HBA := Lib.hid hba
  have HZA := Lib.hid hza
  clear hwa hza hba hra
  by_cases he : openE s = 0
  · have HO := Lib.hid he
    rw [he] at H1
    clear he
    by_cases hk : openK s = 2
    · have HK := Lib.hid hk
      rw [hk] at H1
      clear hk
      by_cases h4 : (openT s).size < 4
      · have hn : ¬ PrOk s := fun k => by have := k.2.2.1; omega
        have F := Lib.hid (pr_form HO.out hn)
        have HN := Lib.hid hn
        have i4 : ((openT s).size : Int) < 4 := by omega
        clear hn h4
        generalize openT s = T at *
        generalize openN s = N at *
        go_enter Try.func36, Try.ntmps36
        go_wp2_with (first
          | (go_at_call 51; rw [← HWA.out]; refine (H1.out _).mono ?_; rintro e w1 ⟨rfl, hb1⟩; have HRA1 := Lib.hid (row_below HRA.out (row_lt HRA.out) hb1); have HB1 := Lib.hid hb1; clear hb1)
          | (refine wpList_store_rowTo rfl _ _ _ rfl rfl w.heap.size zeroPt rfl rfl 64 zeroPt HRA1.out info_pt rfl hone0.out ?_))
        refine bodyPost_ret (results_tct_row rfl _ _ w.heap.size _ zeroPt (0, 0) _ rfl (row_set HRA1.out) Try.underlying64 rfl info_pt) rfl ?_
        exact prdPost_bad HN.out F.out (below_setRow (HBA.out.trans (HB1.out.mono HBA.out.size)) (Nat.le_refl _) _)
      · have i4 : ¬ ((openT s).size : Int) < 4 := by omega
        have i5 : (4 : Int) ≤ ((openT s).size : Int) := by omega
        have i6 : 4 ≤ (openT s).size := by omega
        have H3b : Hid (∀ W, Calls Try.prog 71 #[.string ((openT s).extract 4 (openT s).size)] W (ImrPost ((openT s).extract 4 (openT s).size) W)) := fun W => H3.out 4 (openT s).size W
        have H2b : Hid (∀ W, Calls Try.prog 70 #[.string ((openT s).extract 0 4)] W fun e w' => e = .returned (.tuple #[.int .u64 (unfixV ((openT s).extract 0 4)), .int .i64 (unfixE ((openT s).extract 0 4))]) ∧ W = w') := fun W => H2.out _ W
        unfold ImrPost at H3b
        have hcase : (imrE ((openT s).extract 4 (openT s).size) ≠ 0 ∧ ¬ PrOk s) ∨ (imrE ((openT s).extract 4 (openT s).size) = 0 ∧ 2147483647 < unfixV ((openT s).extract 0 4) ∧ ¬ PrOk s) ∨ (imrE ((openT s).extract 4 (openT s).size) = 0 ∧ unfixV ((openT s).extract 0 4) ≤ 2147483647 ∧ PrOk s) := by
          by_cases h1 : imrE ((openT s).extract 4 (openT s).size) = 0
          · by_cases h2 : 2147483647 < unfixV ((openT s).extract 0 4)
            · exact .inr (.inl ⟨h1, h2, fun k => by have := k.2.2.2.2; omega⟩)
            · exact .inr (.inr ⟨h1, by omega, HO.out, HK.out, by omega, h1, by omega⟩)
          · exact .inl ⟨h1, fun k => h1 k.2.2.2.1⟩
        have hv0 : 0 ≤ unfixV ((openT s).extract 0 4) := by
          rw [(unfix_ok (by simp [ByteArray.size_extract]; omega)).1]; exact (beF_bd _ (fun j => bt_nonneg _ _) (fun j => bt_le _ _) _).1
        have HGL := Lib.hid (imrG_one ((openT s).extract 4 (openT s).size))
        have HPO := Lib.hid (fun h => pr_ok (s := s) h)
        have HPF := Lib.hid (fun h => pr_form (s := s) HO.out h)
        clear H2 H3 h4
        generalize imrE ((openT s).extract 4 (openT s).size) = ie at *
        generalize imrP ((openT s).extract 4 (openT s).size) = ip at *
        generalize imrG ((openT s).extract 4 (openT s).size) = ig at *
        generalize unfixV ((openT s).extract 0 4) = uv at *
        generalize unfixE ((openT s).extract 0 4) = ue at *
        generalize openT s = T at *
        generalize openN s = N at *
        rcases hcase with ⟨h1, hn⟩ | ⟨h1, h2, hn⟩ | ⟨h1, h2, hn⟩
        · have F := Lib.hid (HPF.out hn)
          have HN := Lib.hid hn
          have g1 : (ie != 0) = true := bne_iff_ne.2 h1
          clear h1 hn
          go_enter Try.func36, Try.ntmps36
          go_wp2_with (first
            | (go_at_call 51; rw [← HWA.out]; refine (H1.out _).mono ?_; rintro e w1 ⟨rfl, hb1⟩; have HRA1 := Lib.hid (row_below HRA.out (row_lt HRA.out) hb1); have HB1 := Lib.hid hb1; clear hb1)
            | (go_at_call 70; refine (H2b.out _).mono ?_; rintro e w2 ⟨rfl, rfl⟩)
            | (go_at_call 71; refine (H3b.out _).mono ?_; rintro e w3 ⟨D, q, d, D', q', d', rfl, r3, r3', hb3⟩; have HB3 := Lib.hid hb3; have HRA3 := Lib.hid (row_alloc (row_below HRA1.out (row_lt HRA1.out) hb3) (.cells #[.slice D q d, .slice D' q' d'] 25)); have HRB3 := Lib.hid (row_below HRA1.out (row_lt HRA1.out) hb3); have R3 := Lib.hid r3; have R3' := Lib.hid r3'; have m0 := heap_alloc_new w3 (.cells #[.slice D q d, .slice D' q' d'] 25); have m1 : (w3.alloc (.cells #[.slice D q d, .slice D' q' d'] 25)).cell? ⟨w3.heap.size, 0, none⟩ = some (.slice D q d) := row_cell m0 0; have m2 : (w3.alloc (.cells #[.slice D q d, .slice D' q' d'] 25)).cell? ⟨w3.heap.size, 1, none⟩ = some (.slice D' q' d') := row_cell m0 1; clear hb3 r3 r3' m0)
            | (refine wpList_store_rowTo rfl _ _ _ rfl rfl w.heap.size zeroPt rfl rfl 64 zeroPt HRA3.out info_pt rfl hone0.out ?_))
          refine bodyPost_ret (results_tct_row rfl _ _ w.heap.size _ zeroPt (0, 0) _ rfl (row_set HRA3.out) Try.underlying64 rfl info_pt) rfl ?_
          exact prdPost_bad HN.out F.out (below_setRow ((HBA.out.trans ((HB1.out.trans (HB3.out.mono HB1.out.size)).mono HBA.out.size)).alloc (HBA.out.trans ((HB1.out.trans (HB3.out.mono HB1.out.size)).mono HBA.out.size)).size _) (Nat.le_refl _) _)
        · have F := Lib.hid (HPF.out hn)
          have HN := Lib.hid hn
          subst h1
          clear hn
          go_enter Try.func36, Try.ntmps36
          go_wp2_with (first
            | (go_at_call 51; rw [← HWA.out]; refine (H1.out _).mono ?_; rintro e w1 ⟨rfl, hb1⟩; have HRA1 := Lib.hid (row_below HRA.out (row_lt HRA.out) hb1); have HB1 := Lib.hid hb1; clear hb1)
            | (go_at_call 70; refine (H2b.out _).mono ?_; rintro e w2 ⟨rfl, rfl⟩)
            | (go_at_call 71; refine (H3b.out _).mono ?_; rintro e w3 ⟨D, q, d, D', q', d', rfl, r3, r3', hb3⟩; have HB3 := Lib.hid hb3; have HRA3 := Lib.hid (row_alloc (row_below HRA1.out (row_lt HRA1.out) hb3) (.cells #[.slice D q d, .slice D' q' d'] 25)); have HRB3 := Lib.hid (row_below HRA1.out (row_lt HRA1.out) hb3); have R3 := Lib.hid r3; have R3' := Lib.hid r3'; have m0 := heap_alloc_new w3 (.cells #[.slice D q d, .slice D' q' d'] 25); have m1 : (w3.alloc (.cells #[.slice D q d, .slice D' q' d'] 25)).cell? ⟨w3.heap.size, 0, none⟩ = some (.slice D q d) := row_cell m0 0; have m2 : (w3.alloc (.cells #[.slice D q d, .slice D' q' d'] 25)).cell? ⟨w3.heap.size, 1, none⟩ = some (.slice D' q' d') := row_cell m0 1; clear hb3 r3 r3' m0)
            | (refine wpList_store_rowTo rfl _ _ _ rfl rfl w.heap.size zeroPt rfl rfl 64 zeroPt HRA3.out info_pt rfl hone0.out ?_))
          refine bodyPost_ret (results_tct_row rfl _ _ w.heap.size _ zeroPt (0, 0) _ rfl (row_set HRA3.out) Try.underlying64 rfl info_pt) rfl ?_
          exact prdPost_bad HN.out F.out (below_setRow ((HBA.out.trans ((HB1.out.trans (HB3.out.mono HB1.out.size)).mono HBA.out.size)).alloc (HBA.out.trans ((HB1.out.trans (HB3.out.mono HB1.out.size)).mono HBA.out.size)).size _) (Nat.le_refl _) _)
        · have F := Lib.hid (HPO.out hn)
          subst h1
          have g2 : ¬ (2147483647 : Int) < uv := by omega
          have g3 : IntKind.i64.wrap uv = uv := IntWalk.i64_in _ (by omega)
          clear hn
          go_enter Try.func36, Try.ntmps36
          go_wp2_with (first
            | (go_at_call 51; rw [← HWA.out]; refine (H1.out _).mono ?_; rintro e w1 ⟨rfl, hb1⟩; have HRA1 := Lib.hid (row_below HRA.out (row_lt HRA.out) hb1); have HB1 := Lib.hid hb1; clear hb1)
            | (go_at_call 70; refine (H2b.out _).mono ?_; rintro e w2 ⟨rfl, rfl⟩)
            | (go_at_call 71; refine (H3b.out _).mono ?_; rintro e w3 ⟨D, q, d, D', q', d', rfl, r3, r3', hb3⟩; have HB3 := Lib.hid hb3; have HRA3 := Lib.hid (row_alloc (row_below HRA1.out (row_lt HRA1.out) hb3) (.cells #[.slice D q d, .slice D' q' d'] 25)); have HRB3 := Lib.hid (row_below HRA1.out (row_lt HRA1.out) hb3); have R3 := Lib.hid r3; have R3' := Lib.hid r3'; have m0 := heap_alloc_new w3 (.cells #[.slice D q d, .slice D' q' d'] 25); have m1 : (w3.alloc (.cells #[.slice D q d, .slice D' q' d'] 25)).cell? ⟨w3.heap.size, 0, none⟩ = some (.slice D q d) := row_cell m0 0; have m2 : (w3.alloc (.cells #[.slice D q d, .slice D' q' d'] 25)).cell? ⟨w3.heap.size, 1, none⟩ = some (.slice D' q' d') := row_cell m0 1; clear hb3 r3 r3' m0))
          have N1 := Lib.hid (pt_ne_places R3.out HRB3.out)
          have N2 := Lib.hid (pt_ne_ints R3'.out HGL.out HRB3.out)
          have HB4 := Lib.hid ((HBA.out.trans ((HB1.out.trans (HB3.out.mono HB1.out.size)).mono HBA.out.size)).alloc (HBA.out.trans ((HB1.out.trans (HB3.out.mono HB1.out.size)).mono HBA.out.size)).size (.cells #[.slice D q d, .slice D' q' d'] 25))
          have R4 := Lib.hid (carry_new R3.out (.cells #[.slice D q d, .slice D' q' d'] 25))
          have R4' := Lib.hid (carry_new R3'.out (.cells #[.slice D q d, .slice D' q' d'] 25))
          generalize w3.alloc (.cells #[.slice D q d, .slice D' q' d'] 25) = w4 at *
          have k0 : w4.cell? ⟨w.heap.size, 0, none⟩ = some (.int .i64 0) := row_cell HRA3.out 0
          have k1 : w4.cell? ⟨w.heap.size, 1, none⟩ = some (.slice none 0 0) := row_cell HRA3.out 1
          have k2 : w4.cell? ⟨w.heap.size, 2, none⟩ = some (.slice none 0 0) := row_cell HRA3.out 2
          have k3 := row_cold HRA3.out 0
          have k4 := row_cold HRA3.out 1
          have k5 := row_cold HRA3.out 2
          go_region_law (fail)
          all_goals
            have hm := row_store (j := 2) (v := .slice D' q' d') (row_store (j := 1) (v := .slice D q d) (row_store (w := w4) (j := 0) (v := .int .i64 uv) HRA3.out))
            have HM : Hid ((((w4.setCell ⟨w.heap.size, 0, none⟩ (.int .i64 uv)).setCell ⟨w.heap.size, 1, none⟩ (.slice D q d)).setCell ⟨w.heap.size, 2, none⟩ (.slice D' q' d')).heap[w.heap.size]? = some (.cells #[.int .i64 uv, .slice D q d, .slice D' q' d'] 64 (0, 0))) := hm
            have R5 := Lib.hid ((aside_cell (z := 2) (aside_cell (z := 1) (aside_cell (z := 0) R4.out N1.out (.int .i64 uv)) N1.out (.slice D q d)) N1.out (.slice D' q' d')).more (show _ ≤ (((w4.setCell ⟨w.heap.size, 0, none⟩ (.int .i64 uv)).setCell ⟨w.heap.size, 1, none⟩ (.slice D q d)).setCell ⟨w.heap.size, 2, none⟩ (.slice D' q' d')).heap.size by simp [World.setCell]))
            have R5' := Lib.hid ((aside_cell (z := 2) (aside_cell (z := 1) (aside_cell (z := 0) R4'.out N2.out (.int .i64 uv)) N2.out (.slice D q d)) N2.out (.slice D' q' d')).more (show _ ≤ (((w4.setCell ⟨w.heap.size, 0, none⟩ (.int .i64 uv)).setCell ⟨w.heap.size, 1, none⟩ (.slice D q d)).setCell ⟨w.heap.size, 2, none⟩ (.slice D' q' d')).heap.size by simp [World.setCell]))
            have HB5 : Hid (Below w.heap.size w (((w4.setCell ⟨w.heap.size, 0, none⟩ (.int .i64 uv)).setCell ⟨w.heap.size, 1, none⟩ (.slice D q d)).setCell ⟨w.heap.size, 2, none⟩ (.slice D' q' d'))) := ((HB4.out.setCell (Nat.le_refl _) _).setCell (Nat.le_refl _) _).setCell (Nat.le_refl _) _
            clear hm k0 k1 k2 k3 k4 k5
            generalize (((w4.setCell ⟨w.heap.size, 0, none⟩ (.int .i64 uv)).setCell ⟨w.heap.size, 1, none⟩ (.slice D q d)).setCell ⟨w.heap.size, 2, none⟩ (.slice D' q' d')) = w5 at *
            go_wp2
            refine bodyPost_ret (results_tct_row rfl _ _ w.heap.size _ #[.int .i64 uv, .slice D q d, .slice D' q' d'] (0, 0) _ rfl HM.out Try.underlying64 rfl info_pt) rfl ?_
            exact ⟨D, q, d, D', q', d', by rw [F.out.1, F.out.2.1, F.out.2.2.1]; rfl, by rw [F.out.2.2.2.1]; exact R5.out.drew, by rw [F.out.2.2.2.2]; exact R5'.out.drew, HB5.out.drew⟩
    · have hn : ¬ PrOk s := fun k => hk k.2.1
      have F := Lib.hid (pr_form HO.out hn)
      have HN := Lib.hid hn
      have i4 : (openK s != 2) = true := bne_iff_ne.2 hk
      clear hn hk
      generalize openK s = K at *
      generalize openT s = T at *
      generalize openN s = N at *
      go_enter Try.func36, Try.ntmps36
      go_wp2_with (first
        | (go_at_call 51; rw [← HWA.out]; refine (H1.out _).mono ?_; rintro e w1 ⟨rfl, hb1⟩; have HRA1 := Lib.hid (row_below HRA.out (row_lt HRA.out) hb1); have HB1 := Lib.hid hb1; clear hb1)
        | (refine wpList_store_rowTo rfl _ _ _ rfl rfl w.heap.size zeroPt rfl rfl 64 zeroPt HRA1.out info_pt rfl hone0.out ?_))
      refine bodyPost_ret (results_tct_row rfl _ _ w.heap.size _ zeroPt (0, 0) _ rfl (row_set HRA1.out) Try.underlying64 rfl info_pt) rfl ?_
      exact prdPost_bad HN.out F.out (below_setRow (HBA.out.trans (HB1.out.mono HBA.out.size)) (Nat.le_refl _) _)
  · obtain ⟨hn, e1⟩ := pr_open he
    have F := Lib.hid e1
    have HN := Lib.hid hn
    have i4 : (openE s != 0) = true := bne_iff_ne.2 he
    clear hn e1 he
    generalize openE s = E at *
    generalize openK s = K at *
    generalize openT s = T at *
    generalize openN s = N at *
    go_enter Try.func36, Try.ntmps36
    go_wp2_with (first
      | (go_at_call 51; rw [← HWA.out]; refine (H1.out _).mono ?_; rintro e w1 ⟨rfl, hb1⟩; have HRA1 := Lib.hid (row_below HRA.out (row_lt HRA.out) hb1); have HB1 := Lib.hid hb1; clear hb1)
      | (refine wpList_store_rowTo rfl _ _ _ rfl rfl w.heap.size zeroPt rfl rfl 64 zeroPt HRA1.out info_pt rfl hone0.out ?_))
    refine bodyPost_ret (results_tct_row rfl _ _ w.heap.size _ zeroPt (0, 0) _ rfl (row_set HRA1.out) Try.underlying64 rfl info_pt) rfl ?_
    exact prdPost_bad HN.out F.out (below_setRow (HBA.out.trans (HB1.out.mono HBA.out.size)) (Nat.le_refl _) _)

set_option maxRecDepth 20000 in
set_option maxHeartbeats 2000000 in
theorem prq_any (s : ByteArray) (hs : s.size ≤ 140737488351232) (w : World) : Calls Try.prog 37 #[.string s] w (PrdPost s w) := by
  obtain ⟨wa, hwa⟩ : ∃ wa, wa = w.alloc (.cells zeroPt 64) := ⟨_, rfl⟩
  have hza : wa.heap.size = w.heap.size + 1 := by rw [hwa]; simp
  have hba : Below w.heap.size w wa := by rw [hwa]; exact (Below.refl _ _).alloc (Nat.le_refl _) _
  have hra : wa.heap[w.heap.size]? = some (.cells zeroPt 64 (0, 0)) := by rw [hwa]; exact heap_alloc_new w _
  have H1 : Hid (∀ W, Calls Try.prog 52 #[.string s] W fun e w' => e = .returned (.tuple #[.int .i64 (openK s), .int .i64 (openN s), .string (openT s), .int .i64 (openE s)]) ∧ Below W.heap.size W w') := fun W => unseal_any s W
  have H2 : Hid (∀ t W, Calls Try.prog 73 #[.string t] W fun e w' => e = .returned (.tuple #[.int .u64 (unfixV t), .int .i64 (unfixE t)]) ∧ W = w') := fun t W => unfixr_any t W
  have hot : (openT s).size ≤ s.size := by
    unfold openT
    split
    · simp [ByteArray.size_extract]; omega
    · exact Nat.zero_le _
  have hsz : ∀ a b, ((openT s).extract a b).size ≤ 140737488351232 := fun a b => by
    have : ((openT s).extract a b).size ≤ (openT s).size := by simp [ByteArray.size_extract]; omega
    omega
  have H3 : Hid (∀ a b W, Calls Try.prog 72 #[.string ((openT s).extract a b)] W (ImrPost ((openT s).extract a b) W)) := fun a b W => imq_any _ W (hsz a b)
  clear hot hsz
  have hone0 : Hid ((zeroPt : Array Value).all (·.oneCell') = true) := by simp [Hid, Value.oneCell']
  have hone : Hid (∀ (x : Int) (A A' : Option Addr) (n c n' c' : Nat), ((#[.int .i64 x, .slice A n c, .slice A' n' c'] : Array Value).all (·.oneCell')) = true) := fun _ _ _ _ _ _ _ => by simp [Value.oneCell']
  have HRA := Lib.hid hra
  have HWA := Lib.hid hwa
  have HBA := Lib.hid hba
  have HZA := Lib.hid hza
  clear hwa hza hba hra
  by_cases he : openE s = 0
  · have HO := Lib.hid he
    rw [he] at H1
    clear he
    by_cases hk : openK s = 2
    · have HK := Lib.hid hk
      rw [hk] at H1
      clear hk
      by_cases h4 : (openT s).size < 4
      · have hn : ¬ PrOk s := fun k => by have := k.2.2.1; omega
        have F := Lib.hid (pr_form HO.out hn)
        have HN := Lib.hid hn
        have i4 : ((openT s).size : Int) < 4 := by omega
        clear hn h4
        generalize openT s = T at *
        generalize openN s = N at *
        go_enter Try.func37, Try.ntmps37
        go_wp2_with (first
          | (go_at_call 52; rw [← HWA.out]; refine (H1.out _).mono ?_; rintro e w1 ⟨rfl, hb1⟩; have HRA1 := Lib.hid (row_below HRA.out (row_lt HRA.out) hb1); have HB1 := Lib.hid hb1; clear hb1)
          | (refine wpList_store_rowTo rfl _ _ _ rfl rfl w.heap.size zeroPt rfl rfl 64 zeroPt HRA1.out info_pt rfl hone0.out ?_))
        refine bodyPost_ret (results_tct_row rfl _ _ w.heap.size _ zeroPt (0, 0) _ rfl (row_set HRA1.out) Try.underlying64 rfl info_pt) rfl ?_
        exact prdPost_bad HN.out F.out (below_setRow (HBA.out.trans (HB1.out.mono HBA.out.size)) (Nat.le_refl _) _)
      · have i4 : ¬ ((openT s).size : Int) < 4 := by omega
        have i5 : (4 : Int) ≤ ((openT s).size : Int) := by omega
        have i6 : 4 ≤ (openT s).size := by omega
        have H3b : Hid (∀ W, Calls Try.prog 72 #[.string ((openT s).extract 4 (openT s).size)] W (ImrPost ((openT s).extract 4 (openT s).size) W)) := fun W => H3.out 4 (openT s).size W
        have H2b : Hid (∀ W, Calls Try.prog 73 #[.string ((openT s).extract 0 4)] W fun e w' => e = .returned (.tuple #[.int .u64 (unfixV ((openT s).extract 0 4)), .int .i64 (unfixE ((openT s).extract 0 4))]) ∧ W = w') := fun W => H2.out _ W
        unfold ImrPost at H3b
        have hcase : (imrE ((openT s).extract 4 (openT s).size) ≠ 0 ∧ ¬ PrOk s) ∨ (imrE ((openT s).extract 4 (openT s).size) = 0 ∧ 2147483647 < unfixV ((openT s).extract 0 4) ∧ ¬ PrOk s) ∨ (imrE ((openT s).extract 4 (openT s).size) = 0 ∧ unfixV ((openT s).extract 0 4) ≤ 2147483647 ∧ PrOk s) := by
          by_cases h1 : imrE ((openT s).extract 4 (openT s).size) = 0
          · by_cases h2 : 2147483647 < unfixV ((openT s).extract 0 4)
            · exact .inr (.inl ⟨h1, h2, fun k => by have := k.2.2.2.2; omega⟩)
            · exact .inr (.inr ⟨h1, by omega, HO.out, HK.out, by omega, h1, by omega⟩)
          · exact .inl ⟨h1, fun k => h1 k.2.2.2.1⟩
        have hv0 : 0 ≤ unfixV ((openT s).extract 0 4) := by
          rw [(unfix_ok (by simp [ByteArray.size_extract]; omega)).1]; exact (beF_bd _ (fun j => bt_nonneg _ _) (fun j => bt_le _ _) _).1
        have HGL := Lib.hid (imrG_one ((openT s).extract 4 (openT s).size))
        have HPO := Lib.hid (fun h => pr_ok (s := s) h)
        have HPF := Lib.hid (fun h => pr_form (s := s) HO.out h)
        clear H2 H3 h4
        generalize imrE ((openT s).extract 4 (openT s).size) = ie at *
        generalize imrP ((openT s).extract 4 (openT s).size) = ip at *
        generalize imrG ((openT s).extract 4 (openT s).size) = ig at *
        generalize unfixV ((openT s).extract 0 4) = uv at *
        generalize unfixE ((openT s).extract 0 4) = ue at *
        generalize openT s = T at *
        generalize openN s = N at *
        rcases hcase with ⟨h1, hn⟩ | ⟨h1, h2, hn⟩ | ⟨h1, h2, hn⟩
        · have F := Lib.hid (HPF.out hn)
          have HN := Lib.hid hn
          have g1 : (ie != 0) = true := bne_iff_ne.2 h1
          clear h1 hn
          go_enter Try.func37, Try.ntmps37
          go_wp2_with (first
            | (go_at_call 52; rw [← HWA.out]; refine (H1.out _).mono ?_; rintro e w1 ⟨rfl, hb1⟩; have HRA1 := Lib.hid (row_below HRA.out (row_lt HRA.out) hb1); have HB1 := Lib.hid hb1; clear hb1)
            | (go_at_call 73; refine (H2b.out _).mono ?_; rintro e w2 ⟨rfl, rfl⟩)
            | (go_at_call 72; refine (H3b.out _).mono ?_; rintro e w3 ⟨D, q, d, D', q', d', rfl, r3, r3', hb3⟩; have HB3 := Lib.hid hb3; have HRA3 := Lib.hid (row_alloc (row_below HRA1.out (row_lt HRA1.out) hb3) (.cells #[.slice D q d, .slice D' q' d'] 25)); have HRB3 := Lib.hid (row_below HRA1.out (row_lt HRA1.out) hb3); have R3 := Lib.hid r3; have R3' := Lib.hid r3'; have m0 := heap_alloc_new w3 (.cells #[.slice D q d, .slice D' q' d'] 25); have m1 : (w3.alloc (.cells #[.slice D q d, .slice D' q' d'] 25)).cell? ⟨w3.heap.size, 0, none⟩ = some (.slice D q d) := row_cell m0 0; have m2 : (w3.alloc (.cells #[.slice D q d, .slice D' q' d'] 25)).cell? ⟨w3.heap.size, 1, none⟩ = some (.slice D' q' d') := row_cell m0 1; clear hb3 r3 r3' m0)
            | (refine wpList_store_rowTo rfl _ _ _ rfl rfl w.heap.size zeroPt rfl rfl 64 zeroPt HRA3.out info_pt rfl hone0.out ?_))
          refine bodyPost_ret (results_tct_row rfl _ _ w.heap.size _ zeroPt (0, 0) _ rfl (row_set HRA3.out) Try.underlying64 rfl info_pt) rfl ?_
          exact prdPost_bad HN.out F.out (below_setRow ((HBA.out.trans ((HB1.out.trans (HB3.out.mono HB1.out.size)).mono HBA.out.size)).alloc (HBA.out.trans ((HB1.out.trans (HB3.out.mono HB1.out.size)).mono HBA.out.size)).size _) (Nat.le_refl _) _)
        · have F := Lib.hid (HPF.out hn)
          have HN := Lib.hid hn
          subst h1
          clear hn
          go_enter Try.func37, Try.ntmps37
          go_wp2_with (first
            | (go_at_call 52; rw [← HWA.out]; refine (H1.out _).mono ?_; rintro e w1 ⟨rfl, hb1⟩; have HRA1 := Lib.hid (row_below HRA.out (row_lt HRA.out) hb1); have HB1 := Lib.hid hb1; clear hb1)
            | (go_at_call 73; refine (H2b.out _).mono ?_; rintro e w2 ⟨rfl, rfl⟩)
            | (go_at_call 72; refine (H3b.out _).mono ?_; rintro e w3 ⟨D, q, d, D', q', d', rfl, r3, r3', hb3⟩; have HB3 := Lib.hid hb3; have HRA3 := Lib.hid (row_alloc (row_below HRA1.out (row_lt HRA1.out) hb3) (.cells #[.slice D q d, .slice D' q' d'] 25)); have HRB3 := Lib.hid (row_below HRA1.out (row_lt HRA1.out) hb3); have R3 := Lib.hid r3; have R3' := Lib.hid r3'; have m0 := heap_alloc_new w3 (.cells #[.slice D q d, .slice D' q' d'] 25); have m1 : (w3.alloc (.cells #[.slice D q d, .slice D' q' d'] 25)).cell? ⟨w3.heap.size, 0, none⟩ = some (.slice D q d) := row_cell m0 0; have m2 : (w3.alloc (.cells #[.slice D q d, .slice D' q' d'] 25)).cell? ⟨w3.heap.size, 1, none⟩ = some (.slice D' q' d') := row_cell m0 1; clear hb3 r3 r3' m0)
            | (refine wpList_store_rowTo rfl _ _ _ rfl rfl w.heap.size zeroPt rfl rfl 64 zeroPt HRA3.out info_pt rfl hone0.out ?_))
          refine bodyPost_ret (results_tct_row rfl _ _ w.heap.size _ zeroPt (0, 0) _ rfl (row_set HRA3.out) Try.underlying64 rfl info_pt) rfl ?_
          exact prdPost_bad HN.out F.out (below_setRow ((HBA.out.trans ((HB1.out.trans (HB3.out.mono HB1.out.size)).mono HBA.out.size)).alloc (HBA.out.trans ((HB1.out.trans (HB3.out.mono HB1.out.size)).mono HBA.out.size)).size _) (Nat.le_refl _) _)
        · have F := Lib.hid (HPO.out hn)
          subst h1
          have g2 : ¬ (2147483647 : Int) < uv := by omega
          have g3 : IntKind.i64.wrap uv = uv := IntWalk.i64_in _ (by omega)
          clear hn
          go_enter Try.func37, Try.ntmps37
          go_wp2_with (first
            | (go_at_call 52; rw [← HWA.out]; refine (H1.out _).mono ?_; rintro e w1 ⟨rfl, hb1⟩; have HRA1 := Lib.hid (row_below HRA.out (row_lt HRA.out) hb1); have HB1 := Lib.hid hb1; clear hb1)
            | (go_at_call 73; refine (H2b.out _).mono ?_; rintro e w2 ⟨rfl, rfl⟩)
            | (go_at_call 72; refine (H3b.out _).mono ?_; rintro e w3 ⟨D, q, d, D', q', d', rfl, r3, r3', hb3⟩; have HB3 := Lib.hid hb3; have HRA3 := Lib.hid (row_alloc (row_below HRA1.out (row_lt HRA1.out) hb3) (.cells #[.slice D q d, .slice D' q' d'] 25)); have HRB3 := Lib.hid (row_below HRA1.out (row_lt HRA1.out) hb3); have R3 := Lib.hid r3; have R3' := Lib.hid r3'; have m0 := heap_alloc_new w3 (.cells #[.slice D q d, .slice D' q' d'] 25); have m1 : (w3.alloc (.cells #[.slice D q d, .slice D' q' d'] 25)).cell? ⟨w3.heap.size, 0, none⟩ = some (.slice D q d) := row_cell m0 0; have m2 : (w3.alloc (.cells #[.slice D q d, .slice D' q' d'] 25)).cell? ⟨w3.heap.size, 1, none⟩ = some (.slice D' q' d') := row_cell m0 1; clear hb3 r3 r3' m0))
          have N1 := Lib.hid (pt_ne_places R3.out HRB3.out)
          have N2 := Lib.hid (pt_ne_ints R3'.out HGL.out HRB3.out)
          have HB4 := Lib.hid ((HBA.out.trans ((HB1.out.trans (HB3.out.mono HB1.out.size)).mono HBA.out.size)).alloc (HBA.out.trans ((HB1.out.trans (HB3.out.mono HB1.out.size)).mono HBA.out.size)).size (.cells #[.slice D q d, .slice D' q' d'] 25))
          have R4 := Lib.hid (carry_new R3.out (.cells #[.slice D q d, .slice D' q' d'] 25))
          have R4' := Lib.hid (carry_new R3'.out (.cells #[.slice D q d, .slice D' q' d'] 25))
          generalize w3.alloc (.cells #[.slice D q d, .slice D' q' d'] 25) = w4 at *
          have k0 : w4.cell? ⟨w.heap.size, 0, none⟩ = some (.int .i64 0) := row_cell HRA3.out 0
          have k1 : w4.cell? ⟨w.heap.size, 1, none⟩ = some (.slice none 0 0) := row_cell HRA3.out 1
          have k2 : w4.cell? ⟨w.heap.size, 2, none⟩ = some (.slice none 0 0) := row_cell HRA3.out 2
          have k3 := row_cold HRA3.out 0
          have k4 := row_cold HRA3.out 1
          have k5 := row_cold HRA3.out 2
          go_region_law (fail)
          all_goals
            have hm := row_store (j := 2) (v := .slice D' q' d') (row_store (j := 1) (v := .slice D q d) (row_store (w := w4) (j := 0) (v := .int .i64 uv) HRA3.out))
            have HM : Hid ((((w4.setCell ⟨w.heap.size, 0, none⟩ (.int .i64 uv)).setCell ⟨w.heap.size, 1, none⟩ (.slice D q d)).setCell ⟨w.heap.size, 2, none⟩ (.slice D' q' d')).heap[w.heap.size]? = some (.cells #[.int .i64 uv, .slice D q d, .slice D' q' d'] 64 (0, 0))) := hm
            have R5 := Lib.hid ((aside_cell (z := 2) (aside_cell (z := 1) (aside_cell (z := 0) R4.out N1.out (.int .i64 uv)) N1.out (.slice D q d)) N1.out (.slice D' q' d')).more (show _ ≤ (((w4.setCell ⟨w.heap.size, 0, none⟩ (.int .i64 uv)).setCell ⟨w.heap.size, 1, none⟩ (.slice D q d)).setCell ⟨w.heap.size, 2, none⟩ (.slice D' q' d')).heap.size by simp [World.setCell]))
            have R5' := Lib.hid ((aside_cell (z := 2) (aside_cell (z := 1) (aside_cell (z := 0) R4'.out N2.out (.int .i64 uv)) N2.out (.slice D q d)) N2.out (.slice D' q' d')).more (show _ ≤ (((w4.setCell ⟨w.heap.size, 0, none⟩ (.int .i64 uv)).setCell ⟨w.heap.size, 1, none⟩ (.slice D q d)).setCell ⟨w.heap.size, 2, none⟩ (.slice D' q' d')).heap.size by simp [World.setCell]))
            have HB5 : Hid (Below w.heap.size w (((w4.setCell ⟨w.heap.size, 0, none⟩ (.int .i64 uv)).setCell ⟨w.heap.size, 1, none⟩ (.slice D q d)).setCell ⟨w.heap.size, 2, none⟩ (.slice D' q' d'))) := ((HB4.out.setCell (Nat.le_refl _) _).setCell (Nat.le_refl _) _).setCell (Nat.le_refl _) _
            clear hm k0 k1 k2 k3 k4 k5
            generalize (((w4.setCell ⟨w.heap.size, 0, none⟩ (.int .i64 uv)).setCell ⟨w.heap.size, 1, none⟩ (.slice D q d)).setCell ⟨w.heap.size, 2, none⟩ (.slice D' q' d')) = w5 at *
            go_wp2
            refine bodyPost_ret (results_tct_row rfl _ _ w.heap.size _ #[.int .i64 uv, .slice D q d, .slice D' q' d'] (0, 0) _ rfl HM.out Try.underlying64 rfl info_pt) rfl ?_
            exact ⟨D, q, d, D', q', d', by rw [F.out.1, F.out.2.1, F.out.2.2.1]; rfl, by rw [F.out.2.2.2.1]; exact R5.out.drew, by rw [F.out.2.2.2.2]; exact R5'.out.drew, HB5.out.drew⟩
    · have hn : ¬ PrOk s := fun k => hk k.2.1
      have F := Lib.hid (pr_form HO.out hn)
      have HN := Lib.hid hn
      have i4 : (openK s != 2) = true := bne_iff_ne.2 hk
      clear hn hk
      generalize openK s = K at *
      generalize openT s = T at *
      generalize openN s = N at *
      go_enter Try.func37, Try.ntmps37
      go_wp2_with (first
        | (go_at_call 52; rw [← HWA.out]; refine (H1.out _).mono ?_; rintro e w1 ⟨rfl, hb1⟩; have HRA1 := Lib.hid (row_below HRA.out (row_lt HRA.out) hb1); have HB1 := Lib.hid hb1; clear hb1)
        | (refine wpList_store_rowTo rfl _ _ _ rfl rfl w.heap.size zeroPt rfl rfl 64 zeroPt HRA1.out info_pt rfl hone0.out ?_))
      refine bodyPost_ret (results_tct_row rfl _ _ w.heap.size _ zeroPt (0, 0) _ rfl (row_set HRA1.out) Try.underlying64 rfl info_pt) rfl ?_
      exact prdPost_bad HN.out F.out (below_setRow (HBA.out.trans (HB1.out.mono HBA.out.size)) (Nat.le_refl _) _)
  · obtain ⟨hn, e1⟩ := pr_open he
    have F := Lib.hid e1
    have HN := Lib.hid hn
    have i4 : (openE s != 0) = true := bne_iff_ne.2 he
    clear hn e1 he
    generalize openE s = E at *
    generalize openK s = K at *
    generalize openT s = T at *
    generalize openN s = N at *
    go_enter Try.func37, Try.ntmps37
    go_wp2_with (first
      | (go_at_call 52; rw [← HWA.out]; refine (H1.out _).mono ?_; rintro e w1 ⟨rfl, hb1⟩; have HRA1 := Lib.hid (row_below HRA.out (row_lt HRA.out) hb1); have HB1 := Lib.hid hb1; clear hb1)
      | (refine wpList_store_rowTo rfl _ _ _ rfl rfl w.heap.size zeroPt rfl rfl 64 zeroPt HRA1.out info_pt rfl hone0.out ?_))
    refine bodyPost_ret (results_tct_row rfl _ _ w.heap.size _ zeroPt (0, 0) _ rfl (row_set HRA1.out) Try.underlying64 rfl info_pt) rfl ?_
    exact prdPost_bad HN.out F.out (below_setRow (HBA.out.trans (HB1.out.mono HBA.out.size)) (Nat.le_refl _) _)
end Go.Proofs.Ytjmgocfoimhmjaa
