/- linenref.class, walked. -/
import Derived.Test.YtgidfmdbaimcnaaDoorGbC
import Derived.Test.YtgidfmdbaimcnaaDoorGrM
import Derived.Test.YtgidfmdbaimcnaaDoorGrI
import Derived.Test.YtgidfmdbaimcnaaDoorSlc
namespace Go.Proofs.YtgidfmdbaimcnaaDoor
open Go.RowKit Go.Shelf Go.PlainAid

theorem results_cttG {P : Program} {fn : Func} {p u z : Tmp} {ty : TypeId} (h : fn.results = #[.cell p ty, .tmp u, .tmp z]) (tmps : Array Value) (w : World) (g : Nat) (t : TypeId) (cs : Array Value) (fr : Nat × Nat) (d : TypeDesc)
    (hp : tmps.getD p undef = .pointer (some ⟨g, 0, none⟩)) (hg : w.heap[g]? = some (.cells cs t fr))
    (hu : P.underlying ty = some d) (hd : (match d with | .struct _ | .array _ _ => true | _ => false) = true) (hi : (P.info? ty).map (·.size) = some cs.size) :
    (results fn tmps).run P w = .ok (.tuple #[.agg cs, tmps.getD u undef, tmps.getD z undef]) w := by
  have hp' : tmps[p]?.getD undef = .pointer (some ⟨g, 0, none⟩) := by simpa using hp
  simp [results, h, hp', asAddr, run_loadVar_row w g t ty cs fr d hg hu hd hi]
theorem info_spanR : (Tryd.prog.info? 59).map (fun i => (i.zero, i.size, i.bytes)) = some (some (.agg #[.int .i64 0, .int .i64 0]), 2, 16) := by kernel_rfl
theorem info_piece : (Tryd.prog.info? 44).map (·.size) = some 3 := by kernel_rfl
structure ReF (w : World) (ng : Bool) (acc : List (Int × Int)) (D : Option Addr) (d : Nat) (wr : World) : Prop where
  res : wr.heap[w.heap.size]? = some (.cells (ptCells false false none 0 0) 44 (0, 0))
  box : wr.heap[w.heap.size + 1]? = some (.cells (ptCells false ng D acc.length d) 44 (0, 0))
  own : Owns wr (w.heap.size + 2) 2 (.slice D acc.length d) acc.length (acc.flatMap spnR)
  below : Below w.heap.size w wr
  size : w.heap.size + 2 ≤ wr.heap.size
section
variable {w wr w' : World} {ng : Bool} {acc : List (Int × Int)} {D : Option Addr} {d : Nat}
theorem ReF.neg (h : ReF w false acc D d wr) : ReF w true acc D d (wr.setCell ⟨w.heap.size + 1, 1, none⟩ (.bool true)) := by
  have h1 := row_store (j := 1) (v := .bool true) h.box
  have hs := h.size
  exact { res := row_other h.res (by simp), box := by simpa [ptCells] using h1, own := h.own.setOther (fun e => by have h2 : w.heap.size + 2 ≤ w.heap.size + 1 := (h.own.lt _ e).1; omega) _, below := h.below.setCell (by show _ ≤ w.heap.size + 1; omega) _, size := by simp [World.setCell]; omega }
theorem ReF.add (h : ReF w ng acc D d wr) {D' : Option Addr} {d' : Nat} {z : Int × Int} (hl : Left wr w' (w.heap.size + 2) (Value.ownBlock (.slice D acc.length d)))
    (ho : Owns w' (w.heap.size + 2) 2 (.slice D' (acc.length + 1) d') (acc.length + 1) (acc.flatMap spnR ++ spnR z)) :
    ReF w ng (acc ++ [z]) D' d' (w'.setCell ⟨w.heap.size + 1, 2, none⟩ (.slice D' (acc.length + 1) d')) := by
  have hk : ∀ g, g < w.heap.size + 2 → Value.ownBlock (.slice D acc.length d) ≠ some g := fun g hg e => by have := (h.own.lt g e).1; omega
  have h1 := row_store (j := 2) (v := .slice D' (acc.length + 1) d') (row_left h.box hl (hk _ (by omega)))
  have h0 := row_left h.res hl (hk _ (by omega))
  have hs := h.size
  have hs2 := hl.size
  have hlen : (acc ++ [z]).length = acc.length + 1 := by simp
  refine { res := row_other h0 (by simp), box := ?_, own := ?_, below := (hl.below (by omega) h.below).setCell (by show _ ≤ w.heap.size + 1; omega) _, size := by simp [World.setCell]; omega }
  · rw [hlen]; simpa [ptCells] using h1
  · rw [hlen, List.flatMap_append]
    have : Owns w' (w.heap.size + 2) 2 (.slice D' (acc.length + 1) d') (acc.length + 1) (acc.flatMap spnR ++ [z].flatMap spnR) := by simpa using ho
    exact this.setOther (fun e => by have h2 : w.heap.size + 2 ≤ w.heap.size + 1 := (this.lt _ e).1; omega) _
theorem res_putR {W : World} {p : Nat} {u0 u1 u2 v0 v1 v2 : Value} (h : W.heap[p]? = some (.cells #[u0, u1, u2] 44 (0, 0))) : (((W.setCell ⟨p, 0, none⟩ v0).setCell ⟨p, 1, none⟩ v1).setCell ⟨p, 2, none⟩ v2).heap[p]? = some (.cells #[v0, v1, v2] 44 (0, 0)) := by
  have h0 := row_store (j := 0) (v := v0) h
  have h1 := row_store (j := 1) (v := v1) h0
  have h2 := row_store (j := 2) (v := v2) h1
  simpa using h2
end
def RcPost (l : List Int) (n : Nat) (w : World) (e : Ending) (w' : World) : Prop :=
  ∃ (ng ok : Bool) (D : Option Addr) (m d : Nat) (z : Int), e = .returned (.tuple #[.agg (ptCells false ng D m d), .int .i64 z, .bool ok]) ∧ Below w.heap.size w w' ∧
    (if ok = true then ∃ sp, ∃ k' : Nat, clsR [] (unbang (l.drop 1)) = some (sp, l.drop k') ∧ z = (k' : Int) ∧ 1 ≤ k' ∧ k' ≤ n ∧ ng = bang (l.drop 1) ∧ m = sp.length ∧ RowsIn w' w'.heap.size D m d spnR 2 sp ∧ (∀ a, D = some a → w.heap.size ≤ a.block) else clsR [] (unbang (l.drop 1)) = none)
section
variable {w w1 : World} {l : List Int} {n k : Nat} {ng : Bool} {acc : List (Int × Int)} {D : Option Addr} {d : Nat}
theorem rc_world (hF : ReF w ng acc D d w1) : Below w.heap.size w (((w1.setCell ⟨w.heap.size, 0, none⟩ (.bool false)).setCell ⟨w.heap.size, 1, none⟩ (.bool ng)).setCell ⟨w.heap.size, 2, none⟩ (.slice D acc.length d)).drew :=
  (((hF.below.setCell (p := ⟨w.heap.size, 0, none⟩) (Nat.le_refl _) _).setCell (p := ⟨w.heap.size, 1, none⟩) (Nat.le_refl _) _).setCell (p := ⟨w.heap.size, 2, none⟩) (Nat.le_refl _) _).drew
theorem rc_done (hF : ReF w ng acc D d w1) (hk : k < n) (hng : ng = bang (l.drop 1)) (F : clsR [] (unbang (l.drop 1)) = if acc = [] then none else some (acc, l.drop (k + 1))) :
    RcPost l n w (.returned (.tuple #[.agg (ptCells false ng D acc.length d), .int .i64 ((k : Int) + 1), .bool (decide (0 < acc.length))])) (((w1.setCell ⟨w.heap.size, 0, none⟩ (.bool false)).setCell ⟨w.heap.size, 1, none⟩ (.bool ng)).setCell ⟨w.heap.size, 2, none⟩ (.slice D acc.length d)).drew := by
  have hne : ∀ (j : Nat), Value.ownBlock (.slice D acc.length d) ≠ some ({ block := w.heap.size, off := j } : Addr).block := fun j e => by have h2 : w.heap.size + 2 ≤ w.heap.size := (hF.own.lt _ e).1; omega
  have ho := (((hF.own.setOther (hne 0) (.bool false)).setOther (hne 1) (.bool ng)).setOther (hne 2) (.slice D acc.length d)).drew
  refine ⟨ng, _, D, acc.length, d, _, rfl, rc_world hF, ?_⟩
  by_cases hz : acc = []
  · subst hz
    rw [if_neg (by decide), F, if_pos rfl]
  · have hl : 0 < acc.length := by cases acc with | nil => exact absurd rfl hz | cons _ _ => simp
    rw [if_pos (decide_eq_true hl)]
    rw [if_neg hz] at F
    refine ⟨acc, k + 1, F, by omega, by omega, by omega, hng, rfl, ho.rows (enc := spnR) (k := 2) (fun _ => rfl) (by decide), fun a ha' => ?_⟩
    have := (hF.own.lt a.block (by rw [ha']; rfl)).1
    omega
theorem rc_end (hF : ReF w ng acc D d w1) (z : Int) (F : clsR [] (unbang (l.drop 1)) = none) :
    RcPost l n w (.returned (.tuple #[.agg (ptCells false ng D acc.length d), .int .i64 z, .bool false])) (((w1.setCell ⟨w.heap.size, 0, none⟩ (.bool false)).setCell ⟨w.heap.size, 1, none⟩ (.bool ng)).setCell ⟨w.heap.size, 2, none⟩ (.slice D acc.length d)).drew :=
  ⟨ng, false, D, acc.length, d, z, rfl, rc_world hF, by rw [if_neg (by decide)]; exact F⟩
end
theorem clsR_nil (acc : List (Int × Int)) : clsR acc [] = none := clsR_none rfl
def ReS (w : World) (bg : Bool) (l : List Int) (n k : Nat) (wx : World) : Prop := ReF w bg [] none 0 wx ∧ unbang (l.drop 1) = l.drop k ∧ 1 ≤ k ∧ k ≤ n
def ReL (w : World) (bg : Bool) (l : List Int) (k : Nat) (wr : World) : Prop :=
  ∃ acc D d, ReF w bg acc D d wr ∧ 1 ≤ k ∧ acc.length ≤ k ∧ clsR acc (l.drop k) = clsR [] (unbang (l.drop 1))
set_option maxRecDepth 100000 in
set_option maxHeartbeats 2000000 in
theorem rclass_any (A : Option Addr) (n c : Nat) (l : List Int) (w : World) (hr : RowsIn w w.heap.size A n c e64 1 l) (hn : n ≤ 4096) (h1 : 1 ≤ n) :
    Calls Tryd.prog 16 #[.slice A n c] w (RcPost l n w) := by
  have hnl := hr.len
  have hnc := hr.le
  obtain ⟨x0, hx0⟩ : ∃ x, l[0]? = some x := ⟨_, List.getElem?_eq_getElem (by omega)⟩
  obtain ⟨g, o, rfl, hg, _⟩ := hr.one hx0
  obtain ⟨wa, hwa⟩ : ∃ wa, wa = (w.alloc (.cells (ptCells false false none 0 0) 44)).alloc (.cells (ptCells false false none 0 0) 44) := ⟨_, rfl⟩
  have F0 : ReF w false [] none 0 wa := by
    rw [hwa]
    exact { res := row_alloc (heap_alloc_new w _) _, box := by have := heap_alloc_new (w.alloc (.cells (ptCells false false none 0 0) 44)) (.cells (ptCells false false none 0 0) 44); simpa using this, own := Owns.nil _ _ _, below := ((Below.refl _ _).alloc (Nat.le_refl _) _).alloc (by simp) _, size := by simp }
  have HR := Lib.hid hr
  have HNL := Lib.hid hnl
  have HN := Lib.hid hn
  have HNC := Lib.hid hnc
  have H1 := Lib.hid h1
  have HF0 := Lib.hid F0
  have HWA := Lib.hid hwa
  clear hr hnl hn hnc h1 hx0 F0 hwa
  obtain ⟨bg, hbg⟩ : ∃ b, bang (l.drop 1) = b := ⟨_, rfl⟩
  have HBG := Lib.hid hbg
  clear hbg
  have hone0 : Hid ((ptCells false false none 0 0 : Array Value).all (·.oneCell') = true) := by simp [Hid, Value.oneCell']
  go_enter Tryd.func16, Tryd.ntmps16
  go_upto_region 3 with fail
  rw [← HWA.out]
  clear HWA
  go_cut [18] (fun s18 wx => s18 = .bool (decide (l[1]? = some 33)) ∧ wx = wa)
  case first =>
    by_cases h1n : 1 < n
    · obtain ⟨x, hx⟩ : ∃ x, l[1]? = some x := ⟨_, List.getElem?_eq_getElem (by have := HNL.out; omega)⟩
      obtain ⟨g', o', e, _, hc⟩ := (HR.out.below HF0.out.below).one hx
      injection e with e; injection e with e1 e2; subst e1; subst e2
      have hkc : (1 : Int) < (n : Int) := by omega
      by_cases h33 : x = 33
      · subst h33
        have HD : Hid (decide (l[1]? = some 33) = true) := decide_eq_true hx
        clear hx
        go_wp2
        go_meet
        case rel => exact ⟨by rw [HD.out], rfl⟩
      · have hxe : ((x : Int) == 33) = false := beq_eq_false_iff_ne.2 h33
        have HD : Hid (decide (l[1]? = some 33) = false) := decide_eq_false (by rw [hx]; intro e; injection e with e; exact h33 e)
        clear hx h33
        go_wp2
        go_meet
        case rel => exact ⟨by rw [HD.out], rfl⟩
    · have hkc : ¬ (1 : Int) < (n : Int) := by omega
      have HD : Hid (decide (l[1]? = some 33) = false) := decide_eq_false (by rw [List.getElem?_eq_none (by have := HNL.out; omega)]; intro e; cases e)
      go_wp2
      go_meet
      case rel => exact ⟨by rw [HD.out], rfl⟩
  case rest =>
    obtain ⟨rfl, hwc⟩ := hcut
    rw [hwc]
    clear hwc
    go_upto_if 18 with fail
    go_cut [6] (fun s6 wx => ∃ k : Nat, s6 = .int .i64 k ∧ ReS w bg l n k wx)
    case first =>
      have c2 := row_cell HF0.out.box 1
      have f2 := row_cold HF0.out.box 1
      by_cases h33 : l[1]? = some 33
      · have h1n : 1 < n := by have := (List.getElem?_eq_some_iff.1 h33).1; have := HNL.out; omega
        have hd : decide (l[1]? = some 33) = true := decide_eq_true h33
        have HB := Lib.hid (bang_yes h33)
        have H1N := Lib.hid h1n
        rw [hd]
        clear h33 h1n hd
        go_wp2
        go_meet
        case rel => exact ⟨2, rfl, by rw [← HBG.out, HB.out.1]; exact HF0.out.neg, HB.out.2, by omega, H1N.out⟩
      · have hd : decide (l[1]? = some 33) = false := decide_eq_false h33
        have HB := Lib.hid (bang_no h33)
        rw [hd]
        clear h33 hd
        go_wp2
        go_meet
        case rel => exact ⟨1, rfl, by rw [← HBG.out, HB.out.1]; exact HF0.out, HB.out.2, by omega, H1.out⟩
    case rest =>
      obtain ⟨k0, rfl, hF, hun, hk1, hk2⟩ := hcut
      have L0 : Hid (ReL w bg l k0 wc) := ⟨[], none, 0, hF, hk1, Nat.zero_le _, by rw [hun]⟩
      clear hF hun hk1 HF0
      go_wp2
      go_loopw [6] (fun v6 wr => ∃ k : Nat, v6 = .int .i64 k ∧ k ≤ n ∧ Hid (ReL w bg l k wr)) (fun v6 _ => n - (intOf v6).toNat)
      case atStart => exact ⟨k0, rfl, hk2, L0⟩
      case round =>
        obtain ⟨k, rfl, hkn, HL⟩ := hrel
        obtain ⟨acc, D, d, hF, hk1, hac, heq⟩ := HL.out
        obtain ⟨wq, rfl⟩ : ∃ z : World, z = wr := ⟨_, rfl⟩
        have hrows := HR.out.below hF.below
        have HEQ := Lib.hid heq
        have HF := Lib.hid hF
        have hF2 := hF.below
        have HKN := Lib.hid hkn
        have HK1 := Lib.hid hk1
        have HAC := Lib.hid hac
        clear heq hF hk1 hac HL L0 hk2
        have hn40 : (n : Int) ≤ 4096 := by have := HN.out; omega
        by_cases hlt : k < n
        · have hkc : (k : Int) < (n : Int) := by omega
          obtain ⟨y, hy⟩ : ∃ y, l[k]? = some y := ⟨_, List.getElem?_eq_getElem (by have := HNL.out; omega)⟩
          obtain ⟨g', o', e, _, hc⟩ := hrows.one hy
          injection e with e; injection e with e1 e2; subst e1; subst e2
          by_cases h93 : y = 93
          · subst h93
            have F : Hid (clsR [] (unbang (l.drop 1)) = if acc = [] then none else some (acc, l.drop (k + 1))) := by show _ = _; rw [← HEQ.out]; exact clsR_close (nx_at hy (by decide))
            clear hy hlt hrows
            go_wp2
            have b0 := row_cell HF.out.box 0
            have b1 := row_cell HF.out.box 1
            have b2 := row_cell HF.out.box 2
            have r0 := row_cell HF.out.res 0
            have r1 := row_cell HF.out.res 1
            have r2 := row_cell HF.out.res 2
            have f0 := row_cold HF.out.res 0
            have f1 := row_cold HF.out.res 1
            have f2 := row_cold HF.out.res 2
            have hne : w.heap.size + 1 ≠ w.heap.size := by omega
            have hw1 : IntKind.i64.wrap ((k : Int) + 1) = (k : Int) + 1 := by rw [IntKind.wrap_i64]; omega
            have hws : w.heap.size + 1 < wq.heap.size := row_lt HF.out.box
            go_region
            all_goals
              go_wp2
              refine bodyPost_ret (results_cttG rfl _ _ w.heap.size _ (ptCells false bg D acc.length d) (0, 0) _ rfl (res_putR HF.out.res) Tryd.underlying44 rfl info_piece) rfl ?_
              exact rc_done HF.out (by omega) HBG.out.symm F.out
          · have hyb : ((y : Int) != 93) = true := bne_iff_ne.2 h93
            have hck : ¬ c = k := by have := HNC.out; omega
            have hkc2 : (k : Int) ≤ (c : Int) := by have := HNC.out; omega
            have hkn2 : (k : Int) ≤ (n : Int) := by omega
            obtain ⟨M2, hM2⟩ : ∃ z, n - k = z := ⟨_, rfl⟩
            obtain ⟨C2, hC2⟩ : ∃ z, c - k = z := ⟨_, rfl⟩
            have hsuf : RowsIn wq wq.heap.size (some ⟨g, o + k, none⟩) M2 C2 e64 1 (l.drop k) := by
              have := (hrows.more hF2.size).suf (n := k) hkn
              rw [hM2, hC2, Nat.mul_one] at this; exact this
            have HSUF := Lib.hid hsuf
            cases hnx : nx (l.drop k) with
            | none =>
              have HM := Lib.hid (member_none _ _ _ _ _ hsuf hnx)
              have F : Hid (clsR [] (unbang (l.drop 1)) = none) := by show _ = _; rw [← HEQ.out]; exact clsR_none hnx
              clear hnx hy h93 hsuf hrows hF2 hlt
              go_wp2_with (first
                | (go_at_call 19; refine HM.out.mono ?_; rintro e w' ⟨rfl, hw'⟩; rw [hw']; clear hw')
                | (refine wpList_store_rowTo rfl _ _ _ rfl rfl w.heap.size (ptCells false false none 0 0) rfl rfl 44 (ptCells false false none 0 0) HF.out.res info_piece rfl hone0.out ?_))
              refine bodyPost_ret (results_cttG rfl _ _ w.heap.size _ (ptCells false false none 0 0) (0, 0) _ rfl (row_set HF.out.res) Tryd.underlying44 rfl info_piece) rfl ?_
              exact ⟨false, false, none, 0, 0, 0, rfl, below_setRow HF.out.below (Nat.le_refl _) _, by rw [if_neg (by decide)]; exact F.out⟩
            | some z =>
              obtain ⟨x, pl, r⟩ := z
              have HM := Lib.hid (member_some _ _ _ _ _ hsuf hnx)
              unfold MbPost at HM
              have HC : Hid (¬ (x = 93 ∧ pl = false)) := fun ⟨h1, h2⟩ => by
                rcases nx_yes hnx with ⟨h3, _⟩ | ⟨_, _, h3⟩
                · rw [h2] at h3; cases h3
                · have h4 := drop_get hy
                  rw [h3] at h4
                  injection h4 with h4
                  exact h93 (h4 ▸ h1)
              have HNE := Lib.hid hnx
              have hdl : (l.drop k).length = n - k := by rw [List.length_drop, HNL.out]
              rw [hdl] at HM
              clear hdl hnx hy h93 hsuf hF2
              go_upto_region 8 with (go_at_call 19; refine HM.out.mono ?_; rintro e w' ⟨k', rfl, hw', g1, g2, g3⟩; rw [hw']; clear hw'; have G1 := Lib.hid g1; have G2 := Lib.hid g2; have G3 := Lib.hid g3; clear g1 g2 g3)
              have hk40 : (k' : Int) ≤ 4096 := by have := G3.out; omega
              go_cut [6] (fun s6 wx => ∃ k2 : Nat, s6 = .int .i64 k2 ∧ k < k2 ∧ k2 ≤ n ∧ r = l.drop k2 ∧ wx = wq)
              case first =>
                go_wp2
                go_meet
                case rel => exact ⟨k + k', by go_num, by have := G2.out; omega, by have := G3.out; omega, by rw [G1.out, List.drop_drop], rfl⟩
              case rest =>
                obtain ⟨k2, rfl, hk2, hk2n, hr2, hwc⟩ := hcut
                rw [hwc]
                clear hwc hkc hkc2 hkn2 hck hM2 hC2
                have H5 := Lib.hid hr2
                clear hr2
                have hz1 : (0 : Int) < (k' : Int) := by have := G2.out; omega
                have hz2 : ((k' : Int) == 0) = false := beq_eq_false_iff_ne.2 (by omega)
                go_upto_region 10 with fail
                go_cut [65] (fun s65 wx => s65 = .bool (grd (l.drop k2)) ∧ wx = wq)
                case first =>
                  by_cases g1 : k2 + 1 < n
                  · obtain ⟨y0, hy0⟩ : ∃ y, l[k2]? = some y := ⟨_, List.getElem?_eq_getElem (by have := HNL.out; omega)⟩
                    obtain ⟨y1, hy1⟩ : ∃ y, l[k2 + 1]? = some y := ⟨_, List.getElem?_eq_getElem (by have := HNL.out; omega)⟩
                    obtain ⟨g', o', e, _, hc0⟩ := hrows.one hy0
                    injection e with e; injection e with e1 e2; subst e1; subst e2
                    obtain ⟨g', o', e, _, hc1⟩ := hrows.one hy1
                    injection e with e; injection e with e1 e2; subst e1; subst e2
                    have HGR := Lib.hid (grd_at (l := l) (k := k2) hy0 hy1)
                    have hd2 : (k2 : Int) + 1 < (n : Int) := by omega
                    have hd3 : (k2 : Int) < (n : Int) := by omega
                    have hd4 : ((k2 : Int) + 1).toNat = k2 + 1 := by omega
                    have hd5 : (0 : Int) ≤ (k2 : Int) + 1 := by omega
                    clear hy0 hy1 g1 hrows hc
                    by_cases z0 : y0 = 45
                    · subst z0
                      by_cases z1 : y1 = 93
                      · subst z1
                        go_wp2
                        go_meet
                        case rel => exact ⟨by rw [HGR.out]; rfl, rfl⟩
                      · have hz1 : ((y1 : Int) != 93) = true := bne_iff_ne.2 z1
                        have HGV : Hid (grd (l.drop k2) = true) := by show _ = _; rw [HGR.out]; exact decide_eq_true ⟨rfl, z1⟩
                        clear z1
                        go_wp2
                        go_meet
                        case rel => exact ⟨by rw [HGV.out], rfl⟩
                    · have hz0 : ((y0 : Int) == 45) = false := beq_eq_false_iff_ne.2 z0
                      have HGV : Hid (grd (l.drop k2) = false) := by show _ = _; rw [HGR.out]; exact decide_eq_false fun h => z0 h.1
                      clear z0
                      go_wp2
                      go_meet
                      case rel => exact ⟨by rw [HGV.out], rfl⟩
                  · have HGR := Lib.hid (grd_end (l := l) (k := k2) (by have := HNL.out; omega))
                    have hd2 : ¬ (k2 : Int) + 1 < (n : Int) := by omega
                    clear g1 hrows hc
                    go_wp2
                    go_meet
                    case rel => exact ⟨by rw [HGR.out], rfl⟩
                case rest =>
                  obtain ⟨rfl, hwc⟩ := hcut
                  rw [hwc]
                  clear hwc hc
                  cases hgr : grd (l.drop k2) with
                  | false =>
                    have HG : Hid (clsR (acc ++ [(x, x)]) (l.drop k2) = clsR [] (unbang (l.drop 1))) := by show _ = _; rw [← HEQ.out, ← H5.out]; exact (clsR_one HNE.out HC.out (by rw [H5.out]; exact of_decide_eq_false hgr)).symm
                    clear hgr hrows
                    have b2 := row_cell HF.out.box 2
                    have hac : acc.length ≤ 4096 := by have := HAC.out; omega
                    go_wp2_with (at_builtin; refine wpList_add1 rfl rfl Tryd.underlying42 info_spanR rfl (by decide) HF.out.own rfl HF.out.size rfl rfl rfl ?_ ?_ ?_ ?_; simp [Value.oneCell']; (unfold maxLen; omega); (omega); intro A3 c3 w3 hown3 hl3 hbk3; have HBX := Lib.hid (row_left HF.out.box hl3 (fun e => by have h2 : w.heap.size + 2 ≤ w.heap.size + 1 := (HF.out.own.lt _ e).1; omega)); have q5 := row_cell HBX.out 2; have f5 := row_cold HBX.out 2; have HO3 := Lib.hid hown3; have HL3 := Lib.hid hl3; clear hown3 hl3 hbk3)
                    go_roundw
                    case rel => exact ⟨k2, by go_num, hk2n, acc ++ [(x, x)], A3, c3, HF.out.add HL3.out HO3.out, by omega, by have := HAC.out; rw [List.length_append]; simp; omega, HG.out⟩
                    case measure => (simp [intOf]; omega)
                  | true =>
                    have hG := of_decide_eq_true hgr
                    have HGD := Lib.hid hG
                    have hk3 : k2 + 1 < n := by
                      have := hG.2.2
                      rw [List.length_drop] at this
                      have := HNL.out; omega
                    have hck : ¬ c = k2 + 1 := by have := HNC.out; omega
                    have hkc2 : (k2 : Int) + 1 ≤ (c : Int) := by have := HNC.out; omega
                    have hkn2 : (k2 : Int) + 1 ≤ (n : Int) := by omega
                    have hd4 : ((k2 : Int) + 1).toNat = k2 + 1 := by omega
                    have hd5 : (0 : Int) ≤ (k2 : Int) + 1 := by omega
                    obtain ⟨M3, hM3⟩ : ∃ z, n - (k2 + 1) = z := ⟨_, rfl⟩
                    obtain ⟨C3, hC3⟩ : ∃ z, c - (k2 + 1) = z := ⟨_, rfl⟩
                    have hsuf : RowsIn wq wq.heap.size (some ⟨g, o + (k2 + 1), none⟩) M3 C3 e64 1 (l.drop (k2 + 1)) := by
                      have := (hrows.more HF.out.below.size).suf (n := k2 + 1) (by omega)
                      rw [hM3, hC3, Nat.mul_one] at this; exact this
                    have hdr : r.drop 1 = l.drop (k2 + 1) := by rw [H5.out, List.drop_drop]
                    rw [← H5.out] at HGD
                    have hre : ∀ (y : Option (Int × Bool × List Int)), nx (l.drop (k2 + 1)) = y → nx (r.drop 1) = y := fun y h => by rw [hdr]; exact h
                    cases hny : nx (l.drop (k2 + 1)) with
                    | none =>
                      have HM2 := Lib.hid (member_none _ _ _ _ _ hsuf hny)
                      have F : Hid (clsR [] (unbang (l.drop 1)) = none) := by show _ = _; rw [← HEQ.out]; exact clsR_bad HNE.out HC.out HGD.out (hre _ hny)
                      clear hG hgr hrows hsuf hdr hre hny hk3
                      go_wp2_with (first
                        | (go_at_call 19; refine HM2.out.mono ?_; rintro e w' ⟨rfl, hw'⟩; rw [hw']; clear hw')
                        | (refine wpList_store_rowTo rfl _ _ _ rfl rfl w.heap.size (ptCells false false none 0 0) rfl rfl 44 (ptCells false false none 0 0) HF.out.res info_piece rfl hone0.out ?_))
                      refine bodyPost_ret (results_cttG rfl _ _ w.heap.size _ (ptCells false false none 0 0) (0, 0) _ rfl (row_set HF.out.res) Tryd.underlying44 rfl info_piece) rfl ?_
                      exact ⟨false, false, none, 0, 0, 0, rfl, below_setRow HF.out.below (Nat.le_refl _) _, by rw [if_neg (by decide)]; exact F.out⟩
                    | some z =>
                      obtain ⟨h, pl2, r2⟩ := z
                      have HM2 := Lib.hid (member_some _ _ _ _ _ hsuf hny)
                      unfold MbPost at HM2
                      have hdl : (l.drop (k2 + 1)).length = n - (k2 + 1) := by rw [List.length_drop, HNL.out]
                      rw [hdl] at HM2
                      have hny' := hre _ hny
                      by_cases hlt2 : h < x
                      · have F : Hid (clsR [] (unbang (l.drop 1)) = none) := by show _ = _; rw [← HEQ.out]; exact clsR_less HNE.out HC.out HGD.out hny' hlt2
                        clear hG hgr hrows hsuf hdr hre hny hny' hdl
                        go_wp2_with (first
                          | (go_at_call 19; refine HM2.out.mono ?_; rintro e w' ⟨k'', rfl, hw', g1, g2, g3⟩; rw [hw']; clear hw' g1; have hz3 : ((k'' : Int) == 0) = false := beq_eq_false_iff_ne.2 (by omega); have hz4 : (k'' : Int) ≤ 4096 := (by omega))
                          | (refine wpList_store_rowTo rfl _ _ _ rfl rfl w.heap.size (ptCells false false none 0 0) rfl rfl 44 (ptCells false false none 0 0) HF.out.res info_piece rfl hone0.out ?_))
                        refine bodyPost_ret (results_cttG rfl _ _ w.heap.size _ (ptCells false false none 0 0) (0, 0) _ rfl (row_set HF.out.res) Tryd.underlying44 rfl info_piece) rfl ?_
                        exact ⟨false, false, none, 0, 0, 0, rfl, below_setRow HF.out.below (Nat.le_refl _) _, by rw [if_neg (by decide)]; exact F.out⟩
                      · have HG : Hid (clsR (acc ++ [(x, h)]) r2 = clsR [] (unbang (l.drop 1))) := by show _ = _; rw [← HEQ.out]; exact (clsR_range HNE.out HC.out HGD.out hny' hlt2).symm
                        clear hG hgr hrows hsuf hdr hre hny hny' hdl
                        go_upto_region 12 with (go_at_call 19; refine HM2.out.mono ?_; rintro e w' ⟨k'', rfl, hw', g1, g2, g3⟩; rw [hw']; clear hw'; have K1 := Lib.hid g1; have hz3 : ((k'' : Int) == 0) = false := beq_eq_false_iff_ne.2 (by omega); have hz4 : (k'' : Int) ≤ 4096 := (by omega); clear g1)
                        have hk4 : k2 + (1 + k'') ≤ n := by omega
                        have HG2 : Hid (clsR (acc ++ [(x, h)]) (l.drop (k2 + (1 + k''))) = clsR [] (unbang (l.drop 1))) := by show _ = _; rw [← HG.out, K1.out, List.drop_drop, Nat.add_assoc]
                        have b2 := row_cell HF.out.box 2
                        have hac : acc.length ≤ 4096 := by have := HAC.out; omega
                        go_wp2_with (at_builtin; refine wpList_add1 rfl rfl Tryd.underlying42 info_spanR rfl (by decide) HF.out.own rfl HF.out.size rfl rfl rfl ?_ ?_ ?_ ?_; simp [Value.oneCell']; (unfold maxLen; omega); (omega); intro A3 c3 w3 hown3 hl3 hbk3; have HBX := Lib.hid (row_left HF.out.box hl3 (fun e => by have h2 : w.heap.size + 2 ≤ w.heap.size + 1 := (HF.out.own.lt _ e).1; omega)); have q5 := row_cell HBX.out 2; have f5 := row_cold HBX.out 2; have HO3 := Lib.hid hown3; have HL3 := Lib.hid hl3; clear hown3 hl3 hbk3)
                        go_roundw
                        case rel => exact ⟨k2 + (1 + k''), by go_num, hk4, acc ++ [(x, h)], A3, c3, HF.out.add HL3.out HO3.out, by omega, by have := HAC.out; rw [List.length_append]; simp; omega, HG2.out⟩
                        case measure => (simp [intOf]; omega)
        · have hkc : ¬ (k : Int) < (n : Int) := by omega
          have F : Hid (clsR [] (unbang (l.drop 1)) = none) := by show _ = _; rw [← HEQ.out, List.drop_of_length_le (by have := HNL.out; omega)]; exact clsR_nil _
          clear hrows hF2
          go_wp2
          have b0 := row_cell HF.out.box 0
          have b1 := row_cell HF.out.box 1
          have b2 := row_cell HF.out.box 2
          have r0 := row_cell HF.out.res 0
          have r1 := row_cell HF.out.res 1
          have r2 := row_cell HF.out.res 2
          have f0 := row_cold HF.out.res 0
          have f1 := row_cold HF.out.res 1
          have f2 := row_cold HF.out.res 2
          have hne : w.heap.size + 1 ≠ w.heap.size := by omega
          have hw1 : IntKind.i64.wrap ((k : Int) + 1) = (k : Int) + 1 := by rw [IntKind.wrap_i64]; omega
          have hws : w.heap.size + 1 < wq.heap.size := row_lt HF.out.box
          go_region
          all_goals
            go_wp2
            refine bodyPost_ret (results_cttG rfl _ _ w.heap.size _ (ptCells false bg D acc.length d) (0, 0) _ rfl (res_putR HF.out.res) Tryd.underlying44 rfl info_piece) rfl ?_
            exact rc_end HF.out _ F.out
end Go.Proofs.YtgidfmdbaimcnaaDoor
