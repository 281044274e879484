/- What a cut map's memory holds. -/
import Derived.Test.YtjmgocfoimhmjaaImapP
import Derived.Test.YtjmgocfoimhmjaaEqIW
import Derived.Test.YtjmgocfoimhmjaaRightW
import Derived.Test.YtjmgocfoimhmjaaImapW
import Derived.Deep.RegionWith
import Derived.Test.YtjmgocfoimhmjaaBreadP
import Derived.Test.YtjmgocfoimhmjaaGetW
import Derived.Test.YtjmgocfoimhmjaaApp
import Derived.Test.YtjmgocfoimhmjaaBlk
import Derived.Deep.RegionHeld3
import Derived.BigQuiet
import Derived.Deep.QuietTactic
import Derived.Deep.RegionHeldLaw
/- Inode maps with one entry set or cut: plain. -/
namespace Go.Proofs.Ytjmgocfoimhmjaa
open Go.RowKit

open Classical in
noncomputable def cutE (xs : List PlaceD) (gs : List Int) (n : Int) : Int :=
  if impE xs gs ≠ 0 then 4 else if n < 0 ∨ 48 ≤ n then 1 else if (xs.getD n.toNat ⟨0, 0⟩).Cell = 0 then 12 else if gs.getD n.toNat 0 = 2147483647 then 10 else 0
noncomputable def cutX (xs : List PlaceD) (gs : List Int) (n : Int) : List PlaceD := if cutE xs gs n = 0 then xs.set n.toNat ⟨0, 0⟩ else []
noncomputable def cutG (xs : List PlaceD) (gs : List Int) (n : Int) : List Int := if cutE xs gs n = 0 then gs.set n.toNat (gs.getD n.toNat 0 + 1) else []
noncomputable def setE (xs : List PlaceD) (gs : List Int) (n : Int) (p : PlaceD) : Int :=
  if impE xs gs ≠ 0 then 4 else if n < 0 ∨ 48 ≤ n ∨ rightB p.Cell p.Nth = false ∨ p.Cell = 0 then 1 else 0
noncomputable def setX (xs : List PlaceD) (gs : List Int) (n : Int) (p : PlaceD) : List PlaceD := if setE xs gs n p = 0 then xs.set n.toNat p else []
noncomputable def setG (xs : List PlaceD) (gs : List Int) (n : Int) (p : PlaceD) : List Int := if setE xs gs n p = 0 then gs else []
theorem cut_bad {xs : List PlaceD} {gs : List Int} {n : Int} {e : Int} (h : cutE xs gs n = e) (he : e ≠ 0) : cutX xs gs n = [] ∧ cutG xs gs n = [] := by
  unfold cutX cutG; rw [h, if_neg he, if_neg he]; exact ⟨rfl, rfl⟩
theorem cut_form {xs : List PlaceD} {gs : List Int} {n : Int} (h : impE xs gs ≠ 0) : cutE xs gs n = 4 := by unfold cutE; rw [if_pos h]
theorem cut_arg {xs : List PlaceD} {gs : List Int} {n : Int} (h : impE xs gs = 0) (hn : n < 0 ∨ 48 ≤ n) : cutE xs gs n = 1 := by unfold cutE; rw [if_neg (by simp [h]), if_pos hn]
theorem cut_none {xs : List PlaceD} {gs : List Int} {k : Nat} {p : PlaceD} (h : impE xs gs = 0) (hk : k < 48) (hp : xs[k]? = some p) (h0 : p.Cell = 0) : cutE xs gs k = 12 := by
  unfold cutE; rw [if_neg (by simp [h]), if_neg (by omega), if_pos (by rw [Int.toNat_natCast, List.getD_eq_getElem?_getD, hp]; exact h0)]
theorem cut_many {xs : List PlaceD} {gs : List Int} {k : Nat} {p : PlaceD} {g : Int} (h : impE xs gs = 0) (hk : k < 48) (hp : xs[k]? = some p) (h0 : p.Cell ≠ 0) (hg : gs[k]? = some g) (hg2 : g = 2147483647) : cutE xs gs k = 10 := by
  unfold cutE; rw [if_neg (by simp [h]), if_neg (by omega), if_neg (by rw [Int.toNat_natCast, List.getD_eq_getElem?_getD, hp]; exact h0), if_pos (by rw [Int.toNat_natCast, List.getD_eq_getElem?_getD, hg]; exact hg2)]
theorem cut_ok {xs : List PlaceD} {gs : List Int} {k : Nat} {p : PlaceD} {g : Int} (h : impE xs gs = 0) (hk : k < 48) (hp : xs[k]? = some p) (h0 : p.Cell ≠ 0) (hg : gs[k]? = some g) (hg2 : g ≠ 2147483647) : cutE xs gs k = 0 ∧ cutX xs gs k = xs.set k ⟨0, 0⟩ ∧ cutG xs gs k = gs.set k (g + 1) := by
  have e : cutE xs gs k = 0 := by
    unfold cutE; rw [if_neg (by simp [h]), if_neg (by omega), if_neg (by rw [Int.toNat_natCast, List.getD_eq_getElem?_getD, hp]; exact h0), if_neg (by rw [Int.toNat_natCast, List.getD_eq_getElem?_getD, hg]; exact hg2)]
  refine ⟨e, by unfold cutX; rw [if_pos e, Int.toNat_natCast], by unfold cutG; rw [if_pos e, Int.toNat_natCast, List.getD_eq_getElem?_getD, hg]; rfl⟩
theorem get48 {xs : List PlaceD} {k : Nat} (h : xs.length = 48) (hk : k < 48) : ∃ pc pn, xs[k]? = some (⟨pc, pn⟩ : PlaceD) := by
  have e := List.getElem?_eq_getElem (l := xs) (i := k) (by omega)
  generalize xs[k] = p at e
  exact ⟨p.Cell, p.Nth, e⟩
theorem getg {xs : List PlaceD} {gs : List Int} {k : Nat} (h : ImapOk xs gs) (hk : k < 48) : ∃ g, gs[k]? = some g ∧ 0 ≤ g ∧ g ≤ 2147483647 := by
  obtain ⟨_, g, _, e, _, h1, h2⟩ := h.2.2 k hk
  exact ⟨g, e, h1, h2⟩
theorem flat_set (xs : List PlaceD) : ∀ (k : Nat) (p : PlaceD), ((xs.flatMap PlaceD.cells).set (k * 2) (.int .i64 p.Cell)).set (k * 2 + 1) (.int .i64 p.Nth) = (xs.set k p).flatMap PlaceD.cells := by
  induction xs with
  | nil => intro k p; simp
  | cons x r ih =>
    intro k p
    match k with
    | 0 => simp [PlaceD.cells]
    | k + 1 =>
      have := ih k p
      simp only [List.flatMap_cons, List.set_cons_succ, PlaceD.cells, List.cons_append, List.nil_append] at *
      rw [show (k + 1) * 2 = (k * 2) + 1 + 1 by omega, List.set_cons_succ, List.set_cons_succ, List.set_cons_succ, List.set_cons_succ, ← this]
end Go.Proofs.Ytjmgocfoimhmjaa

/- slices.Equal at places, walked. -/
namespace Go.Proofs.Ytjmgocfoimhmjaa
open Go.RowKit


set_option maxRecDepth 20000 in
set_option maxHeartbeats 1000000 in
theorem eqp_any (A : Option Addr) (n c : Nat) (xs : List PlaceD) (A' : Option Addr) (n' c' : Nat) (ys : List PlaceD) (B B' : Nat) (w : World) (r : RowsIn w B A n c PlaceD.cells 2 xs) (r' : RowsIn w B' A' n' c' PlaceD.cells 2 ys) :
    Calls Try.prog 59 #[.slice A n c, .slice A' n' c'] w fun e w' => e = .returned (.bool (eqB xs ys)) ∧ Below w.heap.size w w' := by
  have hn := r.len
  have hn' := r'.len
  subst hn
  subst hn'
  have htop : (xs.length : Int) ≤ 9223372036854775807 := by have h1 := r.le; have h2 := r.top; unfold maxLen at h2; omega
  by_cases hl : xs.length = ys.length
  · obtain ⟨J, hJ, hg, hb, h1, h2⟩ := eq_to xs ys hl
    have HG := Lib.hid hg
    have HB := Lib.hid hb
    have E1 := Lib.hid h1
    have E2 := Lib.hid h2
    clear hg hb h1 h2
    have hli : (xs.length : Int) = (ys.length : Int) := by omega
    rw [← hl] at r' ⊢
    clear hl hli
    go_enter Try.func59, Try.ntmps59
    go_wp2
    go_loopw [13] (fun v13 wr => ∃ i : Nat, i ≤ J ∧ v13 = .int .i64 i ∧ Below w.heap.size w wr ∧ (∀ p : Addr, wr.cell? p = w.cell? p)) (fun v13 _ => xs.length - (intOf v13).toNat)
    case atStart => exact ⟨0, Nat.zero_le _, rfl, Below.refl _ _, fun _ => rfl⟩
    case round =>
      obtain ⟨i, hi, rfl, hbw, hce⟩ := hrel
      have RK := Lib.hid hce
      clear hce
      by_cases hlt : i < J
      · obtain ⟨x, e1, e2⟩ := HG.out i hlt
        have hil : (i : Int) < (xs.length : Int) := by omega
        obtain ⟨b, o, rfl, hbB, hc⟩ := (r.keep (w' := wr) (fun p _ => RK.out p)).at_ i _ e1
        obtain ⟨b', o', rfl, hbB', hc'⟩ := (r'.keep (w' := wr) (fun p _ => RK.out p)).at_ i _ e2
        obtain ⟨pc, pn⟩ := x
        have hp0 := hc 0 _ rfl
        have hp1 := hc 1 _ rfl
        have hq0 := hc' 0 _ rfl
        have hq1 := hc' 1 _ rfl
        simp only [Nat.add_zero] at hp0 hq0
        clear hc hc'
        clear e1 e2
        go_wp2
        go_quiet (fail)
        go_wp2
        go_roundw
        case rel => exact ⟨i + 1, by omega, by go_num, below_drewN hbw _, fun p => RK.out p⟩
        case measure => simp [intOf]; omega
      · obtain rfl : i = J := by omega
        by_cases hend : i < xs.length
        · obtain ⟨x, y, e1, e2, hne⟩ := HB.out hend
          have F := Lib.hid (E2.out hend)
          have hil : (i : Int) < (xs.length : Int) := by omega
          obtain ⟨b, o, rfl, hbB, hc⟩ := (r.keep (w' := wr) (fun p _ => RK.out p)).at_ i _ e1
          obtain ⟨b', o', rfl, hbB', hc'⟩ := (r'.keep (w' := wr) (fun p _ => RK.out p)).at_ i _ e2
          obtain ⟨pc, pn⟩ := x
          obtain ⟨qc, qn⟩ := y
          have hp0 := hc 0 _ rfl
          have hp1 := hc 1 _ rfl
          have hq0 := hc' 0 _ rfl
          have hq1 := hc' 1 _ rfl
          simp only [Nat.add_zero] at hp0 hq0
          clear hc hc' e1 e2
          by_cases hcc : pc = qc
          · subst hcc
            have hnn : pn ≠ qn := fun h => hne (by rw [h])
            have hne' : (pn == qn) = false := beq_eq_false_iff_ne.2 hnn
            clear hne
            go_wp2
            go_quiet (fail)
            go_wp2
            go_ret
            exact ⟨ret_b1 F.out.symm, below_drewN hbw _⟩
          · have hne' : (pc == qc) = false := beq_eq_false_iff_ne.2 hcc
            clear hne
            go_wp2
            go_quiet (fail)
            go_wp2
            go_ret
            exact ⟨ret_b1 F.out.symm, below_drewN hbw _⟩
        · have F := Lib.hid (E1.out (by omega))
          go_wp2
          go_ret
          exact ⟨ret_b1 F.out.symm, hbw⟩
  · have F := Lib.hid (eqB_no (xs := xs) (ys := ys) fun h => hl (by rw [h]))
    have hne : ((xs.length : Int) != (ys.length : Int)) = true := bne_iff_ne.2 (by omega)
    have hne2 : ¬ (xs.length : Int) = (ys.length : Int) := by omega
    go_enter Try.func59, Try.ntmps59
    go_wp2
    go_ret
    exact ⟨ret_b1 F.out.symm, Below.refl _ _⟩
end Go.Proofs.Ytjmgocfoimhmjaa

/- imap.Fresh and linenref.SameImap, walked. -/
namespace Go.Proofs.Ytjmgocfoimhmjaa
open Go.RowKit

/-- 48 places, 48 numbers, all nought, as make lays them. -/
def zeroPlaces : Array Value := Array.replicate 96 (.int .i64 0)
def zeroGens : Array Value := Array.replicate 48 (.int .i64 0)
theorem info_place : (Try.prog.info? 27).map (fun i => (i.zero, i.size, i.bytes)) = some (some (.agg #[.int .i64 0, .int .i64 0]), 2, 16) := by kernel_rfl
theorem info_imap : (Try.prog.info? 25).map (·.size) = some 2 := by kernel_rfl
theorem info_i64 : (Try.prog.info? 3).map (fun i => (i.zero, i.size, i.bytes)) = some (some (.int .i64 0), 1, 8) := by kernel_rfl
theorem run_mk {P : Program} {t e : TypeId} {z : Value} {size bytes : Nat} (ht : P.underlying t = some (.slice e)) (hinfo : (P.info? e).map (fun i => (i.zero, i.size, i.bytes)) = some (some z, size, bytes)) (hb : (bytes : Int) * 48 ≤ 281474976710656) {cs : Array Value} (hcs : madeCells z.cells (48 * size) = cs) :
    ∀ W : World, (Instr.makeSlice t (.int .i64 48) (.int .i64 48)).run P W = .ok (.slice (some ⟨W.heap.size, 0, none⟩) 48 48) (W.alloc (.cells cs e)) := fun W => by
  obtain ⟨i, hi, hzz⟩ := Option.map_eq_some_iff.1 hinfo
  simp only [Prod.mk.injEq] at hzz
  obtain ⟨hz, hs, hbb⟩ := hzz
  have := run_make (P := P) W t e i z ht hi hz .i64 .i64 48 48 (by omega) (by omega) (by rw [hbb]; exact hb) (by omega)
  rw [hs] at this
  rw [← hcs]
  exact this
theorem mk_places : ∀ W : World, (Instr.makeSlice 22 (.int .i64 48) (.int .i64 48)).run Try.prog W = .ok (.slice (some ⟨W.heap.size, 0, none⟩) 48 48) (W.alloc (.cells zeroPlaces 27)) :=
  run_mk (by kernel_rfl) info_place (by omega) (by kernel_rfl)
theorem mk_gens : ∀ W : World, (Instr.makeSlice 23 (.int .i64 48) (.int .i64 48)).run Try.prog W = .ok (.slice (some ⟨W.heap.size, 0, none⟩) 48 48) (W.alloc (.cells zeroGens 3)) :=
  run_mk (by kernel_rfl) info_i64 (by omega) (by kernel_rfl)
theorem rows_places {W : World} {b : Nat} {t : TypeId} (h : W.heap[b]? = some (.cells zeroPlaces t (0, 0))) : RowsIn W W.heap.size (some ⟨b, 0, none⟩) 48 48 PlaceD.cells 2 (List.replicate 48 ⟨0, 0⟩) :=
  ⟨by simp, Nat.le_refl _, by unfold maxLen; omega, fun i x hx => by
    have hi : i < 48 := by have := (List.getElem?_eq_some_iff.1 hx).1; simpa using this
    rw [List.getElem?_replicate, if_pos hi] at hx
    injection hx with hx
    subst hx
    refine ⟨b, 0, rfl, (Array.getElem?_eq_some_iff.1 h).1, fun j u hu => ?_⟩
    have hj : j < 2 := by have := (List.getElem?_eq_some_iff.1 hu).1; simpa [PlaceD.cells] using this
    have hu' : u = .int .i64 0 := by
      obtain rfl | rfl : j = 0 ∨ j = 1 := by omega
      · simpa [PlaceD.cells] using hu.symm
      · simpa [PlaceD.cells] using hu.symm
    rw [Nat.zero_add, cell_of_row _ b _ _ _ _ h, hu']
    unfold zeroPlaces; rw [Array.getElem?_replicate, if_pos (by omega)]⟩
theorem rows_gens {W : World} {b : Nat} {t : TypeId} (h : W.heap[b]? = some (.cells zeroGens t (0, 0))) : RowsIn W W.heap.size (some ⟨b, 0, none⟩) 48 48 (fun z => [.int .i64 z]) 1 (List.replicate 48 0) :=
  ⟨by simp, Nat.le_refl _, by unfold maxLen; omega, fun i x hx => by
    have hi : i < 48 := by have := (List.getElem?_eq_some_iff.1 hx).1; simpa using this
    rw [List.getElem?_replicate, if_pos hi] at hx
    injection hx with hx
    subst hx
    refine ⟨b, 0, rfl, (Array.getElem?_eq_some_iff.1 h).1, fun j u hu => ?_⟩
    have hj : j < 1 := by have := (List.getElem?_eq_some_iff.1 hu).1; simpa using this
    obtain rfl : j = 0 := by omega
    have hu' : u = .int .i64 0 := by simpa using hu.symm
    rw [Nat.zero_add, cell_of_row _ b _ _ _ _ h, hu']
    unfold zeroGens; rw [Array.getElem?_replicate, if_pos (by omega)]⟩

set_option maxRecDepth 20000 in
set_option maxHeartbeats 1000000 in
theorem fresh_row (w : World) :
    Calls Try.prog 99 #[] w fun e w' => ∃ b b', e = .returned (.agg #[.slice (some ⟨b, 0, none⟩) 48 48, .slice (some ⟨b', 0, none⟩) 48 48]) ∧ w'.heap[b]? = some (.cells zeroPlaces 27) ∧ w'.heap[b']? = some (.cells zeroGens 3) ∧ Below w.heap.size w w' := by
  have h1 := mk_places
  have h2 := mk_gens
  go_enter Try.func99, Try.ntmps99
  go_wp2
  go_region_with (fail)
  · clear h1 h2
    go_wp2
    have e0 : ∀ (a b c : Obj), (((w.alloc a).alloc b).alloc c).drew.heap[w.heap.size]? = some a := fun a b c => by
      show (((w.alloc a).alloc b).alloc c).heap[w.heap.size]? = some a
      rw [heap_alloc_old _ _ (by simp; omega), heap_alloc_old _ _ (by simp)]
      exact heap_alloc_new w a
    refine bodyPost_ret (results_cell_row rfl _ _ w.heap.size _ _ (0, 0) _ rfl (e0 _ _ _) Try.underlying25 rfl info_imap) rfl ?_
    have e1 : ∀ (a b c : Obj), (((w.alloc a).alloc b).alloc c).drew.heap[w.heap.size + 1]? = some b := fun a b c => by
      show (((w.alloc a).alloc b).alloc c).heap[w.heap.size + 1]? = some b
      rw [heap_alloc_old _ _ (by simp)]
      have := heap_alloc_new (w.alloc a) b
      simpa using this
    have e2 : ∀ (a b c : Obj), (((w.alloc a).alloc b).alloc c).drew.heap[w.heap.size + 1 + 1]? = some c := fun a b c => by
      show (((w.alloc a).alloc b).alloc c).heap[w.heap.size + 1 + 1]? = some c
      have := heap_alloc_new ((w.alloc a).alloc b) c
      simpa using this
    exact ⟨_, _, rfl, e1 _ _ _, e2 _ _ _, ((((Below.refl _ _).alloc (Nat.le_refl _) _).alloc (by simp) _).alloc (by simp; omega) _).drew⟩
  · clear h1 h2
    go_wp2
    have e0 : ∀ (a b c : Obj), (((w.alloc a).alloc b).alloc c).drew.heap[w.heap.size]? = some a := fun a b c => by
      show (((w.alloc a).alloc b).alloc c).heap[w.heap.size]? = some a
      rw [heap_alloc_old _ _ (by simp; omega), heap_alloc_old _ _ (by simp)]
      exact heap_alloc_new w a
    refine bodyPost_ret (results_cell_row rfl _ _ w.heap.size _ _ (0, 0) _ rfl (e0 _ _ _) Try.underlying25 rfl info_imap) rfl ?_
    have e1 : ∀ (a b c : Obj), (((w.alloc a).alloc b).alloc c).drew.heap[w.heap.size + 1]? = some b := fun a b c => by
      show (((w.alloc a).alloc b).alloc c).heap[w.heap.size + 1]? = some b
      rw [heap_alloc_old _ _ (by simp)]
      have := heap_alloc_new (w.alloc a) b
      simpa using this
    have e2 : ∀ (a b c : Obj), (((w.alloc a).alloc b).alloc c).drew.heap[w.heap.size + 1 + 1]? = some c := fun a b c => by
      show (((w.alloc a).alloc b).alloc c).heap[w.heap.size + 1 + 1]? = some c
      have := heap_alloc_new ((w.alloc a).alloc b) c
      simpa using this
    exact ⟨_, _, rfl, e2 _ _ _, e1 _ _ _, ((((Below.refl _ _).alloc (Nat.le_refl _) _).alloc (by simp) _).alloc (by simp; omega) _).drew⟩

set_option maxRecDepth 20000 in
set_option maxHeartbeats 1000000 in
theorem same_any (A : Option Addr) (n c : Nat) (xs : List PlaceD) (A' : Option Addr) (n' c' : Nat) (gs : List Int) (D : Option Addr) (m d : Nat) (ys : List PlaceD) (D' : Option Addr) (m' d' : Nat) (hs : List Int) (w : World) (r : RowsIn w w.heap.size A n c PlaceD.cells 2 xs) (r' : RowsIn w w.heap.size A' n' c' (fun z => [.int .i64 z]) 1 gs) (q : RowsIn w w.heap.size D m d PlaceD.cells 2 ys) (q' : RowsIn w w.heap.size D' m' d' (fun z => [.int .i64 z]) 1 hs) :
    Calls Try.prog 21 #[.agg #[.slice A n c, .slice A' n' c'], .agg #[.slice D m d, .slice D' m' d']] w fun e w' => e = .returned (.bool (eqB xs ys && eqB gs hs)) ∧ Below w.heap.size w w' := by
  have H1 : Hid (∀ W, Below w.heap.size w W → Calls Try.prog 59 #[.slice A n c, .slice D m d] W fun e w' => e = .returned (.bool (eqB xs ys)) ∧ Below W.heap.size W w') := fun W h => eqp_any A n c xs D m d ys _ _ W (r.below h) (q.below h)
  have H2 : Hid (∀ W, Below w.heap.size w W → Calls Try.prog 44 #[.slice A' n' c', .slice D' m' d'] W fun e w' => e = .returned (.bool (eqB gs hs)) ∧ Below W.heap.size W w') := fun W h => eqi_any A' n' c' gs D' m' d' hs _ _ W (r'.below h) (q'.below h)
  clear r r' q q'
  have hb1 : Below w.heap.size w ((w.alloc (.cells #[.slice A n c, .slice A' n' c'] 25)).alloc (.cells #[.slice D m d, .slice D' m' d'] 25)) := ((Below.refl _ _).alloc (Nat.le_refl _) _).alloc (by simp) _
  obtain ⟨p0, p1⟩ := box2 w (.slice A n c) (.slice A' n' c') 25
  obtain ⟨wa, hwa⟩ : ∃ wa, wa = w.alloc (.cells #[.slice A n c, .slice A' n' c'] 25) := ⟨_, rfl⟩
  have hwz : wa.heap.size = w.heap.size + 1 := by rw [hwa]; simp
  rw [← hwa] at p0 p1 hb1
  obtain ⟨q0, q1⟩ := box2 wa (.slice D m d) (.slice D' m' d') 25
  obtain ⟨wb, hwb⟩ : ∃ wb, wb = wa.alloc (.cells #[.slice D m d, .slice D' m' d'] 25) := ⟨_, rfl⟩
  have hab : Below wa.heap.size wa wb := by rw [hwb]; exact (Below.refl _ _).alloc (Nat.le_refl _) _
  have hbz : wb.heap.size = w.heap.size + 2 := by rw [hwb]; simp; omega
  rw [← hwb] at q0 q1 hb1
  rw [hwz] at q0 q1
  have s0 := (hab.cell (p := ⟨w.heap.size, 0, none⟩) (show w.heap.size < wa.heap.size by omega)).trans p0
  have s1 := (hab.cell (p := ⟨w.heap.size, 1, none⟩) (show w.heap.size < wa.heap.size by omega)).trans p1
  clear p0 p1 hab
  have z0 : w.heap.size < wb.heap.size := by omega
  have z1 : w.heap.size + 1 < wb.heap.size := by omega
  clear hwz hbz
  generalize hx : eqB xs ys = ex at *
  generalize eqB gs hs = eg at *
  cases ex
  · go_enter Try.func21, Try.ntmps21
    go_wp2_with (go_at_call 59; rw [← hwa, ← hwb]; refine (H1.out _ hb1).mono ?_; rintro e w1 ⟨rfl, hc1⟩)
    go_ret
    exact ⟨rfl, hb1.trans (hc1.mono (by omega))⟩
  · go_enter Try.func21, Try.ntmps21
    go_wp2_with (first
      | (go_at_call 59; rw [← hwa, ← hwb]; refine (H1.out _ hb1).mono ?_; rintro e w1 ⟨rfl, hc1⟩; have t1 := (hc1.cell (p := ⟨w.heap.size, 1, none⟩) z0).trans s1; have t2 := (hc1.cell (p := ⟨w.heap.size + 1, 1, none⟩) z1).trans q1; have hb2 := hb1.trans (hc1.mono (Nat.le_of_lt z0)))
      | (go_at_call 44; refine (H2.out _ hb2).mono ?_; rintro e w2 ⟨rfl, hc2⟩))
    go_ret
    exact ⟨rfl, hb2.trans (hc2.mono hb2.size)⟩
end Go.Proofs.Ytjmgocfoimhmjaa

/- Inode maps read from bytes: plain. -/
namespace Go.Proofs.Ytjmgocfoimhmjaa
open Go.RowKit Go.PlainAid

/-- The number at p: what is wrong with it, how long it is, what it is. -/
def jE (s : ByteArray) (p : Nat) : Int := getE (bt (tl s p)) (tl s p).size
def jK (s : ByteArray) (p : Nat) : Nat := (getN (bt (tl s p)) (tl s p).size).toNat
def jV (s : ByteArray) (p : Nat) : Nat := (getV (bt (tl s p)) (tl s p).size).toNat
theorem j_num {s : ByteArray} {p : Nat} (h : jE s p = 0) :
    getN (bt (tl s p)) (tl s p).size = (jK s p : Int) ∧ getV (bt (tl s p)) (tl s p).size = (jV s p : Int) ∧ 1 ≤ jK s p ∧ jK s p ≤ 10 ∧ jK s p ≤ s.size - p := by
  obtain ⟨_, h2, h3, h4', h5⟩ := get_back (bt (tl s p)) (tl s p).size (fun j => bt_nonneg _ j) (fun j => bt_le _ j) h
  have hz := tl_size s p
  have a1 : getN (bt (tl s p)) (tl s p).size = (jK s p : Int) := by unfold jK; omega
  have a2 : getV (bt (tl s p)) (tl s p).size = (jV s p : Int) := by unfold jV; omega
  have a3 : jK s p ≤ (tl s p).size := h2
  exact ⟨a1, a2, by omega, by omega, by omega⟩
structure JOk (s : ByteArray) (p : Nat) : Prop where
  num : jE s p = 0
  top : jV s p ≤ 2147483647
  fits : p + jK s p + 2 ≤ s.size
def jpos (s : ByteArray) : Nat → Nat
  | 0 => 0
  | j + 1 => jpos s j + jK s (jpos s j) + 2
theorem jpos_lt (s : ByteArray) (j : Nat) : jpos s j + 2 ≤ jpos s (j + 1) := by simp only [jpos]; omega
theorem jpos_mono (s : ByteArray) {i j : Nat} (h : i < j) : jpos s i + 2 ≤ jpos s j := by
  induction h with
  | refl => exact jpos_lt s i
  | step _ ih => rename_i m _; have h1 := jpos_lt s m; rw [Nat.succ_eq_add_one]; omega
theorem jpos_inj {s : ByteArray} {i j : Nat} (h : jpos s i = jpos s j) : i = j := by
  rcases Nat.lt_trichotomy i j with h1 | h1 | h1
  · have := jpos_mono s h1; omega
  · exact h1
  · have := jpos_mono s h1; omega
def jpl (s : ByteArray) (p : Nat) : PlaceD := ⟨bt s (p + jK s p), bt s (p + jK s p + 1)⟩
def jPl (s : ByteArray) (j : Nat) : List PlaceD := (List.range j).map fun i => jpl s (jpos s i)
def jGs (s : ByteArray) (j : Nat) : List Int := (List.range j).map fun i => (jV s (jpos s i) : Int)
theorem jPl_succ (s : ByteArray) (j : Nat) : jPl s (j + 1) = jPl s j ++ [jpl s (jpos s j)] := by simp [jPl, List.range_succ]
theorem jGs_succ (s : ByteArray) (j : Nat) : jGs s (j + 1) = jGs s j ++ [(jV s (jpos s j) : Int)] := by simp [jGs, List.range_succ]
theorem jPl_length (s : ByteArray) (j : Nat) : (jPl s j).length = j := by simp [jPl]
theorem jGs_length (s : ByteArray) (j : Nat) : (jGs s j).length = j := by simp [jGs]
structure ImrOk (s : ByteArray) : Prop where
  all : ∀ j, j < 48 → JOk s (jpos s j)
  end_ : jpos s 48 = s.size
  right : impE (jPl s 48) (jGs s 48) = 0
open Classical in
noncomputable def imrE (s : ByteArray) : Int := if ImrOk s then 0 else 4
open Classical in
noncomputable def imrP (s : ByteArray) : List PlaceD := if ImrOk s then jPl s 48 else []
open Classical in
noncomputable def imrG (s : ByteArray) : List Int := if ImrOk s then jGs s 48 else []
theorem imr_bad {s : ByteArray} (h : ¬ ImrOk s) : imrE s = 4 ∧ imrP s = [] ∧ imrG s = [] := by
  unfold imrE imrP imrG; simp only [if_neg h, and_self]
theorem imr_ok {s : ByteArray} (h : ImrOk s) : imrE s = 0 ∧ imrP s = jPl s 48 ∧ imrG s = jGs s 48 := by
  unfold imrE imrP imrG; simp only [if_pos h, and_self]
theorem jpos_end {s : ByteArray} (h : ∀ j, j < 48 → JOk s (jpos s j)) : jpos s 48 ≤ s.size := (h 47 (by omega)).fits
/-- Ahead of the end, at a place where an entry of a right text begins, one begins. -/
theorem imr_at {s : ByteArray} (h : ImrOk s) {j : Nat} (hj : jpos s j < s.size) : j < 48 ∧ JOk s (jpos s j) := by
  have he := h.end_
  have : j < 48 := by
    rcases Nat.lt_trichotomy j 48 with h1 | h1 | h1
    · exact h1
    · subst h1; omega
    · have := jpos_mono s h1; omega
  exact ⟨this, h.all j this⟩
theorem imr_iff {s : ByteArray} {j : Nat} (hall : ∀ i, i < j → JOk s (jpos s i)) (he : jpos s j = s.size) : ImrOk s ↔ impE (jPl s j) (jGs s j) = 0 := by
  constructor
  · intro h
    have : j = 48 := jpos_inj (he.trans h.end_.symm)
    subst this; exact h.right
  · intro h
    have hj : j = 48 := by
      by_cases hk : ImapOk (jPl s j) (jGs s j)
      · have := hk.1; rwa [jPl_length] at this
      · rw [impE_no hk] at h; cases h
    subst hj
    exact ⟨hall, he, h⟩
end Go.Proofs.Ytjmgocfoimhmjaa

/- What imap.Read and its reference answer; imap.Fresh once more. -/
namespace Go.Proofs.Ytjmgocfoimhmjaa
open Go.RowKit Go.PlainAid

set_option maxRecDepth 20000 in
set_option maxHeartbeats 1000000 in
theorem fresh_at (w : World) :
    Calls Try.prog 99 #[] w fun e w' => ∃ b b', e = .returned (.agg #[.slice (some ⟨b, 0, none⟩) 48 48, .slice (some ⟨b', 0, none⟩) 48 48]) ∧ w'.heap[b]? = some (.cells zeroPlaces 27) ∧ w'.heap[b']? = some (.cells zeroGens 3) ∧ Below w.heap.size w w' ∧ w.heap.size < b ∧ w.heap.size < b' ∧ b ≠ b' := by
  have h1 := mk_places
  have h2 := mk_gens
  go_enter Try.func99, Try.ntmps99
  go_wp2
  go_region_with (fail)
  · clear h1 h2
    go_wp2
    have e0 : ∀ (a b c : Obj), (((w.alloc a).alloc b).alloc c).drew.heap[w.heap.size]? = some a := fun a b c => by
      show (((w.alloc a).alloc b).alloc c).heap[w.heap.size]? = some a
      rw [heap_alloc_old _ _ (by simp; omega), heap_alloc_old _ _ (by simp)]
      exact heap_alloc_new w a
    refine bodyPost_ret (results_cell_row rfl _ _ w.heap.size _ _ (0, 0) _ rfl (e0 _ _ _) Try.underlying25 rfl info_imap) rfl ?_
    have e1 : ∀ (a b c : Obj), (((w.alloc a).alloc b).alloc c).drew.heap[w.heap.size + 1]? = some b := fun a b c => by
      show (((w.alloc a).alloc b).alloc c).heap[w.heap.size + 1]? = some b
      rw [heap_alloc_old _ _ (by simp)]
      have := heap_alloc_new (w.alloc a) b
      simpa using this
    have e2 : ∀ (a b c : Obj), (((w.alloc a).alloc b).alloc c).drew.heap[w.heap.size + 1 + 1]? = some c := fun a b c => by
      show (((w.alloc a).alloc b).alloc c).heap[w.heap.size + 1 + 1]? = some c
      have := heap_alloc_new ((w.alloc a).alloc b) c
      simpa using this
    exact ⟨_, _, rfl, e1 _ _ _, e2 _ _ _, ((((Below.refl _ _).alloc (Nat.le_refl _) _).alloc (by simp) _).alloc (by simp; omega) _).drew, by omega, by omega, by omega⟩
  · clear h1 h2
    go_wp2
    have e0 : ∀ (a b c : Obj), (((w.alloc a).alloc b).alloc c).drew.heap[w.heap.size]? = some a := fun a b c => by
      show (((w.alloc a).alloc b).alloc c).heap[w.heap.size]? = some a
      rw [heap_alloc_old _ _ (by simp; omega), heap_alloc_old _ _ (by simp)]
      exact heap_alloc_new w a
    refine bodyPost_ret (results_cell_row rfl _ _ w.heap.size _ _ (0, 0) _ rfl (e0 _ _ _) Try.underlying25 rfl info_imap) rfl ?_
    have e1 : ∀ (a b c : Obj), (((w.alloc a).alloc b).alloc c).drew.heap[w.heap.size + 1]? = some b := fun a b c => by
      show (((w.alloc a).alloc b).alloc c).heap[w.heap.size + 1]? = some b
      rw [heap_alloc_old _ _ (by simp)]
      have := heap_alloc_new (w.alloc a) b
      simpa using this
    have e2 : ∀ (a b c : Obj), (((w.alloc a).alloc b).alloc c).drew.heap[w.heap.size + 1 + 1]? = some c := fun a b c => by
      show (((w.alloc a).alloc b).alloc c).heap[w.heap.size + 1 + 1]? = some c
      have := heap_alloc_new ((w.alloc a).alloc b) c
      simpa using this
    exact ⟨_, _, rfl, e2 _ _ _, e1 _ _ _, ((((Below.refl _ _).alloc (Nat.le_refl _) _).alloc (by simp) _).alloc (by simp; omega) _).drew, by omega, by omega, by omega⟩


abbrev zeroImap : Array Value := #[.slice none 0 0, .slice none 0 0]
abbrev imCells (b b' : Nat) : Array Value := #[.slice (some ⟨b, 0, none⟩) 48 48, .slice (some ⟨b', 0, none⟩) 48 48]
theorem place_two2 : ∀ x : PlaceD, x.cells.length = 2 := fun _ => rfl
theorem own_of_row {W : World} {base size n b : Nat} {t : TypeId} {cs : Array Value} {xs : List Value} (h : W.heap[b]? = some (.cells cs t (0, 0))) (hx : cs.toList = xs) (hn : cs.size = n * size) (hb : base ≤ b) (hm : n ≤ maxLen) : Owns W base size (.slice (some ⟨b, 0, none⟩) n n) n xs := by
  subst hx
  refine ⟨by simpa using hn, .inr ⟨b, 0, n, rfl, hb, row_lt h, Nat.le_refl _, hm, fun j u hu => ?_, fun j hj => ⟨?_, ?_⟩⟩⟩
  · rw [Nat.zero_add, row_cell h]; simpa using hu
  · rw [Nat.zero_add, row_cell h]
    have : j < cs.size := by omega
    simp [this]
  · rw [Nat.zero_add]; exact row_cold h j
theorem Owns.here {W : World} {base size n c b o j : Nat} {xs : List Value} {u : Value} (h : Owns W base size (.slice (some ⟨b, o, none⟩) n c) n xs) (hu : xs[j]? = some u) : W.cell? ⟨b, o + j, none⟩ = some u ∧ W.frozen? ⟨b, o + j, none⟩ = false := by
  obtain ⟨_, _, _, e1, _, _, c1, f1⟩ := h.at_ hu
  injection e1 with e1 _ _; injection e1 with e1; injection e1 with e1 e2 _
  subst e1; subst e2
  exact ⟨c1, f1⟩
/-- The places and the numbers as they are filled. -/
def plF (s : ByteArray) (i : Nat) : List PlaceD := jPl s i ++ List.replicate (48 - i) ⟨0, 0⟩
def gnF (s : ByteArray) (i : Nat) : List Int := jGs s i ++ List.replicate (48 - i) 0
theorem plF_len (s : ByteArray) {i : Nat} (h : i ≤ 48) : (plF s i).length = 48 := by simp [plF, jPl_length]; omega
theorem flat_pl_len : ∀ l : List PlaceD, (l.flatMap PlaceD.cells).length = 2 * l.length
  | [] => rfl
  | x :: r => by rw [List.flatMap_cons, List.length_append, flat_pl_len r]; simp [PlaceD.cells]; omega
theorem plF_set (s : ByteArray) {i : Nat} (h : i < 48) : (((plF s i).flatMap PlaceD.cells).set (i * 2) (.int .i64 (jpl s (jpos s i)).Cell)).set (i * 2 + 1) (.int .i64 (jpl s (jpos s i)).Nth) = (plF s (i + 1)).flatMap PlaceD.cells := by
  unfold plF
  rw [show 48 - i = (48 - (i + 1)) + 1 by omega, List.replicate_succ, jPl_succ, List.flatMap_append, List.flatMap_append, List.flatMap_append, List.flatMap_cons]
  have hl : ((jPl s i).flatMap PlaceD.cells).length = i * 2 := by rw [flat_pl_len, jPl_length]; omega
  generalize (jPl s i).flatMap PlaceD.cells = U at *
  rw [List.set_append_right _ _ (by omega), List.set_append_right _ _ (by omega), show i * 2 - U.length = 0 by omega, show i * 2 + 1 - U.length = 1 by omega]
  simp [PlaceD.cells]
theorem gnF_set (s : ByteArray) {i : Nat} (h : i < 48) : ((gnF s i).map (Value.int .i64)).set i (.int .i64 (jV s (jpos s i))) = (gnF s (i + 1)).map (Value.int .i64) := by
  unfold gnF
  rw [show 48 - i = (48 - (i + 1)) + 1 by omega, List.replicate_succ, jGs_succ, List.map_append, List.map_append, List.map_append, List.map_cons]
  have hl : ((jGs s i).map (Value.int .i64)).length = i := by rw [List.length_map, jGs_length]
  generalize (jGs s i).map (Value.int .i64) = U at *
  rw [List.set_append_right _ _ (by omega), show i - U.length = 0 by omega]
  simp
theorem plF_get (s : ByteArray) {i : Nat} (h : i < 48) : ((plF s i).flatMap PlaceD.cells)[i * 2]? = some (.int .i64 0) ∧ ((plF s i).flatMap PlaceD.cells)[i * 2 + 1]? = some (.int .i64 0) := by
  unfold plF
  rw [show 48 - i = (48 - (i + 1)) + 1 by omega, List.replicate_succ, List.flatMap_append, List.flatMap_cons]
  have hl : ((jPl s i).flatMap PlaceD.cells).length = i * 2 := by rw [flat_pl_len, jPl_length]; omega
  generalize (jPl s i).flatMap PlaceD.cells = U at *
  generalize List.flatMap PlaceD.cells (List.replicate (48 - (i + 1)) ⟨0, 0⟩) = V at *
  rw [show PlaceD.cells ⟨0, 0⟩ = [.int .i64 0, .int .i64 0] from rfl, List.getElem?_append_right (by omega), List.getElem?_append_right (l₁ := U) (by omega), show i * 2 - U.length = 0 by omega, show i * 2 + 1 - U.length = 1 by omega]
  exact ⟨rfl, rfl⟩
theorem gnF_get (s : ByteArray) {i : Nat} (h : i < 48) : ((gnF s i).map (Value.int .i64))[i]? = some (.int .i64 0) := by
  unfold gnF
  rw [show 48 - i = (48 - (i + 1)) + 1 by omega, List.replicate_succ, List.map_append]
  have hl : ((jGs s i).map (Value.int .i64)).length = i := by rw [List.length_map, jGs_length]
  generalize (jGs s i).map (Value.int .i64) = U at *
  rw [List.getElem?_append_right (by omega), show i - U.length = 0 by omega]; rfl
theorem plF_end (s : ByteArray) : plF s 48 = jPl s 48 ∧ gnF s 48 = jGs s 48 := by simp [plF, gnF]
theorem zeroPlaces_list (s : ByteArray) : zeroPlaces.toList = (plF s 0).flatMap PlaceD.cells := by
  unfold zeroPlaces plF; simp [jPl]; rfl
theorem zeroGens_list (s : ByteArray) : zeroGens.toList = (gnF s 0).map (Value.int .i64) := by
  unfold zeroGens gnF; simp [jGs]
theorem flat_intsI (xs : List Int) : xs.flatMap (fun z => [Value.int .i64 z]) = xs.map (Value.int .i64) := by
  induction xs with
  | nil => rfl
  | cons x r ih => simp [List.flatMap_cons, ih]
theorem own_intsI {w : World} {base n c : Nat} {A : Option Addr} {xs : List Int} (h : Owns w base 1 (.slice A n c) n (xs.map (Value.int .i64))) : RowsIn w w.heap.size A n c (fun z => [.int .i64 z]) 1 xs := by
  rw [← flat_intsI] at h
  exact h.rows (enc := fun z => [Value.int .i64 z]) (k := 1) (fun _ => rfl) Nat.one_pos
theorem no_places (w : World) (B : Nat) : RowsIn w B none 0 0 PlaceD.cells 2 ([] : List PlaceD) := ⟨rfl, Nat.le_refl _, Nat.zero_le _, fun i x h => by simp at h⟩
theorem no_intsI (w : World) (B : Nat) : RowsIn w B none 0 0 (fun z => [.int .i64 z]) 1 ([] : List Int) := ⟨rfl, Nat.le_refl _, Nat.zero_le _, fun i x h => by simp at h⟩

def ImrPost (s : ByteArray) (w : World) (e : Ending) (w' : World) : Prop := ∃ A n c A' n' c', e = .returned (.tuple #[.agg #[.slice A n c, .slice A' n' c'], .int .i64 (imrE s)]) ∧ RowsIn w' w'.heap.size A n c PlaceD.cells 2 (imrP s) ∧ RowsIn w' w'.heap.size A' n' c' (fun z => [.int .i64 z]) 1 (imrG s) ∧ Below w.heap.size w w'
theorem imrPost_bad {s : ByteArray} {w w' : World} (h : ¬ ImrOk s) (hb : Below w.heap.size w w') : ImrPost s w (.returned (.tuple #[.agg zeroImap, .int .i64 4])) w' := by
  obtain ⟨a, b, c⟩ := imr_bad h
  exact ⟨none, 0, 0, none, 0, 0, by rw [a], by rw [b]; exact no_places _ _, by rw [c]; exact no_intsI _ _, hb⟩
structure ImrI (s : ByteArray) (w wr : World) (b b' M i : Nat) : Prop where
  all : ∀ j, j < i → JOk s (jpos s j)
  ats : Owns wr (w.heap.size + 1) 2 (.slice (some ⟨b, 0, none⟩) 48 48) 48 ((plF s i).flatMap PlaceD.cells)
  gens : Owns wr (w.heap.size + 1) 1 (.slice (some ⟨b', 0, none⟩) 48 48) 48 ((gnF s i).map (Value.int .i64))
  ne : b ≠ b' ∧ b ≠ M ∧ b' ≠ M
  gt : w.heap.size < b ∧ w.heap.size < b' ∧ w.heap.size < M
  m : wr.heap[M]? = some (.cells (imCells b b') 25 (0, 0))
  res : wr.heap[w.heap.size]? = some (.cells zeroImap 25 (0, 0))
  bel : Below w.heap.size w wr
theorem Owns.set0 {W : World} {base size n c b : Nat} {xs : List Value} (h : Owns W base size (.slice (some ⟨b, 0, none⟩) n c) n xs) (j : Nat) (u : Value) : Owns (W.setCell ⟨b, j, none⟩ u) base size (.slice (some ⟨b, 0, none⟩) n c) n (xs.set j u) := by
  have := h.set j u
  rw [Nat.zero_add] at this; exact this
theorem ImrI.stepA {s : ByteArray} {w wr : World} {b b' M i : Nat} {B1 B2 V : Int} (h : ImrI s w wr b b' M i) (hok : JOk s (jpos s i))
    (hp : (((plF s i).flatMap PlaceD.cells).set (i * 2) (.int .i64 B1)).set (i * 2 + 1) (.int .i64 B2) = (plF s (i + 1)).flatMap PlaceD.cells)
    (hg : ((gnF s i).map (Value.int .i64)).set i (.int .i64 V) = (gnF s (i + 1)).map (Value.int .i64)) :
    ImrI s w (((wr.setCell ⟨b', i, none⟩ (.int .i64 V)).setCell ⟨b, i * 2, none⟩ (.int .i64 B1)).setCell ⟨b, i * 2 + 1, none⟩ (.int .i64 B2)) b b' M (i + 1) := by
  obtain ⟨n1, n2, n3⟩ := h.ne
  obtain ⟨g1, g2, g3⟩ := h.gt
  have o1 : Value.ownBlock (.slice (some ⟨b, 0, none⟩) 48 48) ≠ some b' := fun e => n1 (by simpa [Value.ownBlock] using e)
  have o2 : Value.ownBlock (.slice (some ⟨b', 0, none⟩) 48 48) ≠ some b := fun e => n1 ((by simpa [Value.ownBlock] using e : b' = b)).symm
  refine ⟨fun j hj => ?_, ?_, ?_, h.ne, h.gt, ?_, ?_, ?_⟩
  · by_cases e : j = i
    · subst e; exact hok
    · exact h.all j (by omega)
  · rw [← hp]; exact ((h.ats.setOther o1 _).set0 _ _).set0 _ _
  · rw [← hg]; exact ((h.gens.set0 _ _).setOther o2 _).setOther o2 _
  · exact row_other (row_other (row_other h.m (fun e => n3 e.symm)) (fun e => n2 e.symm)) (fun e => n2 e.symm)
  · exact row_other (row_other (row_other h.res (show w.heap.size ≠ b' by omega)) (show w.heap.size ≠ b by omega)) (show w.heap.size ≠ b by omega)
  · exact ((h.bel.setCell (show w.heap.size ≤ b' by omega) _).setCell (show w.heap.size ≤ b by omega) _).setCell (show w.heap.size ≤ b by omega) _
theorem ImrI.stepB {s : ByteArray} {w wr : World} {b b' M i : Nat} {B1 B2 V : Int} (h : ImrI s w wr b b' M i) (hok : JOk s (jpos s i))
    (hp : (((plF s i).flatMap PlaceD.cells).set (i * 2) (.int .i64 B1)).set (i * 2 + 1) (.int .i64 B2) = (plF s (i + 1)).flatMap PlaceD.cells)
    (hg : ((gnF s i).map (Value.int .i64)).set i (.int .i64 V) = (gnF s (i + 1)).map (Value.int .i64)) :
    ImrI s w (((wr.setCell ⟨b, i * 2, none⟩ (.int .i64 B1)).setCell ⟨b, i * 2 + 1, none⟩ (.int .i64 B2)).setCell ⟨b', i, none⟩ (.int .i64 V)) b b' M (i + 1) := by
  obtain ⟨n1, n2, n3⟩ := h.ne
  obtain ⟨g1, g2, g3⟩ := h.gt
  have o1 : Value.ownBlock (.slice (some ⟨b, 0, none⟩) 48 48) ≠ some b' := fun e => n1 (by simpa [Value.ownBlock] using e)
  have o2 : Value.ownBlock (.slice (some ⟨b', 0, none⟩) 48 48) ≠ some b := fun e => n1 ((by simpa [Value.ownBlock] using e : b' = b)).symm
  refine ⟨fun j hj => ?_, ?_, ?_, h.ne, h.gt, ?_, ?_, ?_⟩
  · by_cases e : j = i
    · subst e; exact hok
    · exact h.all j (by omega)
  · rw [← hp]; exact ((h.ats.set0 _ _).set0 _ _).setOther o1 _
  · rw [← hg]; exact ((h.gens.setOther o2 _).setOther o2 _).set0 _ _
  · exact row_other (row_other (row_other h.m (fun e => n2 e.symm)) (fun e => n2 e.symm)) (fun e => n3 e.symm)
  · exact row_other (row_other (row_other h.res (show w.heap.size ≠ b by omega)) (show w.heap.size ≠ b by omega)) (show w.heap.size ≠ b' by omega)
  · exact ((h.bel.setCell (show w.heap.size ≤ b by omega) _).setCell (show w.heap.size ≤ b by omega) _).setCell (show w.heap.size ≤ b' by omega) _
theorem ImrI.drew {s : ByteArray} {w wr : World} {b b' M i : Nat} (h : ImrI s w wr b b' M i) : ImrI s w wr.drew b b' M i := ⟨h.all, h.ats, h.gens, h.ne, h.gt, h.m, h.res, h.bel.drew⟩
theorem toList_nil : (⟨#[]⟩ : ByteArray).toList = [] := by
  unfold ByteArray.toList ByteArray.toList.loop
  rw [if_neg (by decide)]
  rfl
theorem toList_ne {T : ByteArray} (h : 0 < T.size) : T.toList ≠ [] := by
  intro (e : T.toList = [])
  have e2 : T = ⟨#[]⟩ := str_inj (e.trans toList_nil.symm)
  rw [e2] at h
  exact absurd h (by decide)
theorem tl_zero (s : ByteArray) : tl s 0 = s := by unfold tl; simp

theorem keepM {W : World} {M : Nat} {u v : Value} (h : W.cell? ⟨M, 0, none⟩ = some u ∧ W.cell? ⟨M, 1, none⟩ = some v) : W.drew.cell? ⟨M, 0, none⟩ = some u ∧ W.drew.cell? ⟨M, 1, none⟩ = some v := h
theorem keepM1 {W : World} {M b k : Nat} {u v x : Value} (hb : M ≠ b) (h : W.cell? ⟨M, 0, none⟩ = some u ∧ W.cell? ⟨M, 1, none⟩ = some v) : (W.setCell ⟨b, k, none⟩ x).cell? ⟨M, 0, none⟩ = some u ∧ (W.setCell ⟨b, k, none⟩ x).cell? ⟨M, 1, none⟩ = some v :=
  ⟨(World.cell?_setCell_other _ _ _ _ (fun e => hb (by injection e with e; exact e.symm))).trans h.1, (World.cell?_setCell_other _ _ _ _ (fun e => hb (by injection e with e; exact e.symm))).trans h.2⟩
theorem keepM2 {W : World} {M b k k' : Nat} {u v x y : Value} (hb : M ≠ b) (h : W.cell? ⟨M, 0, none⟩ = some u ∧ W.cell? ⟨M, 1, none⟩ = some v) : ((W.setCell ⟨b, k, none⟩ x).setCell ⟨b, k', none⟩ y).cell? ⟨M, 0, none⟩ = some u ∧ ((W.setCell ⟨b, k, none⟩ x).setCell ⟨b, k', none⟩ y).cell? ⟨M, 1, none⟩ = some v := keepM1 hb (keepM1 hb h)

end Go.Proofs.Ytjmgocfoimhmjaa

/- Two slices of the call's own beside each other; an append of several elements at a step of a region that draws. -/
namespace Go.Proofs.Ytjmgocfoimhmjaa
open Go.RowKit

/-- The two lie in blocks of their own. -/
def Apart (v v' : Value) : Prop := ∀ g, v.ownBlock = some g → v'.ownBlock ≠ some g
theorem Apart.nil (v : Value) (n c : Nat) : Apart (.slice none n c) v := fun g h => by cases h
theorem Apart.symm {v v' : Value} (h : Apart v v') : Apart v' v := fun g e e' => h g e' e
theorem Apart.grow {v v' v2 : Value} {N : Nat} (h : Apart v v') (hg : v2.ownBlock = v.ownBlock ∨ ∀ k, v2.ownBlock = some k → N ≤ k) (hl : ∀ g, v'.ownBlock = some g → g < N) : Apart v2 v' := fun g e e' => by
  rcases hg with hg | hg
  · exact h g (hg ▸ e) e'
  · have := hg g e; have := hl g e'; omega
theorem Apart.other {v v' : Value} (h : Apart v v') : v'.ownBlock = none ∨ v'.ownBlock ≠ v.ownBlock := by
  cases e : v'.ownBlock with
  | none => exact .inl rfl
  | some g => exact .inr fun e' => h g e'.symm e
theorem Owns.apart {w w' : World} {base base' size n : Nat} {v v' : Value} {xs : List Value} (h : Owns w base size v' n xs) (hl : Left w w' base' v.ownBlock) (ha : Apart v v') : Owns w' base size v' n xs := h.left hl ha.other
theorem rows_some {α : Type} {enc : α → List Value} {k n c B : Nat} {A : Option Addr} {xs : List α} {w : World} (h : RowsIn w B A n c enc k xs) (h0 : 0 < n) : ∃ b o, A = some ⟨b, o, none⟩ ∧ b < B := by
  have hl := h.len
  obtain ⟨b, o, e, hb, _⟩ := h.at_ 0 _ (List.getElem?_eq_getElem (by omega))
  exact ⟨b, o, e, hb⟩
theorem rows_cells {α : Type} {f : α → Value} {n c B b o : Nat} {xs : List α} {w : World} (h : RowsIn w B (some ⟨b, o, none⟩) n c (fun x => [f x]) 1 xs) : ∀ (j : Nat) (u : Value), (xs.map f)[j]? = some u → w.cell? (Addr.add ⟨b, o, none⟩ j) = some u := fun j u hu => by
  rw [List.getElem?_map] at hu
  obtain ⟨x, hx, rfl⟩ := Option.map_eq_some_iff.1 hu
  obtain ⟨b', o', e, _, hc⟩ := h.one hx
  injection e with e
  injection e with e1 e2 _
  subst e1; subst e2
  rw [add_form]; exact hc

section
variable {P : Program} {w : World} {ops : Array Oper} {o : Oper} {a : Act} {K : Act → World → Prop} {Q : Exit → Act → World → Prop} {E : Prop}
/-- 'out = append(out, xs...)' at a step of a region that draws. -/
theorem step_appN (hgd : o.guard = none) (s x : Operand) (t : TypeId) (ho : o.op = .call { callee := .builtin .append, args := #[s, x], argTypes := #[t, t] })
    {e : TypeId} {z : Value} {size bytes : Nat} (ht : P.underlying t = some (.slice e)) (hinfo : (P.info? e).map (fun i => (i.zero, i.size, i.bytes)) = some (some z, size, bytes)) (hzs : z.cells.size = size) (hsz : 0 < size)
    {base : Nat} (A : Option Addr) (n c0 : Nat) (xs : List Value) (hs : a.eval s = .slice A n c0) (hown : Owns w base size (.slice A n c0) n xs) (hbase : base ≤ w.heap.size)
    (ad : Addr) (m c : Nat) (news : List Value) (hx : a.eval x = .slice (some ad) m c) (hl : news.length = m * size) (hnews : ∀ j u, news[j]? = some u → w.cell? (ad.add j) = some u) (h1 : ∀ u ∈ news, u.oneCell' = true)
    (h63 : n + m ≤ maxLen) (hbytes : (n + m) * bytes ≤ 140737488355328)
    (h : ∀ A' c' w', Owns w' base size (.slice A' (n + m) c') (n + m) (xs ++ news) → Left w w' base (Value.ownBlock (.slice A n c0)) → (Value.ownBlock (.slice A' (n + m) c') = Value.ownBlock (.slice A n c0) ∨ ∀ k, Value.ownBlock (.slice A' (n + m) c') = some k → w.heap.size ≤ k) → K (a.put o.dst (.slice A' (n + m) c')) w') :
    if Region.wanted o (yielded ops a.tmps) = true then Oper.wp P o a w K Q else E := by
  have hw : Region.wanted o (yielded ops a.tmps) = true := by simp [Region.wanted, hgd]
  rw [if_pos hw]
  obtain ⟨v', w', hrun, h2, h3, h4⟩ := run_app (P := P) (ty := o.type) ht hinfo hzs hsz hown hbase ad m c news hl hnews h1 h63 hbytes
  unfold Oper.wp execOp
  simp only [ho, resolve, invoke, builtin, Sem.run_bind, Sem.run_pure, Result.andThen_ok, List.map_toArray, List.map_cons, List.map_nil, hs, hx, hrun]
  obtain ⟨A', c', rfl⟩ := h2.form
  exact h A' c' w' h2 h3 h4
end
end Go.Proofs.Ytjmgocfoimhmjaa

/- imap.like, walked: a copy with room of its own. -/
namespace Go.Proofs.Ytjmgocfoimhmjaa
open Go.RowKit

theorem info_placeL : (Try.prog.info? 27).map (fun i => (i.zero, i.size, i.bytes)) = some (some (.agg #[.int .i64 0, .int .i64 0]), 2, 16) := by kernel_rfl
theorem info_i64l : (Try.prog.info? 3).map (fun i => (i.zero, i.size, i.bytes)) = some (some (.int .i64 0), 1, 8) := by kernel_rfl
theorem keepQ {W : World} {M : Nat} {u v : Value} (h : W.cell? ⟨M, 0, none⟩ = some u ∧ W.cell? ⟨M, 1, none⟩ = some v) : W.drew.cell? ⟨M, 0, none⟩ = some u ∧ W.drew.cell? ⟨M, 1, none⟩ = some v := h
theorem keepQs {W : World} {M b : Nat} {u v x y : Value} (hb : M ≠ b) (h : W.cell? ⟨M, 0, none⟩ = some u ∧ W.cell? ⟨M, 1, none⟩ = some v) : ((W.setCell ⟨b, 0, none⟩ x).setCell ⟨b, 1, none⟩ y).cell? ⟨M, 0, none⟩ = some u ∧ ((W.setCell ⟨b, 0, none⟩ x).setCell ⟨b, 1, none⟩ y).cell? ⟨M, 1, none⟩ = some v :=
  ⟨(World.cell?_setCell_other _ _ _ _ (fun e => hb (by injection e with e; exact e.symm))).trans ((World.cell?_setCell_other _ _ _ _ (fun e => hb (by injection e with e; exact e.symm))).trans h.1), (World.cell?_setCell_other _ _ _ _ (fun e => hb (by injection e with e; exact e.symm))).trans ((World.cell?_setCell_other _ _ _ _ (fun e => hb (by injection e with e; exact e.symm))).trans h.2)⟩
theorem keepQl {W W' : World} {base M : Nat} {row : Option Nat} {u v : Value} (n0 : row ≠ some M) (h : W.cell? ⟨M, 0, none⟩ = some u ∧ W.cell? ⟨M, 1, none⟩ = some v) (hl : Left W W' base row) : W'.cell? ⟨M, 0, none⟩ = some u ∧ W'.cell? ⟨M, 1, none⟩ = some v :=
  ⟨hl.cell h.1 n0, hl.cell h.2 n0⟩
theorem flat_cells {B n c b o : Nat} {xs : List PlaceD} {w : World} (h : RowsIn w B (some ⟨b, o, none⟩) n c PlaceD.cells 2 xs) : ∀ j u, (xs.flatMap PlaceD.cells)[j]? = some u → w.cell? (Addr.add ⟨b, o, none⟩ j) = some u := fun j u hu => by
  have hj : j < 2 * xs.length := by rw [← flat_pl_len]; exact (List.getElem?_eq_some_iff.1 hu).1
  have hi : j / 2 < xs.length := by omega
  obtain ⟨b', o', e, _, hc⟩ := h.at_ (j / 2) _ (List.getElem?_eq_getElem hi)
  injection e with e; injection e with e1 e2 _
  subst e1; subst e2
  have h2 := flat_at (enc := PlaceD.cells) (k := 2) (fun _ => rfl) xs (j / 2) xs[j / 2] (List.getElem?_eq_getElem hi) (j % 2) ((xs[j / 2].cells)[j % 2]'(by show j % 2 < 2; omega)) (List.getElem?_eq_getElem _)
  rw [show j / 2 * 2 + j % 2 = j by omega] at h2
  rw [h2] at hu
  injection hu with hu
  rw [add_form, ← hu]
  have := hc (j % 2) _ (List.getElem?_eq_getElem (show j % 2 < (xs[j / 2].cells).length by show j % 2 < 2; omega))
  rw [show o + j / 2 * 2 + j % 2 = o + j by omega] at this
  exact this
def LkPost (xs : List PlaceD) (gs : List Int) (w : World) (e : Ending) (w' : World) : Prop := ∃ D d D' d', e = .returned (.agg #[.slice D 48 d, .slice D' 48 d']) ∧ Owns w' w.heap.size 2 (.slice D 48 d) 48 (xs.flatMap PlaceD.cells) ∧ Owns w' w.heap.size 1 (.slice D' 48 d') 48 (gs.map (Value.int .i64)) ∧ Apart (.slice D 48 d) (.slice D' 48 d') ∧ Below w.heap.size w w'

set_option maxRecDepth 20000 in
set_option maxHeartbeats 2000000 in
theorem like_any (A : Option Addr) (c : Nat) (xs : List PlaceD) (A' : Option Addr) (c' : Nat) (gs : List Int) (w : World) (r : RowsIn w w.heap.size A 48 c PlaceD.cells 2 xs) (r' : RowsIn w w.heap.size A' 48 c' (fun z => [.int .i64 z]) 1 gs) :
    Calls Try.prog 58 #[.agg #[.slice A 48 c, .slice A' 48 c']] w (LkPost xs gs w) := by
  obtain ⟨b, o, rfl, hb⟩ := rows_some r (by omega)
  obtain ⟨b', o', rfl, hb'⟩ := rows_some r' (by omega)
  obtain ⟨wa, hwa⟩ : ∃ wa, wa = (w.alloc (.cells #[.slice (some ⟨b, o, none⟩) 48 c, .slice (some ⟨b', o', none⟩) 48 c'] 25)).alloc (.cells zeroImap 25) := ⟨_, rfl⟩
  have hza : wa.heap.size = w.heap.size + 2 := by rw [hwa]; simp
  have hba : Below w.heap.size w wa := by rw [hwa]; exact ((Below.refl _ _).alloc (Nat.le_refl _) _).alloc (by simp) _
  have hra : wa.heap[w.heap.size + 1]? = some (.cells zeroImap 25 (0, 0)) := by
    rw [hwa]
    have := heap_alloc_new (w.alloc (.cells #[.slice (some ⟨b, o, none⟩) 48 c, .slice (some ⟨b', o', none⟩) 48 c'] 25)) (.cells zeroImap 25)
    rw [show (w.alloc (.cells #[.slice (some ⟨b, o, none⟩) 48 c, .slice (some ⟨b', o', none⟩) 48 c'] 25)).heap.size = w.heap.size + 1 by simp] at this
    exact this
  have hrb : wa.heap[w.heap.size]? = some (.cells #[.slice (some ⟨b, o, none⟩) 48 c, .slice (some ⟨b', o', none⟩) 48 c'] 25 (0, 0)) := by
    rw [hwa]; exact (heap_alloc_old _ _ (by simp)).trans (heap_alloc_new w _)
  have N1 : Hid (∀ W, Below w.heap.size w W → ∀ j u, (xs.flatMap PlaceD.cells)[j]? = some u → W.cell? (Addr.add ⟨b, o, none⟩ j) = some u) := fun W h => flat_cells (r.below h)
  have N2 : Hid (∀ W, Below w.heap.size w W → ∀ j u, (gs.map (Value.int .i64))[j]? = some u → W.cell? (Addr.add ⟨b', o', none⟩ j) = some u) := fun W h => rows_cells (r'.below h)
  have L1 : Hid ((xs.flatMap PlaceD.cells).length = 48 * 2) := by simp only [Hid]; rw [flat_pl_len, r.len]
  have L2 : Hid ((gs.map (Value.int .i64)).length = 48 * 1) := by simp only [Hid]; rw [List.length_map, r'.len]
  have M1 : Hid (∀ u ∈ xs.flatMap PlaceD.cells, u.oneCell' = true) := fun u hu => by
    obtain ⟨y, _, hy⟩ := List.mem_flatMap.1 hu
    simp [PlaceD.cells] at hy
    rcases hy with rfl | rfl <;> rfl
  have M2 : Hid (∀ u ∈ gs.map (Value.int .i64), u.oneCell' = true) := fun u hu => by obtain ⟨y, _, rfl⟩ := List.mem_map.1 hu; rfl
  have O1 : Hid (∀ W, Owns W (w.heap.size + 2) 2 (.slice none 0 0) 0 []) := fun W => Owns.nil _ _ _
  have O2 : Hid (∀ W, Owns W (w.heap.size + 2) 1 (.slice none 0 0) 0 []) := fun W => Owns.nil _ _ _
  have HS : Hid (wa.cell? ⟨w.heap.size, 0, none⟩ = some (.slice (some ⟨b, o, none⟩) 48 c) ∧ wa.cell? ⟨w.heap.size, 1, none⟩ = some (.slice (some ⟨b', o', none⟩) 48 c')) := ⟨row_cell hrb 0, row_cell hrb 1⟩
  have HRA := Lib.hid hra
  have HWA := Lib.hid hwa
  have HBA := Lib.hid hba
  have HZA := Lib.hid hza
  have G4 : Hid (0 < 2 ∧ 0 < 1) := by simp [Hid]
  have G3 : Hid (0 + 48 ≤ maxLen ∧ (0 + 48) * 16 ≤ 140737488355328 ∧ (0 + 48) * 8 ≤ 140737488355328) := by unfold maxLen Hid; omega
  generalize hUU : xs.flatMap PlaceD.cells = U at *
  generalize hUU' : gs.map (Value.int .i64) = U' at *
  have HUU := Lib.hid hUU
  have HUU' := Lib.hid hUU'
  clear hUU hUU'
  clear r r' hwa hza hba hra hrb
  go_enter Try.func58, Try.ntmps58
  go_wp2
  rw [← HWA.out]
  have hs := HS.out
  go_region_held_law (fun W => W.cell? ⟨w.heap.size, 0, none⟩ = some (.slice (some ⟨b, o, none⟩) 48 c) ∧ W.cell? ⟨w.heap.size, 1, none⟩ = some (.slice (some ⟨b', o', none⟩) 48 c'))
    (first | assumption | exact keepQ (by assumption) | exact keepQl (W := wa.drew) (fun e => by cases e) HS.out hl1 | exact keepQl (W := w1) (fun e => by cases e) (keepQl (W := wa.drew) (fun e => by cases e) HS.out hl1) hl2 | exact keepQs (by omega) (keepQl (W := w1) (fun e => by cases e) (keepQl (W := wa.drew) (fun e => by cases e) HS.out hl1) hl2))
    (first
      | (refine step_appN (P := Try.prog) (e := 27) (z := .agg #[.int .i64 0, .int .i64 0]) (size := 2) (bytes := 16) (base := w.heap.size + 2) rfl (.const (.slice none 0 0)) (.tmp 4) 22 rfl Try.underlying22 info_placeL rfl G4.out.1 none 0 0 [] rfl (O1.out _) BB.out.size ⟨b, o, none⟩ 48 c U rfl L1.out (N1.out _ BB.out) M1.out G3.out.1 G3.out.2.1 ?_; intro A1 c1 w1 hown1 hl1 hn1)
      | (refine step_appN (P := Try.prog) (e := 27) (z := .agg #[.int .i64 0, .int .i64 0]) (size := 2) (bytes := 16) (base := w.heap.size + 2) rfl (.const (.slice none 0 0)) (.tmp 4) 22 rfl Try.underlying22 info_placeL rfl G4.out.1 none 0 0 [] rfl (O1.out _) (show w.heap.size + 2 ≤ wa.drew.heap.size from Nat.le_of_eq HZA.out.symm) ⟨b, o, none⟩ 48 c U rfl L1.out (N1.out _ HBA.out.drew) M1.out G3.out.1 G3.out.2.1 ?_; intro A1 c1 w1 hown1 hl1 hn1)
      | (refine step_appN (P := Try.prog) (e := 3) (z := .int .i64 0) (size := 1) (bytes := 8) (base := w.heap.size + 2) rfl (.const (.slice none 0 0)) (.tmp 7) 23 rfl Try.underlying23 info_i64l rfl G4.out.2 none 0 0 [] rfl (O2.out _) (show w.heap.size + 2 ≤ w1.heap.size from Nat.le_trans (Nat.le_of_eq HZA.out.symm) hl1.size) ⟨b', o', none⟩ 48 c' U' rfl L2.out (N2.out _ (hl1.below (by omega) HBA.out.drew)) M2.out G3.out.1 G3.out.2.2 ?_; intro A2 c2 w2 hown2 hl2 hn2; have hrr := row_left (row_left (w := wa.drew) HRA.out hl1 (fun e => by cases e)) hl2 (fun e => by cases e); have v0 : w2.cell? ⟨w.heap.size + 1, 0, none⟩ = some (.slice none 0 0) := row_cell hrr 0; have v1 : w2.cell? ⟨w.heap.size + 1, 1, none⟩ = some (.slice none 0 0) := row_cell hrr 1; have v2 := row_cold hrr 0; have v3 := row_cold hrr 1))
  all_goals
    rename_i hHeld
    clear hHeld hs
    simp only [Nat.zero_add, List.nil_append] at hown1 hown2 hn2
    have hm := row_store (j := 1) (v := .slice A2 48 c2) (row_store (j := 0) (v := .slice A1 48 c1) hrr)
    have HM : Hid (((w2.setCell ⟨w.heap.size + 1, 0, none⟩ (.slice A1 48 c1)).setCell ⟨w.heap.size + 1, 1, none⟩ (.slice A2 48 c2)).heap[w.heap.size + 1]? = some (.cells #[.slice A1 48 c1, .slice A2 48 c2] 25 (0, 0))) := hm
    have q1 := hown1.apart hl2 (Apart.nil _ _ _)
    have q2 : Owns ((w2.setCell ⟨w.heap.size + 1, 0, none⟩ (.slice A1 48 c1)).setCell ⟨w.heap.size + 1, 1, none⟩ (.slice A2 48 c2)) (w.heap.size + 2) 2 (.slice A1 48 c1) 48 U := (q1.setOther (fun e => by have e2 : w.heap.size + 2 ≤ w.heap.size + 1 := (q1.lt _ e).1; omega) _).setOther (fun e => by have e2 : w.heap.size + 2 ≤ w.heap.size + 1 := (q1.lt _ e).1; omega) _
    have q3 : Owns ((w2.setCell ⟨w.heap.size + 1, 0, none⟩ (.slice A1 48 c1)).setCell ⟨w.heap.size + 1, 1, none⟩ (.slice A2 48 c2)) (w.heap.size + 2) 1 (.slice A2 48 c2) 48 U' := (hown2.setOther (fun e => by have e2 : w.heap.size + 2 ≤ w.heap.size + 1 := (hown2.lt _ e).1; omega) _).setOther (fun e => by have e2 : w.heap.size + 2 ≤ w.heap.size + 1 := (hown2.lt _ e).1; omega) _
    have q4 : Apart (.slice A1 48 c1) (.slice A2 48 c2) := fun g e e' => by
      have h1 := (hown1.lt g e).2
      rcases hn2 with h | h
      · rw [h] at e'; cases e'
      · have := h g e'; omega
    have q5 : Below w.heap.size w ((w2.setCell ⟨w.heap.size + 1, 0, none⟩ (.slice A1 48 c1)).setCell ⟨w.heap.size + 1, 1, none⟩ (.slice A2 48 c2)) := ((hl2.below (by omega) (hl1.below (by omega) HBA.out.drew)).setCell (show w.heap.size ≤ w.heap.size + 1 by omega) _).setCell (show w.heap.size ≤ w.heap.size + 1 by omega) _
    have Q2 := Lib.hid q2
    have Q3 := Lib.hid q3
    have Q4 := Lib.hid q4
    have Q5 := Lib.hid q5
    clear hm q1 q2 q3 q4 q5 hown1 hown2 hl1 hl2 hn1 hn2 hrr v0 v1 v2 v3
    generalize (w2.setCell ⟨w.heap.size + 1, 0, none⟩ (.slice A1 48 c1)).setCell ⟨w.heap.size + 1, 1, none⟩ (.slice A2 48 c2) = w9 at *
    go_wp2
    refine bodyPost_ret (results_cell_row rfl _ _ (w.heap.size + 1) _ #[.slice A1 48 c1, .slice A2 48 c2] (0, 0) _ rfl HM.out Try.underlying25 rfl info_imap) rfl ?_
    exact ⟨A1, c1, A2, c2, rfl, by rw [HUU.out]; exact Q2.out.more (by omega), by rw [HUU'.out]; exact Q3.out.more (by omega), Q4.out, Q5.out⟩
end Go.Proofs.Ytjmgocfoimhmjaa

namespace Go.Proofs.Ytjmgocfoimhmjaa
open Go.RowKit

def IpPost (E : Int) (X : List PlaceD) (Y : List Int) (w : World) (e : Ending) (w' : World) : Prop := ∃ D q d D' q' d', e = .returned (.tuple #[.agg #[.slice D q d, .slice D' q' d'], .int .i64 E]) ∧ RowsIn w' w'.heap.size D q d PlaceD.cells 2 X ∧ RowsIn w' w'.heap.size D' q' d' (fun z => [.int .i64 z]) 1 Y ∧ Below w.heap.size w w'
theorem ipPost_bad {E k : Int} {X : List PlaceD} {Y : List Int} {w w' : World} (h : E = k) (h2 : X = [] ∧ Y = []) (hb : Below w.heap.size w w') : IpPost E X Y w (.returned (.tuple #[.agg zeroImap, .int .i64 k])) w' :=
  ⟨none, 0, 0, none, 0, 0, by rw [h], by rw [h2.1]; exact no_places _ _, by rw [h2.2]; exact no_intsI _ _, hb⟩
theorem ipPost_ok {E : Int} {X X' : List PlaceD} {Y Y' : List Int} {w w' : World} {D D' : Option Addr} {d d' : Nat} (h : E = 0) (h1 : X = X') (h2 : Y = Y') (r : RowsIn w' w'.heap.size D 48 d PlaceD.cells 2 X') (r' : RowsIn w' w'.heap.size D' 48 d' (fun z => [.int .i64 z]) 1 Y') (hb : Below w.heap.size w w') : IpPost E X Y w (.returned (.tuple #[.agg #[.slice D 48 d, .slice D' 48 d'], .int .i64 0])) w' :=
  ⟨D, 48, d, D', 48, d', by rw [h], by rw [h1]; exact r, by rw [h2]; exact r', hb⟩
theorem own_some {w : World} {base size n c : Nat} {A : Option Addr} {xs : List Value} (h : Owns w base size (.slice A n c) n xs) (h0 : 0 < n) : ∃ g off, A = some ⟨g, off, none⟩ ∧ base ≤ g ∧ g < w.heap.size := by
  rcases h.2 with ⟨_, e⟩ | ⟨g, off, cap, e, h1, h2, _⟩
  · omega
  · injection e with e _ _
    exact ⟨g, off, e, h1, h2⟩

theorem cut_facts {w w1 w2 w3 : World} {xs : List PlaceD} {gs : List Int} {g1 off1 d g2 off2 d' k : Nat} {pc pn g : Int} {t : TypeId} (E1 : xs[k]? = some (⟨pc, pn⟩ : PlaceD)) (E2 : gs[k]? = some g)
    (o1 : Owns w2 w1.heap.size 2 (.slice (some ⟨g1, off1, none⟩) 48 d) 48 (xs.flatMap PlaceD.cells)) (o2 : Owns w2 w1.heap.size 1 (.slice (some ⟨g2, off2, none⟩) 48 d') 48 (gs.map (Value.int .i64))) (ap : Apart (.slice (some ⟨g1, off1, none⟩) 48 d) (.slice (some ⟨g2, off2, none⟩) 48 d'))
    (hw : (w2.alloc (.cells zeroImap t)).setRow w2.heap.size #[.slice (some ⟨g1, off1, none⟩) 48 d, .slice (some ⟨g2, off2, none⟩) 48 d'] = w3) (hr : w1.heap[w.heap.size + 1]? = some (.cells zeroImap t (0, 0))) (hz : w.heap.size + 2 ≤ w1.heap.size) (hb2 : Below w1.heap.size w1 w2) :
    (w3.cell? ⟨w2.heap.size, 0, none⟩ = some (.slice (some ⟨g1, off1, none⟩) 48 d) ∧ ((w3.setCell ⟨g1, off1 + k * 2, none⟩ (.int .i64 0)).setCell ⟨g1, off1 + k * 2 + 1, none⟩ (.int .i64 0)).cell? ⟨w2.heap.size, 1, none⟩ = some (.slice (some ⟨g2, off2, none⟩) 48 d') ∧ w3.cell? ⟨g1, off1 + k * 2, none⟩ = some (.int .i64 pc) ∧ w3.frozen? ⟨g1, off1 + k * 2, none⟩ = false ∧ (w3.setCell ⟨g1, off1 + k * 2, none⟩ (.int .i64 0)).cell? ⟨g1, off1 + k * 2 + 1, none⟩ = some (.int .i64 pn) ∧ w3.frozen? ⟨g1, off1 + k * 2 + 1, none⟩ = false ∧ ((w3.setCell ⟨g1, off1 + k * 2, none⟩ (.int .i64 0)).setCell ⟨g1, off1 + k * 2 + 1, none⟩ (.int .i64 0)).cell? ⟨g2, off2 + k, none⟩ = some (.int .i64 g) ∧ w3.frozen? ⟨g2, off2 + k, none⟩ = false ∧ w3.cell? ⟨g1, off1 + k * 2 + 1, none⟩ = some (.int .i64 pn) ∧ (((w3.setCell ⟨g1, off1 + k * 2, none⟩ (.int .i64 0)).setCell ⟨g1, off1 + k * 2 + 1, none⟩ (.int .i64 0)).setCell ⟨g2, off2 + k, none⟩ (.int .i64 (g + 1))).cell? ⟨w2.heap.size, 0, none⟩ = some (.slice (some ⟨g1, off1, none⟩) 48 d) ∧ (((w3.setCell ⟨g1, off1 + k * 2, none⟩ (.int .i64 0)).setCell ⟨g1, off1 + k * 2 + 1, none⟩ (.int .i64 0)).setCell ⟨g2, off2 + k, none⟩ (.int .i64 (g + 1))).cell? ⟨w2.heap.size, 1, none⟩ = some (.slice (some ⟨g2, off2, none⟩) 48 d') ∧ (((w3.setCell ⟨g1, off1 + k * 2, none⟩ (.int .i64 0)).setCell ⟨g1, off1 + k * 2 + 1, none⟩ (.int .i64 0)).setCell ⟨g2, off2 + k, none⟩ (.int .i64 (g + 1))).heap[w.heap.size + 1]? = some (.cells zeroImap t (0, 0)) ∧ w3.cell? ⟨w2.heap.size, 1, none⟩ = some (.slice (some ⟨g2, off2, none⟩) 48 d') ∧ True) ∧
    Owns (((w3.setCell ⟨g1, off1 + k * 2, none⟩ (.int .i64 0)).setCell ⟨g1, off1 + k * 2 + 1, none⟩ (.int .i64 0)).setCell ⟨g2, off2 + k, none⟩ (.int .i64 (g + 1))) w1.heap.size 2 (.slice (some ⟨g1, off1, none⟩) 48 d) 48 ((xs.set k ⟨0, 0⟩).flatMap PlaceD.cells) ∧ Owns (((w3.setCell ⟨g1, off1 + k * 2, none⟩ (.int .i64 0)).setCell ⟨g1, off1 + k * 2 + 1, none⟩ (.int .i64 0)).setCell ⟨g2, off2 + k, none⟩ (.int .i64 (g + 1))) w1.heap.size 1 (.slice (some ⟨g2, off2, none⟩) 48 d') 48 ((gs.set k (g + 1)).map (Value.int .i64)) ∧ Below w1.heap.size w1 (((w3.setCell ⟨g1, off1 + k * 2, none⟩ (.int .i64 0)).setCell ⟨g1, off1 + k * 2 + 1, none⟩ (.int .i64 0)).setCell ⟨g2, off2 + k, none⟩ (.int .i64 (g + 1))) := by
  have hz2 := hb2.size
  have hm3 : w3.heap[w2.heap.size]? = some (.cells #[.slice (some ⟨g1, off1, none⟩) 48 d, .slice (some ⟨g2, off2, none⟩) 48 d'] t (0, 0)) := by rw [← hw]; exact row_set (heap_alloc_new w2 _)
  have hB3 : Below w2.heap.size w2 w3 := by rw [← hw]; exact below_setRow ((Below.refl _ _).alloc (Nat.le_refl _) _) (Nat.le_refl _) _
  have b1 := o1.lt g1 rfl
  have b2 := o2.lt g2 rfl
  have hne : g1 ≠ g2 := fun e => ap g1 rfl (by rw [e]; rfl)
  have q1 := o1.fresh_below hB3
  have q2 := o2.fresh_below hB3
  have e1 : (xs.flatMap PlaceD.cells)[k * 2]? = some (.int .i64 pc) := by
    have := flat_at (enc := PlaceD.cells) (k := 2) (fun _ => rfl) xs k _ E1 0 (.int .i64 pc) rfl
    simpa using this
  have e2 : (xs.flatMap PlaceD.cells)[k * 2 + 1]? = some (.int .i64 pn) := flat_at (enc := PlaceD.cells) (k := 2) (fun _ => rfl) xs k _ E1 1 (.int .i64 pn) rfl
  have e3 : (gs.map (Value.int .i64))[k]? = some (.int .i64 g) := by rw [List.getElem?_map, E2]; rfl
  obtain ⟨c1, f1⟩ := q1.here e1
  obtain ⟨c2, f2⟩ := q1.here e2
  obtain ⟨c3, f3⟩ := q2.here e3
  rw [← Nat.add_assoc] at c2 f2
  have n12 : (⟨g1, off1 + k * 2, none⟩ : Addr) ≠ ⟨g1, off1 + k * 2 + 1, none⟩ := fun e => by injection e with _ e; omega
  have na : ∀ (x y : Nat) (z z' : Nat), x ≠ y → (⟨x, z, none⟩ : Addr) ≠ ⟨y, z', none⟩ := fun x y z z' h e => h (by injection e)
  have k1 : ∀ {p : Addr} {v : Value}, (⟨g1, off1 + k * 2, none⟩ : Addr) ≠ p → (⟨g1, off1 + k * 2 + 1, none⟩ : Addr) ≠ p → w3.cell? p = some v → ((w3.setCell ⟨g1, off1 + k * 2, none⟩ (.int .i64 0)).setCell ⟨g1, off1 + k * 2 + 1, none⟩ (.int .i64 0)).cell? p = some v := fun h h' hv => (World.cell?_setCell_other _ _ _ _ h').trans ((World.cell?_setCell_other _ _ _ _ h).trans hv)
  have m0 : w3.cell? ⟨w2.heap.size, 0, none⟩ = some (.slice (some ⟨g1, off1, none⟩) 48 d) := row_cell hm3 0
  have m1 : w3.cell? ⟨w2.heap.size, 1, none⟩ = some (.slice (some ⟨g2, off2, none⟩) 48 d') := row_cell hm3 1
  have s1 := (q1.set (k * 2) (.int .i64 0)).set (k * 2 + 1) (.int .i64 0)
  rw [← Nat.add_assoc] at s1
  have s2 := s1.setOther (p := ⟨g2, off2 + k, none⟩) (fun e => hne (by simpa [Value.ownBlock] using e)) (.int .i64 (g + 1))
  have s3 := ((q2.setOther (p := ⟨g1, off1 + k * 2, none⟩) (fun e => hne (by simpa [Value.ownBlock] using e.symm)) (.int .i64 0)).setOther (p := ⟨g1, off1 + k * 2 + 1, none⟩) (fun e => hne (by simpa [Value.ownBlock] using e.symm)) (.int .i64 0)).set k (.int .i64 (g + 1))
  have hr3 : w3.heap[w.heap.size + 1]? = some (.cells zeroImap t (0, 0)) := row_below (row_below hr (by omega) hb2) (show w.heap.size + 1 < w2.heap.size by omega) hB3
  refine ⟨⟨m0, k1 (na _ _ _ _ (by omega)) (na _ _ _ _ (by omega)) m1, c1, f1, (World.cell?_setCell_other _ _ _ _ n12).trans c2, f2, k1 (na _ _ _ _ hne) (na _ _ _ _ hne) c3, f3, c2, (World.cell?_setCell_other _ _ _ _ (na _ _ _ _ (by omega))).trans (k1 (na _ _ _ _ (by omega)) (na _ _ _ _ (by omega)) m0), (World.cell?_setCell_other _ _ _ _ (na _ _ _ _ (by omega))).trans (k1 (na _ _ _ _ (by omega)) (na _ _ _ _ (by omega)) m1), row_other (row_other (row_other hr3 (show w.heap.size + 1 ≠ g1 by omega)) (show w.heap.size + 1 ≠ g1 by omega)) (show w.heap.size + 1 ≠ g2 by omega), m1, trivial⟩, ?_, ?_, ?_⟩
  · have := flat_set xs k ⟨0, 0⟩
    simp only at this
    rw [← this]; exact s2
  · rw [List.map_set]; exact s3
  · exact (((hb2.trans (hB3.mono hz2)).setCell (show w1.heap.size ≤ g1 by omega) _).setCell (show w1.heap.size ≤ g1 by omega) _).setCell (show w1.heap.size ≤ g2 by omega) _
end Go.Proofs.Ytjmgocfoimhmjaa
