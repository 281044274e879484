/- disk.put, disk.Check and linenref.Disk, walked. -/
import Derived.Test.YtjmgocfoimhmjaaDiskP
import Derived.Test.YtjmgocfoimhmjaaBlk
import Derived.WalkSpells
import Derived.Lib.Hide
namespace Go.Proofs.Ytjmgocfoimhmjaa
open Go.RowKit

theorem dbox2 (w : World) (v0 v1 : Value) (t : TypeId) : (w.alloc (.cells #[v0, v1] t)).cell? ⟨w.heap.size, 0, none⟩ = some v0 ∧ (w.alloc (.cells #[v0, v1] t)).cell? ⟨w.heap.size, 1, none⟩ = some v1 := by
  constructor <;> (unfold World.cell?; rw [heap_alloc_new w _]; rfl)
set_option maxHeartbeats 400000 in
theorem dput_any (n a : Int) (t : ByteArray) (w : World) :
    Calls Try.prog 61 #[.int .i64 n, .int .i64 a, .string t] w fun e w' => e = .returned (.int .i64 (putE n a t.size)) ∧ w = w' := by
  rcases (show a < 0 ∨ (0 ≤ a ∧ n ≤ a) ∨ (0 ≤ a ∧ a < n) by omega) with h | ⟨h0, h⟩ | ⟨h0, h⟩
  · have F := Lib.hid (putE_arg (z := t.size) (n := n) (.inl h))
    go_enter Try.func61, Try.ntmps61
    go_wp2
    go_ret
    exact ⟨ret_i1 F.out.symm, rfl⟩
  · have F := Lib.hid (putE_arg (z := t.size) (.inr h))
    go_enter Try.func61, Try.ntmps61
    go_wp2
    go_ret
    exact ⟨ret_i1 F.out.symm, rfl⟩
  · have h2 : ¬ n ≤ a := by omega
    by_cases hz : 1024 < t.size
    · have F := Lib.hid (putE_large h0 h hz)
      have hz1 : (1024 : Int) < (t.size : Int) := by omega
      go_enter Try.func61, Try.ntmps61
      go_wp2
      go_ret
      exact ⟨ret_i1 F.out.symm, rfl⟩
    · have F := Lib.hid (putE_ok h0 h hz)
      have hz1 : (t.size : Int) ≤ 1024 := by omega
      go_enter Try.func61, Try.ntmps61
      go_wp2
      go_ret
      exact ⟨ret_i1 F.out.symm, rfl⟩

set_option maxRecDepth 20000 in
set_option maxHeartbeats 1000000 in
theorem dchk_any (A : Option Addr) (n c : Nat) (cs : List ByteArray) (A' : Option Addr) (n' c' : Nat) (ws : List PutD) (w : World) (r : RowsIn w w.heap.size A n c (fun z => [.string z]) 1 cs) (r' : RowsIn w w.heap.size A' n' c' PutD.cells 2 ws) :
    Calls Try.prog 60 #[.agg #[.slice A n c, .slice A' n' c']] w fun e w' => e = .returned (.int .i64 (dskE cs ws)) ∧ Below w.heap.size w w' := by
  have htop : n' ≤ 9223372036854775807 := by have h1 := r'.le; have h2 := r'.top; unfold maxLen at h2; omega
  have hlen := r.len
  obtain rfl := hlen
  have hlen' := r'.len
  obtain rfl := hlen'
  obtain ⟨p0, p1⟩ := dbox2 w (.slice A cs.length c) (.slice A' ws.length c') 41
  have hwb : Below w.heap.size w (w.alloc (.cells #[.slice A cs.length c, .slice A' ws.length c'] 41)) := (Below.refl _ _).alloc (Nat.le_refl _) _
  have hws : w.heap.size < (w.alloc (.cells #[.slice A cs.length c, .slice A' ws.length c'] 41)).heap.size := by simp
  by_cases hn : cs.length = 0 ∨ 128 < cs.length
  · have F := Lib.hid (dskE_arg (ws := ws) hn)
    rcases hn with h | h
    · have h1 : (cs.length : Int) < 1 := by omega
      have h2 : ((cs.length : Int) == 0) = true := by rw [beq_iff_eq]; omega
      have h' := Lib.hid h
      clear h
      go_enter Try.func60, Try.ntmps60
      go_wp2
      go_ret
      exact ⟨ret_i1 F.out.symm, hwb⟩
    · have h1 : (128 : Int) < (cs.length : Int) := by omega
      have h3 : (1 : Int) ≤ (cs.length : Int) := by omega
      have h2 : ((cs.length : Int) == 0) = false := by rw [beq_eq_false_iff_ne]; omega
      go_enter Try.func60, Try.ntmps60
      go_wp2
      go_ret
      exact ⟨ret_i1 F.out.symm, hwb⟩
  · have h1 : (1 : Int) ≤ (cs.length : Int) := by omega
    have h3 : (cs.length : Int) ≤ 128 := by omega
    have h2 : ((cs.length : Int) == 0) = false := by rw [beq_eq_false_iff_ne]; omega
    have hn := Lib.hid hn
    obtain ⟨wa, hwa⟩ : ∃ wa, wa = w.alloc (.cells #[.slice A cs.length c, .slice A' ws.length c'] 41) := ⟨_, rfl⟩
    rw [← hwa] at p0 p1 hwb hws
    go_enter Try.func60, Try.ntmps60
    go_wp2
    rw [← hwa]
    clear hwa
    go_loop [21] (fun v21 => ∃ k : Nat, k ≤ cs.length ∧ Hid (cellsE cs = cellsE (cs.drop k)) ∧ v21 = .int .i64 k) (fun v21 => cs.length - (intOf v21).toNat)
    case atStart => exact ⟨0, Nat.zero_le _, rfl, rfl⟩
    case round =>
      obtain ⟨k, hk, hR, rfl⟩ := hrel
      by_cases hlt : k < cs.length
      · have e1 := List.getElem?_eq_getElem hlt
        obtain ⟨b, o, rfl, hbB, hc⟩ := (r.below hwb).one e1
        generalize cs[k] = x at *
        by_cases hx : 1024 < x.size
        · have G : Hid (dskE cs ws = 2) := dskE_cells hn.out (hR.out.trans (cellsE_big e1 hx))
          have hx1 : (1024 : Int) < (x.size : Int) := by omega
          clear e1
          go_wp2
          go_ret
          exact ⟨ret_i1 G.out.symm, hwb⟩
        · have G : Hid (cellsE cs = cellsE (cs.drop (k + 1))) := hR.out.trans (cellsE_go e1 hx)
          have hx1 : (x.size : Int) ≤ 1024 := by omega
          clear e1
          go_wp2
          go_round
          case rel => exact ⟨k + 1, by omega, G, by go_num⟩
          case measure => simp [intOf]; omega
      · have hC : cellsE cs = 0 := hR.out.trans (cellsE_end (by omega))
        have hC := Lib.hid hC
        clear hR
        go_wp2
        go_loopw [32] (fun v32 wr => ∃ k : Nat, k ≤ ws.length ∧ Hid (waitE cs.length ws = waitE cs.length (ws.drop k)) ∧ v32 = .int .i64 k ∧ Below wa.heap.size wa wr) (fun v32 _ => ws.length - (intOf v32).toNat)
        case atStart => exact ⟨0, Nat.zero_le _, rfl, rfl, Below.refl _ _⟩
        case round =>
          obtain ⟨k, hk, hW, rfl, hb⟩ := hrel
          have hfin : Below w.heap.size w wr := hwb.trans (hb.mono (by omega))
          have hsz := hb.size
          have hc0 : wr.cell? ⟨w.heap.size, 0, none⟩ = some (.slice A cs.length c) := (hb.cell (p := ⟨w.heap.size, 0, none⟩) hws).trans p0
          have hc1 : wr.cell? ⟨w.heap.size, 1, none⟩ = some (.slice A' ws.length c') := (hb.cell (p := ⟨w.heap.size, 1, none⟩) hws).trans p1
          have hwl : w.heap.size < wr.heap.size := by omega
          have hC := hC.out
          have hC := hC
          by_cases hlt : k < ws.length
          · have e1 := List.getElem?_eq_getElem hlt
            obtain ⟨b, o, rfl, hbB, hc⟩ := (r'.below hfin).at_ k _ e1
            have hp0 := hc 0 _ rfl
            have hp1 := hc 1 _ rfl
            simp only [Nat.add_zero] at hp0
            obtain ⟨pa, pt, hpe⟩ : ∃ pa pt, ws[k] = (⟨pa, pt⟩ : PutD) := ⟨_, _, rfl⟩
            rw [hpe] at e1 hp0 hp1
            have hp0 : wr.cell? ⟨b, o + k * 2, none⟩ = some (.int .i64 pa) := hp0
            have hp1 : wr.cell? ⟨b, o + k * 2 + 1, none⟩ = some (.string pt) := hp1
            clear hc hpe
            have hbl : b < wr.heap.size := by omega
            have HP := Lib.hid (dput_any (cs.length : Int) pa pt)
            by_cases hE : putE cs.length pa pt.size = 0
            · have G : Hid (waitE cs.length ws = waitE cs.length (ws.drop (k + 1))) := by simp only [Hid]; rw [hW.out, waitE_go e1 hE]
              have HP2 : Hid (∀ W, Calls Try.prog 61 #[.int .i64 cs.length, .int .i64 pa, .string pt] W fun e w' => e = .returned (.int .i64 0) ∧ W = w') := fun W => by have := HP.out W; rw [hE] at this; exact this
              clear HP hE e1
              go_wp2_with (go_at_call 61; refine (HP2.out _).mono ?_; rintro e w' ⟨rfl, rfl⟩)
              go_roundw
              case rel => exact ⟨k + 1, by omega, G, by go_num, hb.alloc hsz _⟩
              case measure => simp [intOf]; omega
            · have hW0 : waitE cs.length ws ≠ 0 := by rw [hW.out, waitE_bad e1 hE]; exact hE
              have G : Hid (dskE cs ws = putE cs.length pa pt.size) := by simp only [Hid]; rw [dskE_wait hn.out hC hW0, hW.out, waitE_bad e1 hE]
              have hne : (putE cs.length pa pt.size != 0) = true := bne_iff_ne.2 hE
              generalize putE cs.length pa pt.size = pe at *
              clear hE e1 hW0
              go_wp2_with (go_at_call 61; refine (HP.out _).mono ?_; rintro e w' ⟨rfl, rfl⟩)
              go_ret
              exact ⟨ret_i1 G.out.symm, hfin.alloc (by omega) _⟩
          · have hW0 : waitE cs.length ws = 0 := hW.out.trans (waitE_end (by omega))
            by_cases hm : 400 < ws.length
            · have G : Hid (dskE cs ws = 2) := dskE_many hn.out hC hW0 hm
              have hm1 : (400 : Int) < (ws.length : Int) := by omega
              clear hC hW0
              go_wp2
              go_ret
              exact ⟨ret_i1 G.out.symm, hfin⟩
            · have G : Hid (dskE cs ws = 0) := dskE_ok hn.out hC hW0 hm
              have hm1 : (ws.length : Int) ≤ 400 := by omega
              clear hC hW0
              go_wp2
              go_ret
              exact ⟨ret_i1 G.out.symm, hfin⟩

set_option maxRecDepth 20000 in
set_option maxHeartbeats 1000000 in
theorem dskr_any (A : Option Addr) (n c : Nat) (cs : List ByteArray) (A' : Option Addr) (n' c' : Nat) (ws : List PutD) (w : World) (r : RowsIn w w.heap.size A n c (fun z => [.string z]) 1 cs) (r' : RowsIn w w.heap.size A' n' c' PutD.cells 2 ws) :
    Calls Try.prog 26 #[.agg #[.slice A n c, .slice A' n' c']] w fun e w' => e = .returned (.int .i64 (dskE cs ws)) ∧ Below w.heap.size w w' := by
  have htop : n' ≤ 9223372036854775807 := by have h1 := r'.le; have h2 := r'.top; unfold maxLen at h2; omega
  have hlen := r.len
  obtain rfl := hlen
  have hlen' := r'.len
  obtain rfl := hlen'
  obtain ⟨p0, p1⟩ := dbox2 w (.slice A cs.length c) (.slice A' ws.length c') 41
  have hwb : Below w.heap.size w (w.alloc (.cells #[.slice A cs.length c, .slice A' ws.length c'] 41)) := (Below.refl _ _).alloc (Nat.le_refl _) _
  have hws : w.heap.size < (w.alloc (.cells #[.slice A cs.length c, .slice A' ws.length c'] 41)).heap.size := by simp
  by_cases hn : cs.length = 0 ∨ 128 < cs.length
  · have F := Lib.hid (dskE_arg (ws := ws) hn)
    rcases hn with h | h
    · have h1 : (cs.length : Int) < 1 := by omega
      have h2 : ((cs.length : Int) == 0) = true := by rw [beq_iff_eq]; omega
      have h' := Lib.hid h
      clear h
      go_enter Try.func26, Try.ntmps26
      go_wp2
      go_ret
      exact ⟨ret_i1 F.out.symm, hwb⟩
    · have h1 : (128 : Int) < (cs.length : Int) := by omega
      have h3 : (1 : Int) ≤ (cs.length : Int) := by omega
      have h2 : ((cs.length : Int) == 0) = false := by rw [beq_eq_false_iff_ne]; omega
      go_enter Try.func26, Try.ntmps26
      go_wp2
      go_ret
      exact ⟨ret_i1 F.out.symm, hwb⟩
  · have h1 : (1 : Int) ≤ (cs.length : Int) := by omega
    have h3 : (cs.length : Int) ≤ 128 := by omega
    have h2 : ((cs.length : Int) == 0) = false := by rw [beq_eq_false_iff_ne]; omega
    have hn := Lib.hid hn
    obtain ⟨wa, hwa⟩ : ∃ wa, wa = w.alloc (.cells #[.slice A cs.length c, .slice A' ws.length c'] 41) := ⟨_, rfl⟩
    rw [← hwa] at p0 p1 hwb hws
    go_enter Try.func26, Try.ntmps26
    go_wp2
    rw [← hwa]
    clear hwa
    go_loop [20] (fun v20 => ∃ k : Nat, k ≤ cs.length ∧ Hid (cellsE cs = cellsE (cs.drop k)) ∧ v20 = .int .i64 k) (fun v20 => cs.length - (intOf v20).toNat)
    case atStart => exact ⟨0, Nat.zero_le _, rfl, rfl⟩
    case round =>
      obtain ⟨k, hk, hR, rfl⟩ := hrel
      by_cases hlt : k < cs.length
      · have e1 := List.getElem?_eq_getElem hlt
        obtain ⟨b, o, rfl, hbB, hc⟩ := (r.below hwb).one e1
        generalize cs[k] = x at *
        by_cases hx : 1024 < x.size
        · have G : Hid (dskE cs ws = 2) := dskE_cells hn.out (hR.out.trans (cellsE_big e1 hx))
          have hx1 : (1024 : Int) < (x.size : Int) := by omega
          clear e1
          go_wp2
          go_ret
          exact ⟨ret_i1 G.out.symm, hwb⟩
        · have G : Hid (cellsE cs = cellsE (cs.drop (k + 1))) := hR.out.trans (cellsE_go e1 hx)
          have hx1 : (x.size : Int) ≤ 1024 := by omega
          clear e1
          go_wp2
          go_round
          case rel => exact ⟨k + 1, by omega, G, by go_num⟩
          case measure => simp [intOf]; omega
      · have hC : cellsE cs = 0 := hR.out.trans (cellsE_end (by omega))
        have hC := Lib.hid hC
        clear hR
        go_wp2
        go_loopw [31] (fun v31 wr => ∃ k : Nat, k ≤ ws.length ∧ Hid (waitE cs.length ws = waitE cs.length (ws.drop k)) ∧ v31 = .int .i64 k ∧ Below wa.heap.size wa wr) (fun v31 _ => ws.length - (intOf v31).toNat)
        case atStart => exact ⟨0, Nat.zero_le _, rfl, rfl, Below.refl _ _⟩
        case round =>
          obtain ⟨k, hk, hW, rfl, hb⟩ := hrel
          have hfin : Below w.heap.size w wr := hwb.trans (hb.mono (by omega))
          have hsz := hb.size
          have hc0 : wr.cell? ⟨w.heap.size, 0, none⟩ = some (.slice A cs.length c) := (hb.cell (p := ⟨w.heap.size, 0, none⟩) hws).trans p0
          have hc1 : wr.cell? ⟨w.heap.size, 1, none⟩ = some (.slice A' ws.length c') := (hb.cell (p := ⟨w.heap.size, 1, none⟩) hws).trans p1
          have hwl : w.heap.size < wr.heap.size := by omega
          have hC := hC.out
          have hC := hC
          by_cases hlt : k < ws.length
          · have e1 := List.getElem?_eq_getElem hlt
            obtain ⟨b, o, rfl, hbB, hc⟩ := (r'.below hfin).at_ k _ e1
            have hp0 := hc 0 _ rfl
            have hp1 := hc 1 _ rfl
            simp only [Nat.add_zero] at hp0
            obtain ⟨pa, pt, hpe⟩ : ∃ pa pt, ws[k] = (⟨pa, pt⟩ : PutD) := ⟨_, _, rfl⟩
            rw [hpe] at e1 hp0 hp1
            have hp0 : wr.cell? ⟨b, o + k * 2, none⟩ = some (.int .i64 pa) := hp0
            have hp1 : wr.cell? ⟨b, o + k * 2 + 1, none⟩ = some (.string pt) := hp1
            clear hc hpe
            have hbl : b < wr.heap.size := by omega
            rcases (show pa < 0 ∨ (0 ≤ pa ∧ (cs.length : Int) ≤ pa) ∨ (0 ≤ pa ∧ pa < (cs.length : Int)) by omega) with h | ⟨h0, h⟩ | ⟨h0, h⟩
            · have hP : putE cs.length pa pt.size = 1 := putE_arg (.inl h)
              have hW0 : waitE cs.length ws ≠ 0 := by rw [hW.out, waitE_bad e1 (by rw [hP]; decide), hP]; decide
              have G : Hid (dskE cs ws = _) := (dskE_wait hn.out hC hW0).trans (hW.out.trans ((waitE_bad e1 (by rw [hP]; decide)).trans (hP)))
              clear e1 hW0
              go_wp2
              go_ret
              exact ⟨ret_i1 G.out.symm, hfin.alloc (by omega) _⟩
            · have hP : putE cs.length pa pt.size = 1 := putE_arg (.inr h)
              have hW0 : waitE cs.length ws ≠ 0 := by rw [hW.out, waitE_bad e1 (by rw [hP]; decide), hP]; decide
              have G : Hid (dskE cs ws = _) := (dskE_wait hn.out hC hW0).trans (hW.out.trans ((waitE_bad e1 (by rw [hP]; decide)).trans (hP)))
              clear e1 hW0
              go_wp2
              go_ret
              exact ⟨ret_i1 G.out.symm, hfin.alloc (by omega) _⟩
            · have h2 : ¬ (cs.length : Int) ≤ pa := by omega
              by_cases hz : 1024 < pt.size
              · have hP : putE cs.length pa pt.size = 2 := putE_large h0 h hz
                have hz1 : (1024 : Int) < (pt.size : Int) := by omega
                have hW0 : waitE cs.length ws ≠ 0 := by rw [hW.out, waitE_bad e1 (by rw [hP]; decide), hP]; decide
                have G : Hid (dskE cs ws = _) := (dskE_wait hn.out hC hW0).trans (hW.out.trans ((waitE_bad e1 (by rw [hP]; decide)).trans (hP)))
                clear e1 hW0
                go_wp2
                go_ret
                exact ⟨ret_i1 G.out.symm, hfin.alloc (by omega) _⟩
              · have hz1 : (pt.size : Int) ≤ 1024 := by omega
                have G : Hid (waitE cs.length ws = waitE cs.length (ws.drop (k + 1))) := by simp only [Hid]; rw [hW.out, waitE_go e1 (putE_ok h0 h hz)]
                clear e1
                go_wp2
                go_roundw
                case rel => exact ⟨k + 1, by omega, G, by go_num, hb.alloc hsz _⟩
                case measure => simp [intOf]; omega
          · have hW0 : waitE cs.length ws = 0 := hW.out.trans (waitE_end (by omega))
            by_cases hm : 400 < ws.length
            · have G : Hid (dskE cs ws = 2) := dskE_many hn.out hC hW0 hm
              have hm1 : (400 : Int) < (ws.length : Int) := by omega
              clear hC hW0
              go_wp2
              go_ret
              exact ⟨ret_i1 G.out.symm, hfin⟩
            · have G : Hid (dskE cs ws = 0) := dskE_ok hn.out hC hW0 hm
              have hm1 : (ws.length : Int) ≤ 400 := by omega
              clear hC hW0
              go_wp2
              go_ret
              exact ⟨ret_i1 G.out.symm, hfin⟩

end Go.Proofs.Ytjmgocfoimhmjaa
