/- code.Write, walked. -/
import Derived.Test.YtdoaogfpahjmmaaCwP
import Derived.Test.YtdoaogfpahjmmaaCanonW
import Derived.Test.YtdoaogfpahjmmaaFlipW
import Derived.Test.YtdoaogfpahjmmaaApp
import Derived.Deep.RegionHeldLaw
namespace Go.Proofs.Ytdoaogfpahjmmaa
open Go.RowKit

theorem info_piece : (Try.prog.info? 44).map (fun i => (i.zero, i.size, i.bytes)) = some (some (.agg #[.int .u64 0, .int .i64 0]), 2, 16) := by kernel_rfl
theorem piece_two : ∀ x : Piece, x.cells.length = 2 := fun _ => rfl
theorem no_pieces (w : World) (B : Nat) : RowsIn w B none 0 0 Piece.cells 2 [] := ⟨rfl, Nat.le_refl _, Nat.zero_le _, fun i x h => by simp at h⟩
theorem keepH2 {W : World} {a0 a1 : Addr} {v0 v1 : Value} (h : W.cell? a0 = some v0 ∧ W.cell? a1 = some v1) : W.drew.cell? a0 = some v0 ∧ W.drew.cell? a1 = some v1 := h
theorem keepH2a {W : World} {a0 a1 : Addr} {v0 v1 : Value} {o : Obj} (b0 : a0.block < W.heap.size) (b1 : a1.block < W.heap.size) (h : W.cell? a0 = some v0 ∧ W.cell? a1 = some v1) : (W.alloc o).cell? a0 = some v0 ∧ (W.alloc o).cell? a1 = some v1 :=
  ⟨(World.cell?_alloc_lt W o a0 b0).trans h.1, (World.cell?_alloc_lt W o a1 b1).trans h.2⟩
theorem keepH2l {W W' : World} {base : Nat} {row : Option Nat} {a0 a1 : Addr} {v0 v1 : Value} (n0 : row ≠ some a0.block) (n1 : row ≠ some a1.block) (h : W.cell? a0 = some v0 ∧ W.cell? a1 = some v1) (hl : Left W W' base row) : W'.cell? a0 = some v0 ∧ W'.cell? a1 = some v1 :=
  ⟨hl.cell h.1 n0, hl.cell h.2 n1⟩

set_option maxRecDepth 20000 in
set_option maxHeartbeats 2000000 in
theorem cw_any (A : Option Addr) (n c : Nat) (l : List Int) (A' : Option Addr) (n' c' : Nat) (sg : List Int) (w : World) (r : RowsIn w w.heap.size A n c (fun z => [.int .i64 z]) 1 l) (r' : RowsIn w w.heap.size A' n' c' (fun z => [.int .i64 z]) 1 sg) (hsg : n' ≤ 1048575) :
    Calls Try.prog 22 #[.slice A n c, .slice A' n' c'] w fun e w' => ∃ A q d, e = .returned (.tuple #[.slice A q d, .int .i64 (cwE l sg)]) ∧ RowsIn w' w'.heap.size A q d Piece.cells 2 (cwP l sg) ∧ Below w.heap.size w w' := by
  have hlen := r.len
  obtain rfl := hlen
  have hlen' := r'.len
  obtain rfl := hlen'
  have H := Lib.hid (canon_any A l.length c l w r)
  by_cases hE : canE l = 0
  · have hX : canX l = canL l l.length := by unfold canX; rw [if_pos hE]
    rw [hE, hX] at H
    obtain ⟨J, hJ, hg0, hb0, hz0, ho0⟩ := sgs_to l sg
    have HG := Lib.hid hg0
    have HBD := Lib.hid hb0
    have HZ := Lib.hid hz0
    have HO := Lib.hid ho0
    have HCB := Lib.hid (fun k x h => cd_bd hE (k := k) (x := x) h)
    have HWD := Lib.hid (fun s h => wd_bd hE (s := s) h)
    have HE := Lib.hid hE
    clear hg0 hb0 hz0 ho0 hE hX
    have R := Lib.hid r
    have R' := Lib.hid r'
    go_enter Try.func22, Try.ntmps22
    go_wp2_with (go_at_call 17; refine H.out.mono ?_; rintro e w1 ⟨A1, n1, c1, rfl, r1, hb1⟩)
    have hn1 := r1.len
    rw [canL_length] at hn1
    obtain rfl := hn1
    go_loopw [8, 21] (fun v8 v21 wr => ∃ i : Nat, i ≤ J ∧ v21 = .int .i64 i ∧ Owns wr w1.heap.size 2 v8 i (((sg.take i).map (sgP l)).flatMap Piece.cells) ∧ Below w1.heap.size w1 wr) (fun _ v21 _ => sg.length - (intOf v21).toNat)
    case atStart => exact ⟨0, Nat.zero_le _, rfl, Owns.nil _ _ _, Below.refl _ _⟩
    case round =>
      obtain ⟨i, hi, rfl, hown, hb⟩ := hrel
      obtain ⟨AO, cO, rfl⟩ := hown.form
      have hsz := hb.size
      have hsz1 := hb1.size
      by_cases hlt : i < J
      · obtain ⟨s, e1, hs⟩ := HG.out i hlt
        obtain ⟨k, rfl, hk, hw0⟩ := sg_nat hs
        have HT := Lib.hid (sgP_take (l := l) e1)
        obtain ⟨bs, os, rfl, hbs, hcs⟩ := ((R'.out.below hb1).below (hb.mono hsz1)).one e1
        have e2 := List.getElem?_eq_getElem hk
        obtain ⟨bl, ol, rfl, hbl, hcl⟩ := ((R.out.below hb1).below (hb.mono hsz1)).one e2
        obtain ⟨e3, e4, hc0, hc1⟩ := HCB.out k _ e2
        obtain ⟨bc, oc, rfl, hbc, hcc⟩ := (r1.below hb).one e3
        have hwb := HWD.out _ hs
        have hP : Hid ((sgP l k).Val = flip (cd l k).toNat (wd l k) ∧ (sgP l k).Width = wd l k) := ⟨rfl, rfl⟩
        rw [← e4] at hcl
        generalize wd l k = x at *
        obtain ⟨m, hm⟩ : ∃ m : Nat, cd l k = m := ⟨(cd l k).toNat, by omega⟩
        rw [hm] at hcc hP hc1
        rw [Int.toNat_natCast] at hP
        have HF := Lib.hid (flip_any m x)
        have hx0 : (x == 0) = false := by rw [beq_eq_false_iff_ne]; omega
        have hx1 : ¬ x = 0 := by omega
        have hmw : IntKind.u64.wrap (m : Int) = m := by rw [IntKind.wrap_u64]; omega
        have hm64 : m < 18446744073709551616 := by omega
        have HFF : Hid (∀ W, Calls Try.prog 45 #[.int .u64 m, .int .i64 x] W fun e w' => e = .returned (.int .u64 (flip m x)) ∧ W = w') := fun W => flip_any m x W hm64 (by omega) (by omega)
        clear e1 e2 e3 e4 hm hs hw0 HF hm64
        generalize flip m x = f at *
        have i1 : (i : Int) < (sg.length : Int) := by omega
        have i2 : (k : Int) < (l.length : Int) := by omega
        have i3 : (0 : Int) ≤ (k : Int) := by omega
        have HS0 := Lib.hid (show wr.cell? ⟨bc, oc + k, none⟩ = some (.int .i64 (m : Int)) ∧ wr.cell? ⟨bl, ol + k, none⟩ = some (.int .i64 x) from ⟨hcc, hcl⟩)
        have G2 : Hid (∀ u ∈ (#[.int .u64 (f : Int), .int .i64 x] : Array Value).toList, u.oneCell' = true) := by simp [Hid, Value.oneCell']
        have G3 : Hid (i + 1 ≤ maxLen ∧ (i + 1) * 16 ≤ 140737488355328) := by unfold maxLen Hid; omega
        have G4 : Hid (0 < 2) := by simp [Hid]
        generalize hU : ((sg.take i).map (sgP l)).flatMap Piece.cells = U at *
        have GO : Hid (Owns (wr.alloc (.cells #[.int .u64 (f : Int), .int .i64 x] 44)).drew w1.heap.size 2 (.slice AO i cO) i U) := (hown.alloc _).drew
        have GB : Hid (w1.heap.size ≤ (wr.alloc (.cells #[.int .u64 (f : Int), .int .i64 x] 44)).drew.heap.size) := by simp [Hid]; omega
        have GH : Hid ((wr.alloc (.cells #[.int .u64 (f : Int), .int .i64 x] 44)).drew.heap[wr.heap.size]? = some (.cells #[.int .u64 (f : Int), .int .i64 x] 44)) := heap_alloc_new wr _
        have GZ : Hid (Below w1.heap.size w1 (wr.alloc (.cells #[.int .u64 (f : Int), .int .i64 x] 44)).drew) := (hb.alloc hsz _).drew
        have GC := Lib.hid (And.intro (show bc < wr.heap.size by omega) (show bl < wr.heap.size by omega))
        have GN : Hid (Value.ownBlock (.slice AO i cO) ≠ some bc ∧ Value.ownBlock (.slice AO i cO) ≠ some bl) := ⟨fun e => by have := (hown.lt _ e).1; omega, fun e => by have := (hown.lt _ e).1; omega⟩
        clear hU hown hb
        go_wp2
        have hs0 := HS0.out
        go_region_held_law (fun W => W.cell? ⟨bc, oc + k, none⟩ = some (.int .i64 (m : Int)) ∧ W.cell? ⟨bl, ol + k, none⟩ = some (.int .i64 x))
          (first | assumption | exact keepH2 (by assumption) | exact keepH2l GN.out.1 GN.out.2 (by assumption) hl2 | exact keepH2a GC.out.1 GC.out.2 (by assumption))
          (first
            | (go_at_call 45; refine (HFF.out _).mono ?_; rintro e w' ⟨rfl, rfl⟩)
            | (refine step_app1 (P := Try.prog) (e := 44) (z := .agg #[.int .u64 0, .int .i64 0]) (size := 2) (bytes := 16) (base := w1.heap.size) rfl (.tmp 40) (.tmp 56) 37 rfl Try.underlying37 info_piece rfl G4.out AO i cO U rfl GO.out GB.out wr.heap.size 1 #[.int .u64 (f : Int), .int .i64 x] 44 rfl GH.out rfl G2.out G3.out.1 G3.out.2 ?_; intro A2 c2 w2 hown2 hl2 hn2))
        all_goals
          have HO2 := Lib.hid hown2
          have HB2 := Lib.hid (hl2.below (Nat.le_refl _) GZ.out)
          clear hown2 hl2 hn2 hs0
          go_wp2
          go_roundw
          case rel => exact ⟨i + 1, by omega, by go_num, by rw [HT.out, hP.out.1, hP.out.2]; exact HO2.out, HB2.out⟩
          case measure => (simp [intOf]; try omega)
      · obtain rfl : i = J := by omega
        by_cases hend : i < sg.length
        · have F := Lib.hid (cw_bad HE.out (HO.out hend))
          obtain ⟨s, e1, hs⟩ := HBD.out hend
          have i1 : (i : Int) < (sg.length : Int) := by omega
          have HBB := Lib.hid (hb1.trans (hb.mono hsz1))
          rcases sg_no hs with h | ⟨h, h2⟩ | ⟨k, rfl, hk, e2⟩
          · obtain ⟨bs, os, rfl, hbs, hcs⟩ := ((R'.out.below hb1).below (hb.mono hsz1)).one e1
            clear e1 hs hown hb
            go_wp2
            go_ret2
            exact ⟨none, 0, 0, by rw [F.out.1]; rfl, by rw [F.out.2.1]; exact no_pieces _ _, HBB.out⟩
          · obtain ⟨bs, os, rfl, hbs, hcs⟩ := ((R'.out.below hb1).below (hb.mono hsz1)).one e1
            clear e1 hs hown hb
            go_wp2
            go_ret2
            exact ⟨none, 0, 0, by rw [F.out.1]; rfl, by rw [F.out.2.1]; exact no_pieces _ _, HBB.out⟩
          · obtain ⟨bs, os, rfl, hbs, hcs⟩ := ((R'.out.below hb1).below (hb.mono hsz1)).one e1
            obtain ⟨bl, ol, rfl, hbl, hcl⟩ := ((R.out.below hb1).below (hb.mono hsz1)).one e2
            have i2 : (k : Int) < (l.length : Int) := by omega
            clear e1 e2 hs hown hb
            go_wp2
            go_ret2
            exact ⟨none, 0, 0, by rw [F.out.1]; rfl, by rw [F.out.2.1]; exact no_pieces _ _, HBB.out⟩
        · have hie : i = sg.length := by omega
          have F := Lib.hid (cw_ok HE.out (HZ.out hie))
          have HT : Hid (((sg.take i).map (sgP l)) = cwP l sg) := by simp only [Hid]; rw [F.out.2.1, List.take_of_length_le (by omega)]
          have HOO := Lib.hid ((hown.rows piece_two (by omega)))
          have HBB := Lib.hid (hb1.trans (hb.mono hsz1))
          clear hie hown hb
          go_wp2
          go_ret2
          exact ⟨AO, i, cO, by rw [F.out.1]; rfl, by rw [← HT.out]; exact HOO.out, HBB.out⟩
  · have F := Lib.hid (cw_can (signs := sg) hE)
    have hne : (canE l != 0) = true := bne_iff_ne.2 hE
    generalize canE l = ce at *
    generalize canX l = X at *
    clear hE
    go_enter Try.func22, Try.ntmps22
    go_wp2_with (go_at_call 17; refine H.out.mono ?_; rintro e w1 ⟨A1, n1, c1, rfl, r1, hb1⟩)
    go_ret2
    exact ⟨none, 0, 0, by rw [F.out.1]; rfl, by rw [F.out.2.1]; exact no_pieces _ _, hb1⟩
end Go.Proofs.Ytdoaogfpahjmmaa
