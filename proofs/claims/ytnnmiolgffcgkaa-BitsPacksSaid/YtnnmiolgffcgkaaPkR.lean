/- bits.Pack, walked. -/
import Derived.Test.YtnnmiolgffcgkaaPkQ
import Derived.Test.YtnnmiolgffcgkaaBits
namespace Go.Proofs.Ytnnmiolgffcgkaa
open Go.RowKit Go.PlainAid

theorem pieceCells {w : World} {B n c : Nat} {A : Option Addr} {l : List Piece} (r : RowsIn w B A n c Piece.cells 2 l) {i : Nat} {p : Piece} (h : l[i]? = some p) : ∃ b o, A = some ⟨b, o, none⟩ ∧ b < B ∧ w.cell? ⟨b, o + i * 2, none⟩ = some (.int .u64 p.Val) ∧ w.cell? ⟨b, o + i * 2 + 1, none⟩ = some (.int .i64 p.Width) := by
  obtain ⟨b, o, e, hb, hc⟩ := r.at_ i p h
  exact ⟨b, o, e, hb, hc 0 _ rfl, hc 1 _ rfl⟩
def PkPost (l : List Piece) (w : World) (e : Ending) (w' : World) : Prop := e = .returned (.tuple #[.string (pkR l).1, .int .i64 (pkR l).2]) ∧ Below w.heap.size w w'
theorem pieceVal {p : Piece} (h : Piece.ok p) : 0 ≤ p.Val ∧ p.Val < 18446744073709551616 ∧ -9223372036854775808 ≤ p.Width ∧ p.Width < 9223372036854775808 := by
  have h1 := wf_u64_bd h.1
  have h2 := wf_i64_bd h.2
  omega

set_option maxRecDepth 20000 in
set_option maxHeartbeats 2000000 in
theorem pack_any (A : Option Addr) (n c : Nat) (l : List Piece) (w : World) (r : RowsIn w w.heap.size A n c Piece.cells 2 l) (hok : ∀ z ∈ l, Piece.ok z) (hs : c * 16 ≤ 140737488351232) :
    Calls Try.prog 15 #[.slice A n c] w (PkPost l w) := by
  have hn := r.len
  subst hn
  have htop : l.length ≤ 8796093021952 := by have h1 := r.le; omega
  obtain ⟨J, hJ, hg, hb, he⟩ := pk_first l
  have HG := Lib.hid hg
  have HB := Lib.hid hb
  have HE := Lib.hid he
  have HOK := Lib.hid hok
  have R := Lib.hid r
  clear hg hb he hok r
  go_enter Try.func15, Try.ntmps15
  go_wp2
  go_loopw [4, 6, 12] (fun v4 _ v12 wr => ∃ i : Nat, i ≤ J ∧ v12 = .int .i64 i ∧ v4 = .int .i64 (pkW (l.take i)) ∧ pkW (l.take i) ≤ 64 * i ∧ Hid (Below w.heap.size w wr)) (fun _ _ v12 _ => l.length - (intOf v12).toNat)
  case atStart => exact ⟨0, Nat.zero_le _, rfl, by simp [pkW], by simp [pkW], Below.refl _ _⟩
  case round =>
    obtain ⟨i, hi, rfl, rfl, ht, HBW⟩ := hrel
    obtain ⟨wq, rfl⟩ : ∃ z : World, z = wr := ⟨_, rfl⟩
    by_cases hlt : i < J
    · obtain ⟨p, e1, hw, hf⟩ := HG.out i hlt
      have i1 := decide_eq_true (show i < l.length by omega)
      have i1i : (i : Int) < (l.length : Int) := by omega
      obtain ⟨b, o, rfl, hbB, k0, k1⟩ := pieceCells (R.out.below HBW.out) e1
      have HT := Lib.hid (pkW_take e1)
      obtain ⟨v0, v1, _, _⟩ := pieceVal (HOK.out p (List.mem_of_getElem? e1))
      have hf' : p.Val < 2 ^ p.Width.toNat := hf
      obtain ⟨hw0, hw1⟩ := hw
      clear hf
      generalize p.Val = V at *
      generalize p.Width = X at *
      obtain ⟨x, rfl⟩ := Int.eq_ofNat_of_zero_le hw0
      rw [Int.toNat_natCast] at hf'
      have hfit : V / 2 ^ x = 0 := Int.ediv_eq_zero_of_lt v0 hf'
      have HBX := Lib.hid HBW.out.size
      have HS2 := Lib.hid (Nat.lt_or_ge x 64)
      have HN : Hid (pkW (l.take i) + x ≤ 64 * (i + 1)) := by simp only [Hid]; omega
      have d1 := decide_eq_false (show ¬ (x : Int) < 0 by omega)
      have d2 := decide_eq_false (show ¬ (64 : Int) < (x : Int) by omega)
      have HB2 : Hid (Below w.heap.size w (wq.alloc (.cells #[.int .u64 V, .int .i64 (x : Int)] 77))) := HBW.out.alloc (HBW.out.size) _
      rw [Int.toNat_natCast] at HT
      generalize pkW (l.take i) = T at *
      clear e1 hf'
      by_cases h64 : x < 64
      · have d3 := decide_eq_true (show (x : Int) < 64 by omega)
        go_wp2
        refine ⟨⟨i + 1, by omega, by go_num, ?_, ?_, HB2.out⟩, ?_⟩
        · rw [HT.out]; go_num
        · rw [HT.out]; exact HN.out
        · simp [intOf]; omega
      · have d3 := decide_eq_false (show ¬ (x : Int) < 64 by omega)
        go_wp2
        refine ⟨⟨i + 1, by omega, by go_num, ?_, ?_, HB2.out⟩, ?_⟩
        · rw [HT.out]; go_num
        · rw [HT.out]; exact HN.out
        · simp [intOf]; omega
    · obtain rfl : i = J := by omega
      by_cases hend : i < l.length
      · obtain ⟨p, e1, hbad⟩ := HB.out hend
        have i1 := decide_eq_true hend
        have i1i : (i : Int) < (l.length : Int) := by omega
        obtain ⟨b, o, rfl, hbB, k0, k1⟩ := pieceCells (R.out.below HBW.out) e1
        obtain ⟨v0, v1, _, _⟩ := pieceVal (HOK.out p (List.mem_of_getElem? e1))
        have HB2 : Hid (Below w.heap.size w (wq.alloc (.cells #[.int .u64 p.Val, .int .i64 p.Width] 77))) := HBW.out.alloc (HBW.out.size) _
        rcases hbad with ⟨hw, hp⟩ | ⟨hw, hf, hp⟩
        · have F := Lib.hid (pkR_bad hp (by decide))
          have hw' : p.Width < 0 ∨ (0 ≤ p.Width ∧ 64 < p.Width) := by unfold PWide at hw; omega
          clear hw hp e1
          generalize p.Val = V at *
          generalize p.Width = X at *
          rcases hw' with h | ⟨h, h'⟩
          · have d1 := decide_eq_true h
            go_wp2
            go_ret2
            exact ⟨by rw [F.out]; rfl, HB2.out⟩
          · have d1 := decide_eq_false (show ¬ X < 0 by omega)
            have d2 := decide_eq_true h'
            go_wp2
            go_ret2
            exact ⟨by rw [F.out]; rfl, HB2.out⟩
        · have F := Lib.hid (pkR_bad hp (by decide))
          obtain ⟨hw0, hw1⟩ := hw
          have hf' : ¬ p.Val < 2 ^ p.Width.toNat := hf
          clear hf hp e1
          generalize p.Val = V at *
          generalize p.Width = X at *
          obtain ⟨x, rfl⟩ := Int.eq_ofNat_of_zero_le hw0
          rw [Int.toNat_natCast] at hf'
          have h64 : x < 64 := by
            by_cases e : x = 64
            · subst e; exact absurd v1 (by have : (2 : Int) ^ 64 = 18446744073709551616 := rfl; omega)
            · omega
          have hp2 : (0 : Int) < 2 ^ x := Int.pow_pos (by decide)
          have hne : (V / 2 ^ x != 0) = true := by
            rw [bne_iff_ne]
            intro e
            have := Int.lt_ediv_add_one_mul_self V hp2
            rw [e] at this
            omega
          have d1 := decide_eq_false (show ¬ (x : Int) < 0 by omega)
          have d2 := decide_eq_false (show ¬ (64 : Int) < (x : Int) by omega)
          have d3 := decide_eq_true (show (x : Int) < 64 by omega)
          clear hf' hp2
          go_wp2
          go_ret2
          exact ⟨by rw [F.out]; rfl, HB2.out⟩
      · have hE := HE.out (by omega)
        have hie : i = l.length := by omega
        have hTW : pkW (l.take i) = pkW l := by rw [List.take_of_length_le (by omega)]
        rw [hTW] at ht ⊢
        have i1 := decide_eq_false hend
        have i1i : ¬ (i : Int) < (l.length : Int) := by omega
        by_cases hbig : 65536 < pkW l
        · have F := Lib.hid (pkR_large hE hbig)
          have d1 := decide_eq_true (show (65536 : Int) < (pkW l : Int) by omega)
          have d2 := decide_eq_true hbig
          generalize pkW l = T at *
          clear hE hie hTW
          go_wp2
          go_ret2
          exact ⟨by rw [F.out]; rfl, HBW.out⟩
        · have F := Lib.hid (pkR_ok hE hbig)
          have d1 := decide_eq_false (show ¬ (65536 : Int) < (pkW l : Int) by omega)
          have d2 := decide_eq_false hbig
          have HBIG : Hid (pkW l ≤ 65536) := by simp only [Hid]; omega
          have HTK : Hid (pkB (l.take l.length) = pkB l) := by simp only [Hid]; rw [List.take_length]
          have HST : Hid (SkS wq.heap.size (wq.alloc (.cells #[.slice none 0 0, .int .u64 0, .int .i64 0] 80)) none 0 (pkB (l.take 0)) 0 (heldL (pkB (l.take 0)) 0) (((pkB (l.take 0)).length - 8 * 0 : Nat) : Int)) := ⟨heap_alloc_new wq _, Owns.nil _ _ _⟩
          have HB0 : Hid (Below wq.heap.size wq (wq.alloc (.cells #[.slice none 0 0, .int .u64 0, .int .i64 0] 80))) := (Below.refl _ _).alloc (Nat.le_refl _) _
          have HIE := Lib.hid hie
          generalize hTT : pkW l = T at *
          have HTT := Lib.hid hTT
          clear hE hie hTW hTT
          obtain ⟨S, hS⟩ : ∃ S, S = wq.heap.size := ⟨_, rfl⟩
          have HSZ := Lib.hid hS
          go_wp2
          rw [← hS] at HST HB0 ⊢
          clear hS
          go_loopw [9, 44] (fun _ v44 wr => ∃ (k : Nat) (A' : Option Addr) (c' q : Nat), k ≤ l.length ∧ v44 = .int .i64 k ∧ Hid (SkS S wr A' c' (pkB (l.take k)) q (heldL (pkB (l.take k)) q) (((pkB (l.take k)).length - 8 * q : Nat) : Int)) ∧ Hid (8 * q ≤ (pkB (l.take k)).length ∧ (pkB (l.take k)).length - 8 * q < 8) ∧ Hid (Below S wq wr)) (fun _ v44 _ => l.length - (intOf v44).toNat)
          case atStart => exact ⟨0, none, 0, 0, Nat.zero_le _, rfl, HST.out, ⟨Nat.zero_le _, by simp [pkB]⟩, HB0.out⟩
          case round =>
            obtain ⟨k, A', c', q, hk, rfl, HS, HQ, HBS⟩ := hrel
            obtain ⟨wz, rfl⟩ : ∃ z : World, z = wr := ⟨_, rfl⟩
            by_cases hlt : k < l.length
            · obtain ⟨p, e1, hw, hf⟩ := HG.out k (by have := HIE.out; omega)
              have j1 := decide_eq_true hlt
              have j1i : (k : Int) < (l.length : Int) := by omega
              have hzz := HBS.out.size
              have HBT := Lib.hid (HBW.out.trans (HBS.out.mono (by rw [HSZ.out]; exact HBW.out.size)))
              obtain ⟨b, o, rfl, hbB, m0, m1⟩ := pieceCells (R.out.below HBT.out) e1
              obtain ⟨v0, v1, _, _⟩ := pieceVal (HOK.out p (List.mem_of_getElem? e1))
              have hSz := HS.out.cells.2.2.2.2.2.2
              have HSA : Hid (SkS S (wz.alloc (.cells #[.int .u64 p.Val, .int .i64 p.Width] 77)) A' c' (pkB (l.take k)) q (heldL (pkB (l.take k)) q) (((pkB (l.take k)).length - 8 * q : Nat) : Int)) := ⟨(heap_alloc_old wz _ (by omega)).trans HS.out.row, HS.out.own.alloc _⟩
              have hput := put_any (pkB (l.take k)) q A' c' p.Val p.Width.toNat S (wz.alloc (.cells #[.int .u64 p.Val, .int .i64 p.Width] 77)) (pk_next e1 hf v0 HSA.out HQ.out.1 HQ.out.2 (by rw [HTT.out]; exact HBIG.out)) (by have := hw.2; omega)
              unfold PutPost at hput
              rw [← pkB_take e1, show ((p.Width.toNat : Nat) : Int) = p.Width by have := hw.1; omega] at hput
              have HPUT := Lib.hid hput
              have HB5 := Lib.hid (HBS.out.alloc (show S ≤ wz.heap.size by omega) (.cells #[.int .u64 p.Val, .int .i64 p.Width] 77))
              clear hput HSA hw hf e1
              generalize p.Val = V at *
              generalize p.Width = X at *
              go_wp2_with (go_at_call 57; refine HPUT.out.mono ?_; rintro e w' ⟨A2, c2, q2, rfl, hs2, h1, h2, hb2⟩; have HS2 := Lib.hid hs2; have HQ2 := Lib.hid (And.intro h1 h2); have HB6 := Lib.hid (HB5.out.trans hb2); clear hs2 h1 h2 hb2)
              refine ⟨⟨k + 1, A2, c2, q2, by omega, by go_num, HS2.out, HQ2.out, HB6.out⟩, ?_⟩
              simp [intOf]; omega
            · obtain rfl : k = l.length := by omega
              have j1 := decide_eq_false (Nat.lt_irrefl l.length)
              rw [HTK.out] at HS HQ
              have HEND := Lib.hid (end_any (pkB l) q A' c' S wz HS.out (pkB_bits l) HQ.out.1 HQ.out.2 (by rw [pkB_len, HTT.out]; exact HBIG.out))
              have HBT := Lib.hid (fun (w' : World) (h : Below S wz w') => HBW.out.trans ((HBS.out.trans h).mono (by rw [HSZ.out]; exact HBW.out.size)))
              clear HS HQ
              go_wp2_with (go_at_call 58; refine HEND.out.mono ?_; rintro e w' ⟨rfl, hb2⟩)
              go_ret2
              exact ⟨by rw [F.out]; rfl, HBT.out _ hb2⟩
end Go.Proofs.Ytnnmiolgffcgkaa
