/- dir.seek, walked. -/
import Derived.Test.YtnnmiolgffcgkaaXJa
import Derived.Test.YtnnmiolgffcgkaaDirC
import Derived.Test.YtnnmiolgffcgkaaShelf
namespace Go.Proofs.Ytnnmiolgffcgkaa
open Go.RowKit

set_option maxRecDepth 20000 in
set_option maxHeartbeats 400000 in
theorem cmpe_any (x : EntD) (name : ByteArray) (w : World) :
    Calls Try.prog 102 #[.agg #[.string x.Name, .int .i64 x.Ino], .string name] w fun e w' => e = .returned (.int .i64 (Lib.compareBytes x.Name.data.toList name.data.toList)) ∧ Below w.heap.size w w' := by
  have HC : Hid (∀ W, Calls Try.prog 103 #[.string x.Name, .string name] W fun e w' => e = .returned (.int .i64 (Lib.compareBytes x.Name.data.toList name.data.toList)) ∧ w' = W) := fun W => Try.strings_Compare x.Name name W
  generalize Lib.compareBytes x.Name.data.toList name.data.toList = q at *
  go_enter Try.func102, Try.ntmps102
  go_wp2_with (go_at_call 103; refine (HC.out _).mono ?_; rintro e w' ⟨rfl, rfl⟩)
  go_ret
  exact ⟨rfl, (Below.refl _ _).alloc (Nat.le_refl _) _⟩
/-- What the search answers. -/
def SeekPost (l : List EntD) (name : ByteArray) (w : World) (e : Ending) (w' : World) : Prop := ∃ (i : Nat) (b : Bool), e = .returned (.tuple #[.int .i64 i, .bool b]) ∧ Pos l name i ∧ (b = true ↔ ∃ x, l[i]? = some x ∧ x.Name = name) ∧ Below w.heap.size w w'

set_option maxRecDepth 20000 in
set_option maxHeartbeats 1000000 in
theorem bsf_any (A : Option Addr) (n c : Nat) (l : List EntD) (name : ByteArray) (w : World) (r : RowsIn w w.heap.size A n c EntD.cells 2 l) (hs : Srt l) (hn : n ≤ 24) :
    Calls Try.prog 101 #[.slice A n c, .string name, .func (.func 102) #[] #[]] w (SeekPost l name w) := by
  have hlen := r.len
  subst hlen
  have R := Lib.hid r
  have HS := Lib.hid hs
  have HC : Hid (∀ (x : EntD) W, Calls Try.prog 102 #[.agg #[.string x.Name, .int .i64 x.Ino], .string name] W fun e w' => e = .returned (.int .i64 (Lib.compareBytes x.Name.data.toList name.data.toList)) ∧ Below W.heap.size W w') := fun x W => cmpe_any x name W
  clear r hs
  go_enter Try.func101, Try.ntmps101
  go_wp2
  go_loopw [9, 10, 11] (fun v9 v10 _ wr => ∃ i j : Nat, v9 = .int .i64 i ∧ v10 = .int .i64 j ∧ i ≤ j ∧ j ≤ l.length ∧ Hid (Bin l name i j) ∧ Hid (Below w.heap.size w wr)) (fun v9 v10 _ _ => (intOf v10).toNat - (intOf v9).toNat)
  case atStart => exact ⟨0, l.length, rfl, rfl, Nat.zero_le _, Nat.le_refl _, Bin.start _ _, Below.refl _ _⟩
  case round =>
    obtain ⟨i, j, rfl, rfl, hij, hjn, HB, HW⟩ := hrel
    obtain ⟨w1, rfl⟩ : ∃ z : World, z = wr := ⟨_, rfl⟩
    by_cases hlt : i < j
    · obtain ⟨h, hh⟩ : ∃ h, h = (i + j) / 2 := ⟨_, rfl⟩
      have hh1 : ((i : Int) + (j : Int)) / 2 = (h : Int) := by omega
      have hlj : h < j := by omega
      have hli : i ≤ h := by omega
      have hln : h < l.length := by omega
      have i1 : (i : Int) < (j : Int) := by omega
      have i2 : (h : Int) < (l.length : Int) := by omega
      have e1 := List.getElem?_eq_getElem hln
      obtain ⟨b, o, rfl, hbB, k0, k1⟩ := entCells (R.out.below HW.out) e1
      have HCC := Lib.hid (HC.out l[h])
      have hcl := cmp_lt l[h].Name name
      have HUP := Lib.hid (fun q => HB.out.up HS.out e1 hli hlj q)
      have HDN := Lib.hid (fun q => HB.out.down HS.out e1 hli hlj q)
      have HWW := Lib.hid HW.out.size
      clear hh e1
      generalize l[h] = x at *
      generalize Lib.compareBytes x.Name.data.toList name.data.toList = q at *
      by_cases hq : ltS x.Name name = true
      · have HN := Lib.hid (HUP.out hq)
        rw [hq] at hcl
        clear hq
        go_wp2_with (go_at_call 102; refine (HCC.out _).mono ?_; rintro e w2 ⟨rfl, hb2⟩; have HB2 := Lib.hid (HW.out.trans (hb2.mono HWW.out)))
        go_roundw
        case rel => exact ⟨h + 1, j, by go_num, rfl, by omega, hjn, HN.out, HB2.out⟩
        case measure => (simp [intOf]; try omega)
      · have hq2 : ltS x.Name name = false := by simpa using hq
        have HN := Lib.hid (HDN.out hq2)
        rw [hq2] at hcl
        clear hq hq2
        go_wp2_with (go_at_call 102; refine (HCC.out _).mono ?_; rintro e w2 ⟨rfl, hb2⟩; have HB2 := Lib.hid (HW.out.trans (hb2.mono HWW.out)))
        go_roundw
        case rel => exact ⟨i, h, rfl, rfl, hli, by omega, HN.out, HB2.out⟩
        case measure => (simp [intOf]; try omega)
    · obtain rfl : i = j := by omega
      have i1 : ¬ (i : Int) < (i : Int) := by omega
      have HP := Lib.hid HB.out.pos
      have HWW := Lib.hid HW.out.size
      by_cases hin : i < l.length
      · have i2 : (i : Int) < (l.length : Int) := by omega
        have i2n := decide_eq_true hin
        have e1 := List.getElem?_eq_getElem hin
        obtain ⟨b, o, rfl, hbB, k0, k1⟩ := entCells (R.out.below HW.out) e1
        have HCC := Lib.hid (HC.out l[i])
        have hz := cmp_zero l[i].Name name
        have HE : Hid (∀ b : Bool, (b = true ↔ l[i].Name = name) → (b = true ↔ ∃ x, l[i]? = some x ∧ x.Name = name)) := fun b hb => by
          rw [hb]
          exact ⟨fun q => ⟨_, e1, q⟩, fun ⟨x, hx, hq⟩ => by rw [e1] at hx; injection hx with hx; rw [hx]; exact hq⟩
        have hbz : ((Lib.compareBytes l[i].Name.data.toList name.data.toList == 0) = true ↔ l[i].Name = name) := by rw [beq_iff_eq]; exact hz
        have HBZ := Lib.hid (HE.out _ hbz)
        clear e1 hz hbz HE
        generalize l[i] = x at *
        generalize Lib.compareBytes x.Name.data.toList name.data.toList = q at *
        obtain ⟨bq, hbq⟩ : ∃ bq, (q == 0) = bq := ⟨_, rfl⟩
        rw [hbq] at HBZ
        go_wp2_with (go_at_call 102; refine (HCC.out _).mono ?_; rintro e w2 ⟨rfl, hb2⟩; have HB2 := Lib.hid (HW.out.trans (hb2.mono HWW.out)))
        go_ret2
        exact ⟨i, bq, rfl, HP.out, HBZ.out, HB2.out⟩
      · have i2 : ¬ (i : Int) < (l.length : Int) := by omega
        have i2n := decide_eq_false hin
        have HE : Hid (false = true ↔ ∃ x, l[i]? = some x ∧ x.Name = name) := ⟨(fun h => by cases h), fun ⟨x, hx, _⟩ => absurd (List.getElem?_eq_some_iff.1 hx).1 hin⟩
        go_wp2
        go_ret2
        exact ⟨i, false, rfl, HP.out, HE.out, HW.out⟩

set_option maxRecDepth 20000 in
set_option maxHeartbeats 400000 in
theorem seek_any (A : Option Addr) (n c : Nat) (l : List EntD) (name : ByteArray) (w : World) (r : RowsIn w w.heap.size A n c EntD.cells 2 l) (hs : Srt l) (hn : n ≤ 24) :
    Calls Try.prog 73 #[.slice A n c, .string name] w (SeekPost l name w) := by
  have H := Lib.hid (bsf_any A n c l name w r hs hn)
  clear r hs
  unfold SeekPost at H ⊢
  go_enter Try.func73, Try.ntmps73
  go_wp2_with (go_at_call 101; refine H.out.mono ?_; rintro e w' ⟨i, b, rfl, h1, h2, h3⟩; have H1 := Lib.hid h1; have H2 := Lib.hid h2; have H3 := Lib.hid h3; clear h1 h2 h3)
  go_ret2
  exact ⟨i, b, rfl, H1.out, H2.out, H3.out⟩
end Go.Proofs.Ytnnmiolgffcgkaa
