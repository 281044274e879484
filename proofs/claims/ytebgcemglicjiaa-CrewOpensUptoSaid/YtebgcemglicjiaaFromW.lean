/- bits.From and what it answers, walked: a closure that reads bits from a place on, and keeps the place. -/
import Derived.Test.YtebgcemglicjiaaDcJa
import Derived.Test.YtebgcemglicjiaaOwJa
import Derived.BigRegion
import Derived.BigQuiet
import Derived.Deep.QuietTactic
namespace Go.Proofs.Ytebgcemglicjiaa
open Go.RowKit Go.PlainAid

/-- The reader's two boxes: where it stands, and the text. -/
structure Rd (W : World) (base ba bs : Nat) (s : ByteArray) (p : Nat) : Prop where
  hb : base ≤ ba
  hb' : base ≤ bs
  lt : ba < W.heap.size
  lt' : bs < W.heap.size
  ne : ba ≠ bs
  at_ : W.cell? ⟨ba, 0, none⟩ = some (.int .i64 p)
  free : W.frozen? ⟨ba, 0, none⟩ = false
  text : W.cell? ⟨bs, 0, none⟩ = some (.string s)

theorem and_mask (x : Int) (t : Nat) (h0 : 0 ≤ x) (h1 : x ≤ 255) (ht : t ≤ 8) : bits .and .u64 (IntKind.u64.wrap x) (IntKind.u64.wrap (IntKind.u64.wrap (2 ^ t) - 1)) = x % 2 ^ t := by
  have hp : (2 : Nat) ^ t ≤ 2 ^ 8 := Nat.pow_le_pow_right (by omega) ht
  have hp0 : (0 : Nat) < 2 ^ t := Nat.pow_pos (by decide)
  have e2 : ((2 : Int) ^ t) = ((2 ^ t : Nat) : Int) := by simp
  rw [e2]
  generalize hP : (2 : Nat) ^ t = P at *
  have e1 : IntKind.u64.wrap x = x := by rw [IntKind.wrap_u64]; omega
  have e3 : IntKind.u64.wrap (P : Int) = P := by rw [IntKind.wrap_u64]; omega
  have e4 : IntKind.u64.wrap ((P : Int) - 1) = ((P - 1 : Nat) : Int) := by rw [IntKind.wrap_u64]; omega
  rw [e1, e3, e4]
  obtain ⟨n, rfl⟩ := Int.eq_ofNat_of_zero_le h0
  rw [u64_and_nat _ _ (by omega) (by omega), ← hP, Nat.and_two_pow_sub_one_eq_mod]
  simp
theorem or_shift (a b : Int) (k t : Nat) (ha0 : 0 ≤ a) (ha1 : a < 2 ^ k) (hb0 : 0 ≤ b) (hb1 : b < 2 ^ t) (hk : k + t ≤ 64) : bits .or .u64 a (IntKind.u64.wrap (b * 2 ^ k)) = a + b * 2 ^ k := by
  obtain ⟨x, rfl⟩ := Int.eq_ofNat_of_zero_le ha0
  obtain ⟨y, rfl⟩ := Int.eq_ofNat_of_zero_le hb0
  have ek : ((2 : Int) ^ k) = ((2 ^ k : Nat) : Int) := by simp
  have et : ((2 : Int) ^ t) = ((2 ^ t : Nat) : Int) := by simp
  rw [ek] at ha1 ⊢
  rw [et] at hb1
  have h1 : x < 2 ^ k := by omega
  have h2 : y < 2 ^ t := by omega
  have h3 : (2 : Nat) ^ k * 2 ^ t ≤ 2 ^ 64 := by rw [← Nat.pow_add]; exact Nat.pow_le_pow_right (by omega) hk
  have h4 : y + 1 ≤ 2 ^ t := h2
  have h5 : 2 ^ k * (y + 1) ≤ 2 ^ k * 2 ^ t := Nat.mul_le_mul_left _ h4
  rw [Nat.mul_add, Nat.mul_one] at h5
  have h6 : x + 2 ^ k * y < 18446744073709551616 := by
    have : (2 : Nat) ^ 64 = 18446744073709551616 := rfl
    omega
  have e1 : (y : Int) * ((2 ^ k : Nat) : Int) = ((2 ^ k * y : Nat) : Int) := by rw [Nat.mul_comm]; simp
  rw [e1]
  have e2 : IntKind.u64.wrap ((2 ^ k * y : Nat) : Int) = ((2 ^ k * y : Nat) : Int) := by
    generalize 2 ^ k * y = z at *
    rw [IntKind.wrap_u64]; omega
  rw [e2, u64_or_nat _ _ (by omega) (by omega), Nat.or_comm, ← Nat.two_pow_add_eq_or_of_lt h1]
  omega
/-- A piece of at most a byte, set behind what is there. -/
theorem rd_step (s : ByteArray) (a k t p r q : Nat) (hp : p = a + k) (hq : q = p / 8) (hr : r = p % 8) (ht : r + t ≤ 8) (hk : k + t ≤ 64) :
    bits .or .u64 (tn s a k) (IntKind.u64.wrap (bits .and .u64 (IntKind.u64.wrap (bt s q / 2 ^ r)) (IntKind.u64.wrap (IntKind.u64.wrap (2 ^ t) - 1)) * 2 ^ k)) = tn s a (k + t) := by
  have h0 := bt_nonneg s q
  have h1 := bt_le s q
  have hp2 : (0 : Int) < 2 ^ r := Int.pow_pos (by decide)
  have h2 : 0 ≤ bt s q / 2 ^ r := Int.ediv_nonneg h0 (by omega)
  have h3 : bt s q / 2 ^ r ≤ bt s q := Int.ediv_le_self _ h0
  rw [and_mask _ _ h2 (by omega) (by omega)]
  have hb := tn_byte s p t (by omega)
  rw [← hq, ← hr] at hb
  rw [← hb]
  have b1 := tn_bd s a k
  have b2 := tn_bd s p t
  rw [or_shift _ _ k t b1.1 b1.2 b2.1 b2.2 hk, hp, ← tn_add]
/-- The reader, moved on. -/
theorem Rd.on {W w' : World} {base ba bs p p' : Nat} {s : ByteArray} (h : Rd W base ba bs s p) (hz : W.heap.size ≤ w'.heap.size) (hg : w'.heap[bs]? = W.heap[bs]?) (h1 : w'.cell? ⟨ba, 0, none⟩ = some (.int .i64 p')) (h2 : w'.frozen? ⟨ba, 0, none⟩ = false) : Rd w' base ba bs s p' :=
  ⟨h.hb, h.hb', by have := h.lt; omega, by have := h.lt'; omega, h.ne, h1, h2, (World.cell?_of_block (a := ⟨bs, 0, none⟩) hg).trans h.text⟩
theorem Rd.store {W : World} {base ba bs p : Nat} {s : ByteArray} (h : Rd W base ba bs s p) (n p' : Nat) : Rd ((W.drewN n).setCell ⟨ba, 0, none⟩ (.int .i64 p')) base ba bs s p' :=
  h.on (by simp [World.setCell]) (Below.heap_setCell (W.drewN n) ⟨ba, 0, none⟩ _ bs (fun e => h.ne e.symm)) (World.cell?_setCell_same (W.drewN n) ⟨ba, 0, none⟩ (.int .i64 (p' : Int)) (u := .int .i64 (p : Int)) h.at_) (by rw [World.frozen?_setCell]; exact h.free)
theorem grown_store {W wr : World} {ba : Nat} (hg : W.grownBy wr (some ba)) (n : Nat) (u : Value) : W.grownBy ((wr.drewN n).setCell ⟨ba, 0, none⟩ u) (some ba) :=
  ⟨hg.os, hg.tape, hg.output, by have := hg.size; simp [World.setCell]; exact this, fun k hk hne => (Below.heap_setCell (wr.drewN n) ⟨ba, 0, none⟩ u k (fun e => hne (by rw [e]))).trans (hg.block k hk hne)⟩

set_option maxRecDepth 20000 in
set_option maxHeartbeats 1000000 in
theorem rd_any (s : ByteArray) (a w ba bs base : Nat) (W : World) (h : Rd W base ba bs s a) (hw : w ≤ 64) (hfit : a + w ≤ 8 * s.size) (hsz : s.size ≤ 140737488351232) :
    Calls Try.prog 75 #[.int .i64 w, .pointer (some ⟨ba, 0, none⟩), .pointer (some ⟨bs, 0, none⟩)] W fun e w' => e = .returned (.int .u64 (tn s a w)) ∧ Rd w' base ba bs s (a + w) ∧ W.grownBy w' (some ba) := by
  have h1 := h.at_
  have h2 := h.text
  have h3 := h.free
  go_enter Try.func75, Try.ntmps75
  go_wp2
  go_loopw [5, 6] (fun v5 v6 wr => ∃ k : Nat, k ≤ w ∧ v6 = .int .i64 k ∧ v5 = .int .u64 (tn s a k) ∧ Rd wr base ba bs s (a + k) ∧ W.grownBy wr (some ba)) (fun _ v6 _ => w - (intOf v6).toNat)
  case atStart => exact ⟨0, Nat.zero_le _, rfl, rfl, h, ⟨rfl, rfl, rfl, Nat.le_refl _, fun _ _ _ => rfl⟩⟩
  case round =>
    obtain ⟨k, hk, rfl, rfl, hr, hg⟩ := hrel
    have c1 := hr.at_
    have c2 := hr.text
    have c3 := hr.free
    obtain ⟨p, hp⟩ : ∃ p, p = a + k := ⟨_, rfl⟩
    rw [← hp] at c1 hr
    have hps : p ≤ 8 * s.size := by omega
    by_cases hlt : k < w
    · obtain ⟨t1, ht1⟩ : ∃ t : Nat, 8 - (p : Int) % 8 = t := ⟨8 - p % 8, by omega⟩
      obtain ⟨t2, ht2⟩ : ∃ t : Nat, (w : Int) - k = t := ⟨w - k, by omega⟩
      obtain ⟨q, hq⟩ : ∃ q : Nat, q = p / 8 := ⟨_, rfl⟩
      obtain ⟨r, hr8⟩ : ∃ r : Nat, r = p % 8 := ⟨_, rfl⟩
      obtain ⟨t1, ht1⟩ : ∃ t : Nat, 8 - (r : Int) = t := ⟨8 - r, by omega⟩
      have hqs : q < s.size := by omega
      have hr7 : r ≤ 7 := by omega
      have f1 : (p : Int).tdiv 8 = q := by rw [Int.tdiv_eq_ediv_of_nonneg (by omega)]; omega
      have f2 : (p : Int).tmod 8 = r := by rw [Int.tmod_eq_emod_of_nonneg (by omega)]; omega
      have f3 : IntKind.i64.wrap (q : Int) = q := by rw [IntKind.wrap_i64]; omega
      have f4 : IntKind.i64.wrap (r : Int) = r := by rw [IntKind.wrap_i64]; omega
      have hix := run_idx (P := Try.prog) Try.underlying9 s q q _ rfl hqs (get_bt s q hqs)
      have hB0 := bt_nonneg s q
      have hB1 := bt_le s q
      have HBt : ∃ B, B = bt s q := ⟨_, rfl⟩
      obtain ⟨B, hB⟩ := HBt
      rw [← hB] at hix hB0 hB1
      have HB := Lib.hid hB
      clear hB
      have HP := Lib.hid hp
      have HT1 := Lib.hid ht1
      have HT2 := Lib.hid ht2
      have HQ := Lib.hid hq
      have HR8 := Lib.hid hr8
      have HH := Lib.hid hr
      have HG := Lib.hid hg
      have hk1 : (k : Int) < w := by omega
      by_cases hm : t1 ≤ t2
      · have hm' : (t1 : Int) ≤ (t2 : Int) := by omega
        have b1 : 1 ≤ t1 := by omega
        have b2 : t1 ≤ 8 := by omega
        clear hp hq hr8 hr hg h
        go_wp2
        go_quiet (fail)
        clear f1 f2 f3 f4 hix
        go_wp2
        go_roundw
        case rel =>
          have e := rd_step s a k t1 p r q HP.out HQ.out HR8.out (by have := HT1.out; omega) (by have := HT2.out; omega)
          have e2 : ((p : Int) + t1) = ((a + (k + t1) : Nat) : Int) := by have := HP.out; omega
          refine ⟨k + t1, by have := HT2.out; omega, by go_num, ?_, ?_, grown_store HG.out _ _⟩
          · rw [← e, ← HB.out]
          · rw [e2]; exact HH.out.store _ _
        case measure => (simp [intOf]; try omega)
      · have hm' : (t2 : Int) < (t1 : Int) := by omega
        have b1 : 1 ≤ t2 := by omega
        have b2 : t2 ≤ 8 := by omega
        clear hp hq hr8 hr hg h
        go_wp2
        go_quiet (fail)
        clear f1 f2 f3 f4 hix
        go_wp2
        go_roundw
        case rel =>
          have e := rd_step s a k t2 p r q HP.out HQ.out HR8.out (by have := HT1.out; omega) (by have := HT2.out; omega)
          have e2 : ((p : Int) + t2) = ((a + (k + t2) : Nat) : Int) := by have := HP.out; omega
          refine ⟨k + t2, by have := HT2.out; omega, by go_num, ?_, ?_, grown_store HG.out _ _⟩
          · rw [← e, ← HB.out]
          · rw [e2]; exact HH.out.store _ _
        case measure => (simp [intOf]; try omega)
    · have hkw : k = w := by omega
      have F : Hid (tn s a k = tn s a w) := by rw [hkw]; rfl
      have F2 : Hid (Rd wr base ba bs s (a + w)) := by rw [← hkw, ← hp]; exact hr
      have hk1 : ¬ (k : Int) < w := by omega
      have HG := Lib.hid hg
      clear hp hr hkw h
      go_wp2
      go_ret
      exact ⟨ret_i1 F.out, F2.out, HG.out⟩
end Go.Proofs.Ytebgcemglicjiaa
