/- slices.SortStableFunc on coins, walked: the row comes out sorted. -/
import Derived.Test.YtoncakcfibahaaaHsH
namespace Go.Proofs.Ytoncakcfibahaaa
open Go.RowKit

/-- From lo on, up to hi, coins of one block of bs stand in order. -/
def SB (bs lo hi : Nat) (l : List CoinV) : Prop := ∀ i j x y, lo ≤ i → i ≤ j → j < hi → i / bs = j / bs → l[i]? = some x → l[j]? = some y → x.worth ≤ y.worth
theorem SB.nil (bs lo : Nat) (l : List CoinV) : SB bs lo lo l := fun i j x y h1 h2 h3 => by omega
theorem SB.more {bs lo hi lo' hi' : Nat} {l : List CoinV} (h : SB bs lo hi l) (h1 : lo ≤ lo') (h2 : hi' ≤ hi) : SB bs lo' hi' l := fun i j x y a b c d e f => h i j x y (by omega) b (by omega) d e f
theorem SB.srt {bs : Nat} {l : List CoinV} (h : SB bs 0 l.length l) (hb : l.length ≤ bs) : SrtC l := by
  refine List.pairwise_iff_getElem.2 (fun i j hi hj hij => ?_)
  exact h i j _ _ (Nat.zero_le _) (by omega) hj (by rw [Nat.div_eq_of_lt (by omega), Nat.div_eq_of_lt (by omega)]) (List.getElem?_eq_getElem hi) (List.getElem?_eq_getElem hj)
theorem srt_sl {l : List CoinV} {a z : Nat} (hz : z ≤ l.length) (h : ∀ i j x y, a ≤ i → i ≤ j → j < z → l[i]? = some x → l[j]? = some y → x.worth ≤ y.worth) : SrtC ((l.drop a).take (z - a)) := by
  refine List.pairwise_iff_getElem.2 (fun i j hi hj hij => ?_)
  rw [List.length_take, List.length_drop] at hi hj
  rw [List.getElem_take, List.getElem_take, List.getElem_drop, List.getElem_drop]
  exact h (a + i) (a + j) _ _ (by omega) (by omega) (by omega) (List.getElem?_eq_getElem _) (List.getElem?_eq_getElem _)
theorem div_same {bs k i j : Nat} (h0 : 0 < bs) (h1 : bs * k ≤ i) (h2 : i ≤ j) (h3 : j < bs * k + bs) : i / bs = j / bs := by
  have e1 : i / bs = k := by
    rw [Nat.div_eq_iff h0]; rw [Nat.mul_comm k bs]; omega
  have e2 : j / bs = k := by
    rw [Nat.div_eq_iff h0]; rw [Nat.mul_comm k bs]; omega
  rw [e1, e2]
theorem div_ne {bs k i j : Nat} (h0 : 0 < bs) (h1 : i < bs * k) (h2 : bs * k ≤ j) : i / bs ≠ j / bs := by
  have e1 : i / bs < k := by rw [Nat.div_lt_iff_lt_mul h0, Nat.mul_comm]; exact h1
  have e2 : k ≤ j / bs := by rw [Nat.le_div_iff_mul_le h0, Nat.mul_comm]; exact h2
  omega
/-- A row in three: the middle was put in order. -/
theorem sb_grow {bs k a z : Nat} {pre mid post : List CoinV} (h0 : 0 < bs) (ha : pre.length = a) (hz : a + mid.length = z) (hk : a = bs * k) (h : SB bs 0 a (pre ++ (mid ++ post))) (hs : SrtC mid) : SB bs 0 z (pre ++ (mid ++ post)) := by
  intro i j x y h1 h2 h3 h4 h5 h6
  by_cases hj : j < a
  · exact h i j x y h1 h2 hj h4 h5 h6
  · by_cases hi : i < a
    · exact absurd h4 (div_ne (k := k) h0 (by omega) (by omega))
    · rw [List.getElem?_append_right (by omega), List.getElem?_append_left (by omega)] at h5 h6
      exact srt_at hs (by omega) h5 h6
theorem sb_pre {bs a : Nat} {pre mid mid' post : List CoinV} (ha : pre.length = a) (h : SB bs 0 a (pre ++ (mid ++ post))) : SB bs 0 a (pre ++ (mid' ++ post)) := by
  intro i j x y h1 h2 h3 h4 h5 h6
  rw [List.getElem?_append_left (by omega)] at h5 h6
  exact h i j x y h1 h2 h3 h4 (by rw [List.getElem?_append_left (by omega)]; exact h5) (by rw [List.getElem?_append_left (by omega)]; exact h6)
theorem sb_post {bs z n : Nat} {pre mid mid' post : List CoinV} (hl : mid'.length = mid.length) (hz : pre.length + mid.length = z) (h : SB bs z n (pre ++ (mid ++ post))) : SB bs z n (pre ++ (mid' ++ post)) := by
  intro i j x y h1 h2 h3 h4 h5 h6
  rw [List.getElem?_append_right (by omega), List.getElem?_append_right (by omega)] at h5 h6
  exact h i j x y h1 h2 h3 h4 (by rw [List.getElem?_append_right (by omega), List.getElem?_append_right (by omega), ← hl]; exact h5) (by rw [List.getElem?_append_right (by omega), List.getElem?_append_right (by omega), ← hl]; exact h6)
theorem cut3 (l : List CoinV) {a z : Nat} (h1 : a ≤ z) (h2 : z ≤ l.length) : l = l.take a ++ ((l.drop a).take (z - a) ++ l.drop z) ∧ (l.take a).length = a ∧ a + ((l.drop a).take (z - a)).length = z := by
  refine ⟨?_, by rw [List.length_take]; omega, by rw [List.length_take, List.length_drop]; omega⟩
  have e : l.drop z = (l.drop a).drop (z - a) := by rw [List.drop_drop]; congr 1; omega
  rw [e, List.take_append_drop, List.take_append_drop]
theorem perm3 {l pre mid mid' post : List CoinV} (hp : (pre ++ (mid ++ post)).Perm l) (h : mid'.Perm mid) : (pre ++ (mid' ++ post)).Perm l := ((List.Perm.append_left _ (List.Perm.append_right _ h)).trans hp)
/-- Where the first pass stands: all blocks ahead of a are in order. -/
structure StA (w0 : World) (b o n bs a : Nat) (l0 l : List CoinV) (w : World) : Prop where
  row : Row w0 b o n l w
  perm : l.Perm l0
  sb : SB bs 0 a l
  at_ : ∃ k, a = bs * k
  le : a ≤ n
theorem stA_step {w0 : World} {b o n bs a z : Nat} {l0 l : List CoinV} {w : World} (h : StA w0 b o n bs a l0 l w) (h0 : 0 < bs) (hz : a ≤ z) (hzn : z ≤ n) : ∃ pre mid post, l = pre ++ (mid ++ post) ∧ pre.length = a ∧ a + mid.length = z ∧
    ∀ w', InsPost' w0 b o n pre mid post w' → ∃ l', Row w0 b o n l' w' ∧ l'.Perm l0 ∧ SB bs 0 z l' := by
  obtain ⟨e, e1, e2⟩ := cut3 l hz (by rw [h.row.len]; exact hzn)
  refine ⟨_, _, _, e, e1, e2, fun w' ⟨mid', hr, hp, hs⟩ => ⟨_, hr, perm3 (by rw [← e]; exact h.perm) hp, ?_⟩⟩
  obtain ⟨k, hk⟩ := h.at_
  have hsb := h.sb
  rw [e] at hsb
  exact sb_grow h0 e1 (by rw [hp.length_eq]; exact e2) hk (sb_pre e1 hsb) hs
/-- Where a pass of merges stands. -/
structure StB (w0 : World) (b o n bs a : Nat) (l0 l : List CoinV) (w : World) : Prop where
  row : Row w0 b o n l w
  perm : l.Perm l0
  done : SB (2 * bs) 0 a l
  todo : SB bs a n l
  at_ : ∃ k, a = 2 * bs * k
  le : a ≤ n
theorem stB_step {w0 : World} {b o n bs a m z : Nat} {l0 l : List CoinV} {w : World} (h : StB w0 b o n bs a l0 l w) (h0 : 0 < bs) (hm : m = a + bs) (hmz : m < z) (hz : z ≤ a + 2 * bs) (hzn : z ≤ n) : ∃ pre A B post, l = pre ++ (A ++ (B ++ post)) ∧ pre.length = a ∧ m = a + A.length ∧ z = m + B.length ∧ SrtC A ∧ SrtC B ∧
    ∀ w', InsPost' w0 b o n pre (A ++ B) post w' → ∃ l', Row w0 b o n l' w' ∧ l'.Perm l0 ∧ SB (2 * bs) 0 z l' ∧ SB bs z n l' := by
  have hl := h.row.len
  obtain ⟨k, hk⟩ := h.at_
  have hk1 : a = bs * (2 * k) := by rw [hk, Nat.mul_comm 2 bs, Nat.mul_assoc]
  have hk2 : m = bs * (2 * k + 1) := by rw [hm, hk1, Nat.mul_add, Nat.mul_one]
  obtain ⟨e, e1, e2⟩ := cut3 l (a := a) (z := m) (by omega) (by omega)
  have e3 : l.drop m = (l.drop m).take (z - m) ++ l.drop z := by
    have e : l.drop z = (l.drop m).drop (z - m) := by rw [List.drop_drop]; congr 1; omega
    rw [e, List.take_append_drop]
  have e4 : ((l.drop m).take (z - m)).length = z - m := by rw [List.length_take, List.length_drop]; omega
  refine ⟨l.take a, (l.drop a).take (m - a), (l.drop m).take (z - m), l.drop z, by rw [← e3]; exact e, e1, e2.symm, by omega, srt_sl (by omega) ?_, srt_sl (by omega) ?_, fun w' ⟨mid', hr, hp, hs⟩ => ?_⟩
  · intro i j x y q1 q2 q3 q4 q5
    exact h.todo i j x y q1 q2 (by omega) (div_same (k := 2 * k) h0 (by omega) q2 (by omega)) q4 q5
  · intro i j x y q1 q2 q3 q4 q5
    exact h.todo i j x y (by omega) q2 (by omega) (div_same (k := 2 * k + 1) h0 (by omega) q2 (by omega)) q4 q5
  · have hle := hp.length_eq
    have e5 : l = l.take a ++ ((l.drop a).take (m - a) ++ (l.drop m).take (z - m) ++ l.drop z) := by rw [List.append_assoc, ← e3]; exact e
    have hd := h.done
    have ht := h.todo.more (lo' := z) (hi' := n) (by omega) (Nat.le_refl _)
    have hpm := h.perm
    rw [e5] at hd ht hpm
    simp only [List.length_append] at hle
    refine ⟨_, hr, perm3 hpm hp, ?_, ?_⟩
    · exact sb_grow (by omega) e1 (by omega) hk (sb_pre e1 hd) hs
    · exact sb_post (by simp only [List.length_append]; omega) (by simp only [List.length_append]; omega) ht
/-- One block is left over. -/
theorem stB_rest {w0 : World} {b o n bs a : Nat} {l0 l : List CoinV} {w : World} (h : StB w0 b o n bs a l0 l w) (h0 : 0 < bs) (hn : n ≤ a + bs) : SB (2 * bs) 0 n l := by
  obtain ⟨k, hk⟩ := h.at_
  have hk1 : a = bs * (2 * k) := by rw [hk, Nat.mul_comm 2 bs, Nat.mul_assoc]
  intro i j x y h1 h2 h3 h4 h5 h6
  by_cases hj : j < a
  · exact h.done i j x y h1 h2 hj h4 h5 h6
  · by_cases hi : i < a
    · exact absurd h4 (div_ne (k := k) (by omega) (by omega) (by omega))
    · exact h.todo i j x y (by omega) h2 h3 (div_same (k := 2 * k) h0 (by omega) h2 (by omega)) h5 h6
def StbPost (w0 : World) (b o n : Nat) (l0 : List CoinV) (w' : World) : Prop := ∃ l', Row w0 b o n l' w' ∧ l'.Perm l0 ∧ SrtC l'
set_option maxRecDepth 20000 in
set_option maxHeartbeats 1000000 in
theorem stb_any (w0 : World) (b o n c kb : Nat) (l0 : List CoinV) (w : World) (h : Row w0 b o n l0 w) (hk : CmpOk w0 b kb l0) (hn : n ≤ 10000) :
    Calls Try.prog 15 #[.slice (some ⟨b, o, none⟩) n c, .int .i64 n, cmpV kb] w fun e w' => e = .returned (.tuple #[]) ∧ StbPost w0 b o n l0 w' := by
  have HK := Lib.hid hk
  have H := Lib.hid h
  clear h hk
  have HINS : Hid (∀ (a z bs : Nat) (l : List CoinV) W, StA w0 b o n bs a l0 l W → 0 < bs → a ≤ z → z ≤ n → Calls Try.prog 18 #[.slice (some ⟨b, o, none⟩) n c, .int .i64 a, .int .i64 z, .func (.func 16) #[] #[.pointer (some ⟨kb, 0, none⟩)]] W fun e w' => e = .returned (.tuple #[]) ∧ ∃ l', Row w0 b o n l' w' ∧ l'.Perm l0 ∧ SB bs 0 z l') := fun a z bs l W hA h0 h1 h2 => by
    obtain ⟨pre, mid, post, rfl, q1, q2, q3⟩ := stA_step hA h0 h1 h2
    exact (inss_any w0 b o n c kb a z pre mid post W hA.row (HK.out.sub (fun x hx => hA.perm.mem_iff.1 (by simp [hx]))) q1.symm (by omega) (by omega)).mono fun _ w' ⟨he, hp⟩ => ⟨he, q3 w' hp⟩
  have HSYM : Hid (∀ (a m z bs : Nat) (l : List CoinV) W, StB w0 b o n bs a l0 l W → 0 < bs → m = a + bs → m < z → z ≤ a + 2 * bs → z ≤ n → Calls Try.prog 19 #[.slice (some ⟨b, o, none⟩) n c, .int .i64 a, .int .i64 m, .int .i64 z, .func (.func 16) #[] #[.pointer (some ⟨kb, 0, none⟩)]] W fun e w' => e = .returned (.tuple #[]) ∧ ∃ l', Row w0 b o n l' w' ∧ l'.Perm l0 ∧ SB (2 * bs) 0 z l' ∧ SB bs z n l') := fun a m z bs l W hB h0 hm h1 h2 h3 => by
    obtain ⟨pre, A, B, post, rfl, q1, q2, q3, q4, q5, q6⟩ := stB_step hB h0 hm h1 h2 h3
    exact (sym_any w0 b o n c kb (by omega) _ a m z pre A B post W (Nat.le_refl _) (by omega) (by omega) hB.row (HK.out.sub (fun x hx => hB.perm.mem_iff.1 (by simp at hx ⊢; rcases hx with h | h <;> simp [h]))) q4 q5 q1.symm q2 q3).mono fun _ w' ⟨he, hp⟩ => ⟨he, q6 w' hp⟩
  have hnI : (n : Int) ≤ 10000 := by omega
  unfold cmpV
  go_enter Try.func15, Try.ntmps15
  go_wp2
  go_loopw [7, 8] (fun u v wr => ∃ (a z : Nat) (l : List CoinV), u = .int .i64 a ∧ v = .int .i64 z ∧ Hid (z = a + 20) ∧ a ≤ 10000 ∧ z ≤ 10020 ∧ Hid (StA w0 b o n 20 a l0 l wr)) (fun _ v _ => n + 20 - (intOf v).toNat)
  case atStart => exact ⟨0, 20, l0, rfl, rfl, rfl, by omega, by omega, H.out, List.Perm.refl _, SB.nil _ _ _, ⟨0, rfl⟩, Nat.zero_le _⟩
  case round =>
    obtain ⟨a, z, l, rfl, rfl, hz, ha, hz2, HS⟩ := hrel
    by_cases hlt : (z : Int) ≤ (n : Int)
    · have HC := Lib.hid (HINS.out a z 20 l wr HS.out (by omega) (by have := hz.out; omega) (by omega))
      go_wp2_with (go_at_call 18; refine HC.out.mono ?_; rintro e w' ⟨rfl, l', hr, hp, hsb⟩)
      go_roundw
      case rel => exact ⟨z, z + 20, l', rfl, by go_num, rfl, by omega, by omega, hr, hp, hsb, by obtain ⟨k, hk⟩ := HS.out.at_; exact ⟨k + 1, by have := hz.out; omega⟩, by omega⟩
      case measure => (simp [intOf]; omega)
    · have HC := Lib.hid (HINS.out a n 20 l wr HS.out (by omega) HS.out.le (Nat.le_refl _))
      go_wp2_with (go_at_call 18; refine HC.out.mono ?_; rintro e w2 ⟨rfl, l', hr, hp, hsb⟩; have HR := Lib.hid hr; have HP := Lib.hid hp; have HSB := Lib.hid hsb; clear hr hp hsb)
      go_loopw [6] (fun u wr => ∃ (bs : Nat) (l : List CoinV), u = .int .i64 bs ∧ 20 ≤ bs ∧ bs ≤ 20000 ∧ Hid (Row w0 b o n l wr) ∧ Hid (l.Perm l0) ∧ Hid (SB bs 0 n l)) (fun u _ => n - (intOf u).toNat)
      case atStart => exact ⟨20, l', rfl, by omega, by omega, HR, HP, HSB⟩
      case round =>
        obtain ⟨bs, l1, rfl, hb1, hb2, HR1, HP1, HS1⟩ := hrel
        by_cases hbn : (bs : Int) < (n : Int)
        · obtain ⟨wo, rfl⟩ : ∃ z : World, z = wr := ⟨_, rfl⟩
          go_wp2
          go_loopw [7, 8] (fun u v wr => ∃ (a z : Nat) (l : List CoinV), u = .int .i64 a ∧ v = .int .i64 z ∧ Hid (z = a + 2 * bs) ∧ a ≤ 10000 ∧ z ≤ 50000 ∧ Hid (StB w0 b o n bs a l0 l wr)) (fun _ v _ => n + 2 * bs - (intOf v).toNat)
          case atStart => exact ⟨0, 2 * bs, l1, rfl, by go_num, Lib.hid (by omega), by omega, by omega, HR1.out, HP1.out, SB.nil _ _ _, HS1.out, ⟨0, by simp⟩, Nat.zero_le _⟩
          case round =>
            obtain ⟨a, z, l, rfl, rfl, hz, ha, hz2, HS⟩ := hrel
            by_cases hlt : (z : Int) ≤ (n : Int)
            · obtain ⟨m, hm⟩ : ∃ m, m = a + bs := ⟨_, rfl⟩
              have e1 : (a : Int) + (bs : Int) = (m : Int) := by omega
              have HC := Lib.hid (HSYM.out a m z bs l wr HS.out (by omega) hm (by have := hz.out; omega) (by have := hz.out; omega) (by omega))
              have HM := Lib.hid hm
              clear hm
              go_wp2_with (go_at_call 19; refine HC.out.mono ?_; rintro e w' ⟨rfl, l', hr, hp, hsb, hsb2⟩)
              go_roundw
              case rel => exact ⟨z, z + 2 * bs, l', rfl, by go_num, rfl, by omega, by omega, hr, hp, hsb, hsb2, by obtain ⟨k, hk⟩ := HS.out.at_; exact ⟨k + 1, by have := hz.out; rw [Nat.mul_add]; omega⟩, by omega⟩
              case measure => (simp [intOf]; omega)
            · obtain ⟨m, hm⟩ : ∃ m, m = a + bs := ⟨_, rfl⟩
              have e1 : (a : Int) + (bs : Int) = (m : Int) := by omega
              by_cases hmn : (m : Int) < (n : Int)
              · have HC := Lib.hid (HSYM.out a m n bs l wr HS.out (by omega) hm (by omega) (by have := hz.out; omega) (Nat.le_refl _))
                have HM := Lib.hid hm
                clear hm
                go_wp2_with (go_at_call 19; refine HC.out.mono ?_; rintro e w' ⟨rfl, l', hr, hp, hsb, hsb2⟩)
                go_roundw
                case rel => exact ⟨2 * bs, l', by go_num, by omega, by omega, hr, hp, hsb⟩
                case measure => (simp [intOf]; omega)
              · have hF := stB_rest HS.out (by omega) (by omega)
                have HF := Lib.hid hF
                have HM := Lib.hid hm
                clear hm hF
                go_wp2
                go_roundw
                case rel => exact ⟨2 * bs, l, by go_num, by omega, by omega, HS.out.row, HS.out.perm, HF.out⟩
                case measure => (simp [intOf]; omega)
        · go_wp2
          go_end0
          have hl := HR1.out.len
          exact ⟨rfl, l1, HR1.out, HP1.out, SB.srt (bs := bs) (by rw [hl]; exact HS1.out) (by omega)⟩
set_option maxRecDepth 20000 in
set_option maxHeartbeats 400000 in
theorem sstb_any (w0 : World) (b o n c kb : Nat) (l0 : List CoinV) (w : World) (h : Row w0 b o n l0 w) (hk : CmpOk w0 b kb l0) (hn : n ≤ 10000) :
    Calls Try.prog 10 #[.slice (some ⟨b, o, none⟩) n c, cmpV kb] w fun e w' => e = .returned (.tuple #[]) ∧ StbPost w0 b o n l0 w' := by
  have HC := Lib.hid (stb_any w0 b o n c kb l0 w h hk hn)
  clear h hk
  unfold cmpV at *
  go_enter Try.func10, Try.ntmps10
  go_wp2_with (go_at_call 15; refine HC.out.mono ?_; rintro e w' ⟨rfl, hp⟩)
  go_end0
  exact ⟨rfl, hp⟩
end Go.Proofs.Ytoncakcfibahaaa
