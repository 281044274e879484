/- Blobs read from bytes: a varint that is taken is the one that is written; entries behind one another: plain. -/
import Derived.Test.YtjmgocfoimhmjaaBlobP
import Derived.Test.YtjmgocfoimhmjaaGetP
namespace Go.Proofs.Ytjmgocfoimhmjaa
open Go.RowKit Go.PlainAid

theorem vsum_shift (f : Nat → Int) : ∀ k, vsum f (k + 1) = f 0 % 128 + 128 * vsum (fun i => f (i + 1)) k
  | 0 => by simp [vsum]
  | k + 1 => by
    have ih := vsum_shift f k
    have e1 : vsum f (k + 1 + 1) = vsum f (k + 1) + (f (k + 1) % 128) * 128 ^ (k + 1) := rfl
    have e2 : vsum (fun i => f (i + 1)) (k + 1) = vsum (fun i => f (i + 1)) k + (f (k + 1) % 128) * 128 ^ k := rfl
    rw [e1, e2, ih, Int.pow_succ, Int.mul_add, ← Int.mul_assoc, ← Int.mul_assoc]
    have : f (k + 1) % 128 * 128 ^ k * 128 = 128 * (f (k + 1) % 128) * 128 ^ k := by
      rw [Int.mul_comm _ 128, ← Int.mul_assoc]
    omega
theorem range_shift (f : Nat → Int) (n : Nat) : (List.range (n + 1)).map f = f 0 :: (List.range n).map (fun i => f (i + 1)) := by
  rw [List.range_succ_eq_map]; simp [List.map_map, Function.comp_def]
theorem put_back : ∀ (k g : Nat) (f : Nat → Int), k ≤ g → (∀ j, 0 ≤ f j) → (∀ j, f j ≤ 255) → (∀ j, j < k → 128 ≤ f j) → f k < 128 → (k = 0 ∨ f k ≠ 0) → putF g (vsum f (k + 1)) = (List.range (k + 1)).map f
  | 0, g, f, _, h0, h1, _, h3, _ => by
    have e : vsum f (0 + 1) = f 0 := by
      have := h0 0
      simp only [vsum]; simp; omega
    rw [e, putF_small _ _ h3]; rfl
  | k + 1, 0, f, hg, _, _, _, _, _ => by omega
  | k + 1, g + 1, f, hg, h0, h1, h2, h3, h4 => by
    have hs := vsum_shift f (k + 1)
    have h00 := h2 0 (by omega)
    have h01 := h1 0
    have hb := (vsum_bd (fun i => f (i + 1)) k).1
    have hk : 1 ≤ f (k + 1) := by have := h0 (k + 1); rcases h4 with h | h <;> omega
    have hp := pow128 k
    have e2 : vsum (fun i => f (i + 1)) (k + 1) = vsum (fun i => f (i + 1)) k + (f (k + 1) % 128) * 128 ^ k := rfl
    have h5 : 1 * 128 ^ k ≤ (f (k + 1) % 128) * 128 ^ k := Int.mul_le_mul_of_nonneg_right (by omega) (by omega)
    have hpos : 1 ≤ vsum (fun i => f (i + 1)) (k + 1) := by omega
    rw [putF_large _ _ (by omega), range_shift]
    congr 1
    · omega
    · rw [show vsum f (k + 1 + 1) / 128 = vsum (fun i => f (i + 1)) (k + 1) by omega]
      exact put_back k g (fun i => f (i + 1)) (by omega) (fun j => h0 _) (fun j => h1 _) (fun j hj => h2 _ (by omega)) h3 (.inr (by omega))
/-- What Get takes, Put writes. -/
theorem get_back (f : Nat → Int) (len : Nat) (h0 : ∀ j, 0 ≤ f j) (h1 : ∀ j, f j ≤ 255) (h : getE f len = 0) :
    putL (getV f len) = (List.range (getN f len).toNat).map f ∧ (getN f len).toNat ≤ len ∧ 1 ≤ getN f len ∧ getN f len ≤ 10 ∧ 0 ≤ getV f len := by
  obtain ⟨a1, a2, a3, a4⟩ := getK_spec f len
  by_cases e1 : getK f len = len
  · have := (getE_short e1).1; omega
  · by_cases e2 : (getK f len = 9 ∧ 1 < f (getK f len)) ∨ (0 < getK f len ∧ f (getK f len) = 0)
    · have := (getE_form e1 e2).1; omega
    · obtain ⟨_, b2, b3⟩ := getE_ok e1 e2
      rw [b2, b3]
      refine ⟨?_, by omega, by omega, by omega, (vsum_bd f _).1⟩
      rw [show ((getK f len : Int) + 1).toNat = getK f len + 1 by omega]
      refine put_back _ 9 f a1 h0 h1 a3 ?_ ?_
      · by_cases h9 : getK f len = 9
        · have : ¬ 1 < f (getK f len) := fun hh => e2 (.inl ⟨h9, hh⟩)
          omega
        · exact a4 (by omega) (by omega)
      · by_cases hz : getK f len = 0
        · exact .inl hz
        · exact .inr fun hh => e2 (.inr ⟨by omega, hh⟩)

/-- The bytes of s from a on, n of them. -/
def seg (s : ByteArray) (a n : Nat) : List Int := (List.range n).map fun i => bt s (a + i)
theorem seg_length (s : ByteArray) (a n : Nat) : (seg s a n).length = n := by simp [seg]
theorem seg_zero (s : ByteArray) (a : Nat) : seg s a 0 = [] := rfl
theorem seg_one (s : ByteArray) (a : Nat) : seg s a 1 = [bt s a] := rfl
theorem seg_add (s : ByteArray) (a : Nat) : ∀ m n, seg s a (m + n) = seg s a m ++ seg s (a + m) n := by
  intro m n
  unfold seg
  rw [List.range_add, List.map_append, List.map_map]
  congr 1
  simp [Function.comp_def, Nat.add_assoc]
theorem seg_all (s : ByteArray) : seg s 0 s.size = btL s s.size := by simp [seg, btL]
theorem seg_cut (s : ByteArray) (a b : Nat) (h : a ≤ b) (hb : b ≤ s.size) : btL (s.extract a b) (s.extract a b).size = seg s a (b - a) := by
  rw [extract_size s a b hb]
  unfold btL seg
  apply List.map_congr_left
  intro i hi
  rw [List.mem_range] at hi
  exact bt_extract s a b i (by omega) hb
theorem seg_map (s : ByteArray) (a n : Nat) (f : Nat → Int) (h : ∀ i, i < n → f i = bt s (a + i)) : (List.range n).map f = seg s a n := by
  unfold seg
  apply List.map_congr_left
  intro i hi
  rw [List.mem_range] at hi
  exact h i hi

theorem bt_strOf (L : List Int) (i : Nat) (x : Int) (h : L[i]? = some x) (h0 : 0 ≤ x) (h1 : x ≤ 255) : bt (strOfNums L) i = x := by
  have hi : i < L.length := (List.getElem?_eq_some_iff.1 h).1
  have hx : L[i] = x := (List.getElem?_eq_some_iff.1 h).2
  have hs : i < (strOfNums L).size := by rw [strOfNums_size]; exact hi
  have e : (strOfNums L)[i]'hs = UInt8.ofNat x.toNat := by
    have : (strOfNums L)[i]'hs = (strOfNums L).data[i]'hs := rfl
    rw [this]
    simp [strOfNums, hx]
  unfold bt
  rw [dif_pos hs, e]
  simp
  omega
/-- What stands from p on. -/
def tl (s : ByteArray) (p : Nat) : ByteArray := s.extract p s.size
theorem tl_size (s : ByteArray) (p : Nat) : (tl s p).size = s.size - p := extract_size s p s.size (Nat.le_refl _)
theorem tl_tl (s : ByteArray) (p q : Nat) : (tl s p).extract q (tl s p).size = tl s (p + q) := by
  unfold tl
  rw [ByteArray.extract_extract, ← tl, tl_size]
  by_cases h : p ≤ s.size
  · rw [show min (p + (s.size - p)) s.size = s.size by omega]
  · apply ByteArray.ext
    rw [ByteArray.data_extract, ByteArray.data_extract]
    apply Array.ext'
    simp only [Array.toList_extract]
    rw [show List.extract s.data.toList (p + q) (min (p + (s.size - p)) s.size) = [] from ?_, show List.extract s.data.toList (p + q) s.size = [] from ?_]
    · simp [List.extract]; right; show s.size ≤ _; omega
    · simp [List.extract]; right; show s.size ≤ _; omega
/-- The number of an entry at p: what is wrong with it, how long it is, what it is. -/
def eE (s : ByteArray) (p : Nat) : Int := getE (bt (tl s (p + 3))) (tl s (p + 3)).size
def eK (s : ByteArray) (p : Nat) : Nat := (getN (bt (tl s (p + 3))) (tl s (p + 3)).size).toNat
def eN (s : ByteArray) (p : Nat) : Nat := (getV (bt (tl s (p + 3))) (tl s (p + 3)).size).toNat
structure EntOk (s : ByteArray) (p : Nat) : Prop where
  four : p + 4 ≤ s.size
  num : eE s p = 0
  fits : p + 3 + eK s p + eN s p ≤ s.size
def ent (s : ByteArray) (p : Nat) : BlobD := ⟨bt s p, bt s (p + 1), bt s (p + 2), s.extract (p + 3 + eK s p) (p + 3 + eK s p + eN s p)⟩
def nxt (s : ByteArray) (p : Nat) : Nat := p + 3 + eK s p + eN s p
theorem ent_num {s : ByteArray} {p : Nat} (h4 : p + 4 ≤ s.size) (h : eE s p = 0) :
    getN (bt (tl s (p + 3))) (tl s (p + 3)).size = (eK s p : Int) ∧ getV (bt (tl s (p + 3))) (tl s (p + 3)).size = (eN s p : Int) ∧ 1 ≤ eK s p ∧ eK s p ≤ 10 ∧ p + 3 + eK s p ≤ s.size ∧ putL (eN s p) = seg s (p + 3) (eK s p) := by
  obtain ⟨h1, h2, h3, h4', h5⟩ := get_back (bt (tl s (p + 3))) (tl s (p + 3)).size (fun j => bt_nonneg _ j) (fun j => bt_le _ j) h
  have hz := tl_size s (p + 3)
  have a1 : getN (bt (tl s (p + 3))) (tl s (p + 3)).size = (eK s p : Int) := by unfold eK; omega
  have a2 : getV (bt (tl s (p + 3))) (tl s (p + 3)).size = (eN s p : Int) := by unfold eN; omega
  have a3 : eK s p ≤ (tl s (p + 3)).size := h2
  refine ⟨a1, a2, by omega, by omega, by omega, ?_⟩
  rw [← a2, h1]
  refine seg_map s (p + 3) _ _ fun i hi => ?_
  have hi' : i < eK s p := hi
  exact bt_extract s (p + 3) s.size i (by omega) (Nat.le_refl _)
theorem ent_one {s : ByteArray} {p : Nat} (h : EntOk s p) : oneL (bt s p) (bt s (p + 1)) (bt s (p + 2)) (ent s p).Text = seg s p (nxt s p - p) ∧ (ent s p).Text.size = eN s p := by
  have h4 := h.four
  have hf := h.fits
  obtain ⟨_, _, a3, a4, a5, a6⟩ := ent_num h4 h.num
  have hz : (ent s p).Text.size = eN s p := by
    show (s.extract _ _).size = _
    rw [extract_size s _ _ hf]; omega
  refine ⟨?_, hz⟩
  unfold oneL
  have hc := seg_cut s (p + 3 + eK s p) (p + 3 + eK s p + eN s p) (by omega) hf
  rw [show (s.extract (p + 3 + eK s p) (p + 3 + eK s p + eN s p)) = (ent s p).Text from rfl] at hc
  rw [hc, hz, a6]
  rw [show nxt s p - p = 3 + (eK s p + eN s p) by unfold nxt; omega, seg_add s p 3, seg_add s (p + 3), show p + 3 + eK s p + eN s p - (p + 3 + eK s p) = eN s p by omega]
  rfl
/-- Where entry j begins; the first j entries. -/
def bpos (s : ByteArray) : Nat → Nat
  | 0 => 2
  | j + 1 => nxt s (bpos s j)
def bents (s : ByteArray) (j : Nat) : List BlobD := (List.range j).map fun i => ent s (bpos s i)
theorem bents_succ (s : ByteArray) (j : Nat) : bents s (j + 1) = bents s j ++ [ent s (bpos s j)] := by simp [bents, List.range_succ]
theorem bents_length (s : ByteArray) (j : Nat) : (bents s j).length = j := by simp [bents]
theorem bpos_lt (s : ByteArray) (j : Nat) : bpos s j + 3 ≤ bpos s (j + 1) := by simp only [bpos, nxt]; omega
theorem bpos_mono (s : ByteArray) {i j : Nat} (h : i < j) : bpos s i + 3 ≤ bpos s j := by
  induction h with
  | refl => exact bpos_lt s i
  | step _ ih => rename_i m _; have h1 := bpos_lt s m; rw [Nat.succ_eq_add_one]; omega
theorem bpos_ge (s : ByteArray) (j : Nat) : 2 + 3 * j ≤ bpos s j := by
  induction j with
  | zero => simp [bpos]
  | succ j ih => have := bpos_lt s j; omega
theorem bents_body (s : ByteArray) : ∀ j, (∀ i, i < j → EntOk s (bpos s i)) → bodyL (bents s j) = seg s 2 (bpos s j - 2)
  | 0, _ => rfl
  | j + 1, h => by
    have ih := bents_body s j (fun i hi => h i (by omega))
    have h1 := (ent_one (h j (by omega))).1
    have hg := bpos_ge s j
    have hl := bpos_lt s j
    rw [bents_succ, bodyL_append, ih]
    have e : bodyL [ent s (bpos s j)] = seg s (bpos s j) (nxt s (bpos s j) - bpos s j) := by
      rw [← h1]; simp [bodyL, ent]
    rw [e]
    have e2 := seg_add s 2 (bpos s j - 2) (bpos s (j + 1) - bpos s j)
    rw [show bpos s j - 2 + (bpos s (j + 1) - bpos s j) = bpos s (j + 1) - 2 by omega, show 2 + (bpos s j - 2) = bpos s j by omega] at e2
    exact e2.symm
noncomputable def entE (s : ByteArray) (p : Nat) : Int := blbE (bt s p) (bt s (p + 1)) (bt s (p + 2)) (s.extract (p + 3 + eK s p) (p + 3 + eK s p + eN s p))
/-- When the bytes are those of blobs. -/
structure BrOk (s : ByteArray) : Prop where
  lo : 2 ≤ s.size
  hi : s.size ≤ 1000
  last : bt s 0 ≤ 1
  many : bt s 1 ≤ 40
  all : ∀ j, j < (bt s 1).toNat → EntOk s (bpos s j) ∧ entE s (bpos s j) = 0
  end_ : bpos s (bt s 1).toNat = s.size
open Classical in
noncomputable def brE (s : ByteArray) : Int := if BrOk s then 0 else 4
open Classical in
noncomputable def brL (s : ByteArray) : List BlobD := if BrOk s then bents s (bt s 1).toNat else []
open Classical in
noncomputable def brB (s : ByteArray) : Bool := if BrOk s then bt s 0 == 1 else false
theorem br_bad {s : ByteArray} (h : ¬ BrOk s) : brE s = 4 ∧ brL s = [] ∧ brB s = false := by
  unfold brE brL brB; simp only [if_neg h, and_self]
theorem br_ok {s : ByteArray} (h : BrOk s) : brE s = 0 ∧ brL s = bents s (bt s 1).toNat ∧ brB s = (bt s 0 == 1) := by
  unfold brE brL brB; simp only [if_pos h, and_self]
theorem chkL_all {l : List BlobD} : chkL l = 0 ↔ ∀ b ∈ l, blbE b.Kind b.Ino b.Nth b.Text = 0 := by
  induction l with
  | nil => simp [chkL]
  | cons x r ih =>
    simp only [chkL]
    by_cases h : blbE x.Kind x.Ino x.Nth x.Text = 0
    · rw [if_neg (by simp [h]), ih]; simp [h]
    · rw [if_pos h]; simp [h]
theorem bents_chk (s : ByteArray) (j : Nat) : chkL (bents s j) = 0 ↔ ∀ i, i < j → entE s (bpos s i) = 0 := by
  rw [chkL_all]
  constructor
  · intro h i hi
    exact h (ent s (bpos s i)) (List.mem_map.2 ⟨i, by simpa using hi, rfl⟩)
  · intro h b hb
    obtain ⟨i, hi, rfl⟩ := List.mem_map.1 hb
    exact h i (by simpa using hi)
theorem bpos_inj {s : ByteArray} {i j : Nat} (h : bpos s i = bpos s j) : i = j := by
  rcases Nat.lt_trichotomy i j with h1 | h1 | h1
  · have := bpos_mono s h1; omega
  · exact h1
  · have := bpos_mono s h1; omega
/-- The reference's test, at the end: its blobs written again are what was read. -/
theorem br_iff {s : ByteArray} {j : Nat} (lo : 2 ≤ s.size) (hi : s.size ≤ 1000) (hall : ∀ i, i < j → EntOk s (bpos s i)) (he : bpos s j = s.size) (x : Int) (hx : x = if bt s 0 = 1 then 1 else 0) :
    BrOk s ↔ blsE (bents s j) = 0 ∧ strOfNums (blsS (bents s j) x) = s := by
  have hbody := bents_body s j hall
  have hlen := bents_length s j
  have b0 := bt_nonneg s 0
  have b1 := bt_nonneg s 1
  have hsall : btL s s.size = bt s 0 :: bt s 1 :: seg s 2 (s.size - 2) := by
    rw [← seg_all, show s.size = 2 + (s.size - 2) by omega, seg_add s 0 2]
    simp [seg, List.range_succ]
  rw [he] at hbody
  have hbl : (bodyL (bents s j)).length ≤ 998 := by rw [hbody, seg_length]; omega
  constructor
  · rintro ⟨_, _, hl, hm, ha, hend⟩
    have hj : (bt s 1).toNat = j := bpos_inj (hend.trans he.symm)
    have hc : chkL (bents s j) = 0 := (bents_chk s j).2 fun i hi => (ha i (by omega)).2
    obtain ⟨e1, e2⟩ := bls_ok x (by rw [hlen]; omega) hc (by omega)
    refine ⟨e1, ?_⟩
    rw [e2, hlen, hbody]
    have : (x :: (j : Int) :: seg s 2 (s.size - 2)) = btL s s.size := by
      rw [hsall, hx]
      congr 1
      · split <;> omega
      · congr 1; omega
    rw [this]
    exact strOf_btL s
  · rintro ⟨e1, e2⟩
    have hn : ¬ 40 < (bents s j).length := fun h => by have := (bls_many x h).1; omega
    have hc : chkL (bents s j) = 0 := by
      by_cases hc : chkL (bents s j) = 0
      · exact hc
      · have := (bls_chk x hn hc rfl).1; omega
    rw [(bls_ok x hn hc (by omega)).2, hlen, hbody] at e2
    rw [hlen] at hn
    have g0 : bt s 0 = x := by
      rw [← e2]
      have : (if bt s 0 = 1 then (1 : Int) else 0) = 0 ∨ (if bt s 0 = 1 then (1 : Int) else 0) = 1 := by split <;> simp
      exact bt_strOf _ 0 x rfl (by omega) (by omega)
    have g1 : bt s 1 = j := by
      rw [← e2]
      exact bt_strOf _ 1 _ rfl (by omega) (by omega)
    have hj : (bt s 1).toNat = j := by omega
    have hx1 : x ≤ 1 := by rw [hx]; split <;> omega
    exact ⟨lo, hi, by omega, by omega, fun i hi => ⟨hall i (by omega), (bents_chk s j).1 hc i (by omega)⟩, by rw [hj]; exact he⟩
/-- What holds of the first j entries, at the head of a round. -/
structure BrI (s : ByteArray) (j p : Nat) : Prop where
  pos : p = bpos s j
  all : ∀ i, i < j → EntOk s (bpos s i) ∧ entE s (bpos s i) = 0
theorem BrI.start (s : ByteArray) : BrI s 0 2 := ⟨rfl, fun i h => by omega⟩
theorem BrI.step {s : ByteArray} {j p : Nat} (h : BrI s j p) (h1 : EntOk s p) (h2 : entE s p = 0) : BrI s (j + 1) (p + 3 + eK s p + eN s p) := by
  obtain ⟨rfl, ha⟩ := h
  refine ⟨rfl, fun i hi => ?_⟩
  by_cases e : i = j
  · subst e; exact ⟨h1, h2⟩
  · exact ha i (by omega)
theorem BrI.not {s : ByteArray} {j p : Nat} (h : BrI s j p) (hj : (j : Int) < bt s 1) (hb : ¬ (EntOk s p ∧ entE s p = 0)) : ¬ BrOk s := fun k => by
  have := k.all j (by omega)
  rw [← h.pos] at this
  exact hb this
theorem BrI.end_ {s : ByteArray} {j p : Nat} (h : BrI s j p) (hj : bt s 1 = (j : Int)) (hb : p ≠ s.size) : ¬ BrOk s := fun k => by
  have := k.end_
  rw [show (bt s 1).toNat = j by omega, ← h.pos] at this
  exact hb this
theorem BrI.ok {s : ByteArray} {j p : Nat} (h : BrI s j p) (hj : bt s 1 = (j : Int)) (hb : p = s.size) (h0 : 2 ≤ s.size) (h1 : s.size ≤ 1000) (h2 : bt s 0 ≤ 1) (h3 : bt s 1 ≤ 40) : BrOk s := by
  have e : (bt s 1).toNat = j := by omega
  exact ⟨h0, h1, h2, h3, by rw [e]; exact h.all, by rw [e, ← h.pos]; exact hb⟩
theorem BrI.ents {s : ByteArray} {j p : Nat} (h : BrI s j p) : (bents s (j + 1)).flatMap BlobD.cells = (bents s j).flatMap BlobD.cells ++ [.int .i64 (bt s p), .int .i64 (bt s (p + 1)), .int .i64 (bt s (p + 2)), .string (s.extract (p + 3 + eK s p) (p + 3 + eK s p + eN s p))] := by
  rw [bents_succ, List.flatMap_append, ← h.pos]; rfl
theorem e_four {s : ByteArray} {p : Nat} (h : eE s p = 0) : p + 4 ≤ s.size := by
  obtain ⟨_, h2, h3, _, _⟩ := get_back (bt (tl s (p + 3))) (tl s (p + 3)).size (fun j => bt_nonneg _ j) (fun j => bt_le _ j) h
  have hz := tl_size s (p + 3)
  omega
/-- The same for the reference, which asks at the end whether each is right. -/
structure BrJ (s : ByteArray) (j p : Nat) : Prop where
  pos : p = bpos s j
  all : ∀ i, i < j → EntOk s (bpos s i)
theorem BrJ.start (s : ByteArray) : BrJ s 0 2 := ⟨rfl, fun i h => by omega⟩
theorem BrJ.step {s : ByteArray} {j p : Nat} (h : BrJ s j p) (h1 : EntOk s p) : BrJ s (j + 1) (p + 3 + eK s p + eN s p) := by
  obtain ⟨rfl, ha⟩ := h
  refine ⟨rfl, fun i hi => ?_⟩
  by_cases e : i = j
  · subst e; exact h1
  · exact ha i (by omega)
theorem BrJ.lt {s : ByteArray} {j p : Nat} (h : BrJ s j p) : 2 + 3 * j ≤ p := by rw [h.pos]; exact bpos_ge s j
theorem BrJ.not {s : ByteArray} {j p : Nat} (h : BrJ s j p) (hp : p < s.size) (hb : ¬ (EntOk s p ∧ entE s p = 0)) : ¬ BrOk s := fun k => by
  have he := k.end_
  rw [h.pos] at hp hb
  have hj : j < (bt s 1).toNat := by
    rcases Nat.lt_trichotomy j (bt s 1).toNat with h1 | h1 | h1
    · exact h1
    · rw [← h1] at he; omega
    · have := bpos_mono s h1; omega
  exact hb (k.all j hj)
theorem BrJ.ents {s : ByteArray} {j p : Nat} (h : BrJ s j p) : (bents s (j + 1)).flatMap BlobD.cells = (bents s j).flatMap BlobD.cells ++ [.int .i64 (bt s p), .int .i64 (bt s (p + 1)), .int .i64 (bt s (p + 2)), .string (s.extract (p + 3 + eK s p) (p + 3 + eK s p + eN s p))] := by
  rw [bents_succ, List.flatMap_append, ← h.pos]; rfl
theorem BrJ.iff {s : ByteArray} {j p : Nat} (h : BrJ s j p) (lo : 2 ≤ s.size) (hi : s.size ≤ 1000) (he : p = s.size) (x : Int) (hx : x = if bt s 0 = 1 then 1 else 0) :
    BrOk s ↔ blsE (bents s j) = 0 ∧ strOfNums (blsS (bents s j) x) = s := br_iff lo hi h.all (by rw [← h.pos]; exact he) x hx
theorem BrJ.many {s : ByteArray} {j p : Nat} (h : BrJ s j p) (he : p = s.size) (k : BrOk s) : (bt s 1).toNat = j := bpos_inj (k.end_.trans (he.symm.trans h.pos))
theorem entE_large {s : ByteArray} {p : Nat} (h : EntOk s p) (hn : 600 < eN s p) : ¬ (EntOk s p ∧ entE s p = 0) := fun k => by
  have h1 := (ent_one h).2
  have h2 := k.2
  unfold entE at h2
  have := blbE_zero h2
  have h3 : (s.extract (p + 3 + eK s p) (p + 3 + eK s p + eN s p)).size = eN s p := h1
  omega
end Go.Proofs.Ytjmgocfoimhmjaa
