/- A text written into a file: plain. -/
import Derived.Test.YtfhgglghofhndaaFcuW
namespace Go.Proofs.Ytfhgglghofhndaa
open Go.RowKit Go.PlainAid

/-- A list with another from place off on. -/
def ovl (X : List UInt8) (off : Nat) (t : List UInt8) : List UInt8 := X.take off ++ t ++ X.drop (off + t.length)
theorem ovl_len {X : List UInt8} {off : Nat} {t : List UInt8} (h : off + t.length ≤ X.length) : (ovl X off t).length = X.length := by
  unfold ovl; rw [List.length_append, List.length_append, List.length_take, List.length_drop]; omega
theorem ovl_get {X : List UInt8} {off : Nat} {t : List UInt8} (h : off + t.length ≤ X.length) (j : Nat) : (ovl X off t)[j]? = if j < off then X[j]? else if j < off + t.length then t[j - off]? else X[j]? := by
  unfold ovl
  have h1 : (X.take off).length = off := by rw [List.length_take]; omega
  by_cases a : j < off
  · rw [if_pos a, List.append_assoc, List.getElem?_append_left (by omega), List.getElem?_take, if_pos a]
  · rw [if_neg a]
    by_cases b : j < off + t.length
    · rw [if_pos b, List.getElem?_append_left (by rw [List.length_append]; omega), List.getElem?_append_right (by omega), h1]
    · rw [if_neg b, List.getElem?_append_right (by rw [List.length_append]; omega), List.length_append, h1, List.getElem?_drop]
      congr 1; omega
/-- The i-th cluster of a list of bytes. -/
def seg (X : List UInt8) (z i : Nat) : List UInt8 := (X.drop (512 * i)).take (wid z i)
theorem seg_len {X : List UInt8} {z i : Nat} (hX : X.length = z) : (seg X z i).length = wid z i := by
  unfold seg; rw [List.length_take, List.length_drop, hX]; unfold wid; omega
theorem seg_get {X : List UInt8} {z i j : Nat} : (seg X z i)[j]? = if j < wid z i then X[512 * i + j]? else none := by
  unfold seg; rw [List.getElem?_take]
  split
  · rw [List.getElem?_drop]
  · rfl
/-- One cluster of what is written. -/
theorem seg_ovl {X T : List UInt8} {z a d i k n : Nat} (hX : X.length = z) (hz : a + T.length ≤ z) (hd : d ≤ T.length) (hi : 512 * i + k = a + d) (hk : k < 512) (hn : n = min (T.length - d) (512 - k)) (h0 : k = 0 ∨ d = 0) (hw : k + n ≤ wid z i) :
    seg (ovl X a T) z i = ovl (seg X z i) k ((T.drop d).take n) := by
  have hl : ((T.drop d).take n).length = n := by rw [List.length_take, List.length_drop]; omega
  apply List.ext_getElem?
  intro j
  have hR := ovl_get (X := seg X z i) (off := k) (t := (T.drop d).take n) (by rw [hl, seg_len hX]; exact hw) j
  rw [hl] at hR
  rw [seg_get, hR]
  by_cases hj : j < wid z i
  · have hj512 : j < 512 := by have := wid_le z i; omega
    rw [if_pos hj, ovl_get (by omega)]
    by_cases c1 : j < k
    · rw [if_pos c1, if_pos (by omega), seg_get, if_pos hj]
    · rw [if_neg c1, if_neg (by omega)]
      by_cases c2 : j < k + n
      · rw [if_pos c2, if_pos (by omega), List.getElem?_take, if_pos (by omega), List.getElem?_drop]
        congr 1; omega
      · rw [if_neg c2, if_neg (by omega), seg_get, if_pos hj]
  · rw [if_neg hj, if_neg (by omega), if_neg (by omega), seg_get, if_neg hj]
theorem seg_same {X T : List UInt8} {z a i : Nat} (hz : a + T.length ≤ X.length) (h : a + T.length ≤ 512 * i ∨ 512 * i + 512 ≤ a) : seg (ovl X a T) z i = seg X z i := by
  apply List.ext_getElem?
  intro j
  rw [seg_get, seg_get]
  by_cases hj : j < wid z i
  · have hj512 : j < 512 := by have := wid_le z i; omega
    rw [if_pos hj, if_pos hj, ovl_get hz]
    by_cases c1 : 512 * i + j < a
    · rw [if_pos c1]
    · rw [if_neg c1, if_neg (by omega)]
  · rw [if_neg hj, if_neg hj]
/-- Where there is no byte, there is a byte 0. -/
theorem seg_hole {sz z i : Nat} {ps : List ByteArray} (h : PartsOk sz ps) (hsz : sz ≤ z) (hp : ∀ p, ps[i]? = some p → p.size = 0) : seg (szd (whB sz 0 ps) z) z i = zer (wid z i) := by
  have hW := whole_len h
  have hlen : (szd (whB sz 0 ps) z).length = z := szd_len _ _
  have hT : szd (whB sz 0 ps) z = whB sz 0 ps ++ zer (z - sz) := by unfold szd; rw [List.take_of_length_le (by omega), hW]
  apply List.ext_getElem?
  intro j
  rw [seg_get]
  unfold zer
  rw [List.getElem?_replicate]
  by_cases hj : j < wid z i
  · rw [if_pos hj, if_pos hj, hT]
    by_cases hm : 512 * i + j < sz
    · rw [List.getElem?_append_left (by omega)]
      have hi : i < ps.length := by rw [h.1]; unfold npt; have := wid_le z i; omega
      obtain ⟨p, e⟩ : ∃ p, ps[i]? = some p := ⟨_, List.getElem?_eq_getElem hi⟩
      have hd := whB_drop (sz := sz) i 0 ps (fun j q hq => by rw [Nat.zero_add]; exact h.2 j q hq) (by rw [Nat.zero_add]; exact h.1) (by omega) (.inr (by rw [Nat.zero_add]; have := h.1; omega))
      obtain ⟨_, he⟩ := List.getElem?_eq_some_iff.1 e
      rw [Nat.zero_add, List.drop_eq_getElem_cons hi, he] at hd
      simp only [whB, ptB, if_pos (hp p e)] at hd
      have := congrArg (fun l => l[j]?) hd
      simp only [List.getElem?_drop] at this
      rw [this, List.getElem?_append_left (by rw [zer_len]; unfold wid at *; omega)]
      unfold zer
      rw [List.getElem?_replicate, if_pos (by unfold wid at *; omega)]
    · rw [List.getElem?_append_right (by omega), hW]
      unfold zer
      rw [List.getElem?_replicate, if_pos (by unfold wid at hj; omega)]
  · rw [if_neg hj, if_neg hj]
/-- The bytes of part i ahead of the write. -/
theorem seg_base {sz z i : Nat} {ps : List ByteArray} (h : PartsOk sz ps) (hsz : sz ≤ z) : seg (szd (whB sz 0 ps) z) z i = bl (cutAt ps z i) ++ zer (wid z i - (cutAt ps z i).size) := by
  unfold cutAt
  cases e : ps[i]? with
  | none =>
    rw [seg_hole h hsz (fun p hp => by rw [e] at hp; cases hp)]
    simp [bl_mk, mk_size]
  | some p =>
    simp only
    unfold cutPt
    by_cases hp : p.size = 0
    · rw [if_pos hp, seg_hole h hsz (fun q hq => by rw [e] at hq; injection hq with hq; rw [← hq]; exact hp)]
      simp [bl_mk, mk_size]
    · have := cut_part (size := z) h e hp
      rw [if_neg hp]
      show ((szd (whB sz 0 ps) z).drop (512 * i)).take (wid z i) = _
      rw [this, bl_mk, mk_size, List.length_append, List.length_take, zer_len, bl_len]
      rw [show wid z i - (min (wid z i) p.size + (wid z i - p.size)) = 0 by omega]
      simp [zer]
theorem cut_full {z i : Nat} {ps : List ByteArray} {p : ByteArray} (e : ps[i]? = some p) (hp : p.size ≠ 0) : (cutAt ps z i).size = wid z i := by
  unfold cutAt; rw [e]; simp only [cutPt, if_neg hp]
  rw [mk_size, List.length_append, List.length_take, zer_len, bl_len]; omega
/-- Whether part i is written to. -/
def hitP (a L i : Nat) : Bool := decide (512 * i < a + L ∧ a < 512 * i + 512)
/-- What the code lays. -/
def wrAt (ps : List ByteArray) (O : List UInt8) (z a L i : Nat) : ByteArray := if hitP a L i then mkS (seg O z i) else cutAt ps z i
def wrL (ps : List ByteArray) (O : List UInt8) (z a L : Nat) : List ByteArray := (List.range (npt z)).map (wrAt ps O z a L)
/-- Which parts the document leaves holes. -/
def wrH (ps : List ByteArray) (a L i : Nat) : Bool := cutH ps i && !hitP a L i
theorem wr_same {sz a : Nat} {ps : List ByteArray} {T : List UInt8} {z : Nat} (h : PartsOk sz ps) (hz : z = max sz (a + T.length)) :
    ptdL (wrH ps a T.length) (mkS (ovl (szd (whB sz 0 ps) z) a T)) (npt z) = wrL ps (ovl (szd (whB sz 0 ps) z) a T) z a T.length := by
  have hX : (szd (whB sz 0 ps) z).length = z := szd_len _ _
  have hO : (ovl (szd (whB sz 0 ps) z) a T).length = z := by rw [ovl_len (by rw [hX]; omega), hX]
  unfold ptdL wrL
  apply List.map_congr_left
  intro i _
  unfold ptAt wrAt wrH
  rw [mk_size, hO, bl_mk]
  by_cases hh : hitP a T.length i = true
  · rw [hh]; simp [seg]
  · have hh' : hitP a T.length i = false := by simpa using hh
    have hun : a + T.length ≤ 512 * i ∨ 512 * i + 512 ≤ a := by unfold hitP at hh'; simp at hh'; omega
    rw [hh']
    simp only [Bool.not_false, Bool.and_true, Bool.false_eq_true, if_false]
    have hs := seg_same (z := z) (X := szd (whB sz 0 ps) z) (T := T) (by rw [hX]; omega) hun
    have hb := seg_base (i := i) (z := z) h (by omega)
    unfold cutH
    cases e : ps[i]? with
    | none => simp only [if_true]; unfold cutAt; rw [e]
    | some p =>
      simp only
      by_cases hp : p.size = 0
      · rw [if_pos (by simpa using hp)]; unfold cutAt cutPt; rw [e]; simp only [if_pos hp]
      · rw [if_neg (by simpa using hp)]
        show mkS (seg (ovl (szd (whB sz 0 ps) z) a T) z i) = _
        rw [hs, hb, cut_full e hp, Nat.sub_self]
        simp [zer, mk_bl]
end Go.Proofs.Ytfhgglghofhndaa
