/- Find, Add and Cut of a directory: plain. -/
import Derived.Test.YtnnmiolgffcgkaaDirP
import Derived.Lib.Bytealg
/- Directories turned: plain. -/
namespace Go.Proofs.Ytnnmiolgffcgkaa
open Go.RowKit Go.PlainAid

theorem u8_tri (a b : UInt8) : a < b ∨ a = b ∨ b < a := by
  rcases Nat.lt_trichotomy a.toNat b.toNat with h | h | h
  · exact .inl (UInt8.lt_iff_toNat_lt.2 h)
  · exact .inr (.inl (UInt8.toNat_inj.1 h))
  · exact .inr (.inr (UInt8.lt_iff_toNat_lt.2 h))
theorem u8_not {a b : UInt8} (h : a < b) : ¬ b < a := fun k => by have := UInt8.lt_iff_toNat_lt.1 h; have := UInt8.lt_iff_toNat_lt.1 k; omega
theorem u8_irr (a : UInt8) : ¬ a < a := fun k => by have := UInt8.lt_iff_toNat_lt.1 k; omega
theorem cmp_cases : ∀ a b : List UInt8, (Lib.compareBytes a b = -1 ∧ Op.bytesLess a b = true ∧ a ≠ b) ∨ (Lib.compareBytes a b = 0 ∧ Op.bytesLess a b = false ∧ a = b) ∨ (Lib.compareBytes a b = 1 ∧ Op.bytesLess a b = false ∧ a ≠ b)
  | [], [] => .inr (.inl ⟨rfl, rfl, rfl⟩)
  | [], _ :: _ => .inl ⟨rfl, rfl, by simp⟩
  | _ :: _, [] => .inr (.inr ⟨rfl, rfl, by simp⟩)
  | a :: x, b :: y => by
    simp only [Lib.compareBytes, Op.bytesLess]
    rcases u8_tri a b with h | h | h
    · left
      have hne : a ≠ b := fun e => by subst e; exact u8_irr a h
      rw [if_pos h]
      exact ⟨rfl, by simp [h], by simp [hne]⟩
    · subst h
      rw [if_neg (u8_irr a), if_neg (u8_irr a)]
      rcases cmp_cases x y with ⟨h1, h2, h3⟩ | ⟨h1, h2, h3⟩ | ⟨h1, h2, h3⟩
      · exact .inl ⟨h1, by simp [h2], by simp [h3]⟩
      · exact .inr (.inl ⟨h1, by simp [h2], by simp [h3]⟩)
      · exact .inr (.inr ⟨h1, by simp [h2], by simp [h3]⟩)
    · right; right
      have hne : a ≠ b := fun e => by subst e; exact u8_irr a h
      rw [if_neg (u8_not h), if_pos h]
      exact ⟨rfl, by simp [u8_not h, hne], by simp [hne]⟩
theorem bl_trans : ∀ {a b c : List UInt8}, Op.bytesLess a b = true → Op.bytesLess b c = true → Op.bytesLess a c = true
  | _, _, [], _, h => by cases ‹List UInt8› <;> simp [Op.bytesLess] at h
  | [], _, _ :: _, _, _ => rfl
  | _ :: _, [], _ :: _, h, _ => by simp [Op.bytesLess] at h
  | a :: x, b :: y, c :: z, h1, h2 => by
    simp only [Op.bytesLess, Bool.or_eq_true, Bool.and_eq_true, decide_eq_true_eq, beq_iff_eq] at h1 h2 ⊢
    rcases h1 with h1 | ⟨rfl, h1⟩ <;> rcases h2 with h2 | ⟨rfl, h2⟩
    · exact .inl (UInt8.lt_iff_toNat_lt.2 (Nat.lt_trans (UInt8.lt_iff_toNat_lt.1 h1) (UInt8.lt_iff_toNat_lt.1 h2)))
    · exact .inl h1
    · exact .inl h2
    · exact .inr ⟨rfl, bl_trans h1 h2⟩
theorem lt_trans' {a b c : ByteArray} (h1 : ltS a b = true) (h2 : ltS b c = true) : ltS a c = true := bl_trans h1 h2
theorem lt_irr (a : ByteArray) : ltS a a = false := by
  have := bl_total a.toList a.toList
  simp at this
  exact this
/-- The model's comparison. -/
theorem cmp_lt (a b : ByteArray) : (decide (Lib.compareBytes a.data.toList b.data.toList < 0)) = ltS a b := by
  unfold ltS
  rw [Go.Lib.toList_data, Go.Lib.toList_data]
  rcases cmp_cases a.data.toList b.data.toList with ⟨h1, h2, _⟩ | ⟨h1, h2, _⟩ | ⟨h1, h2, _⟩ <;> rw [h1, h2] <;> rfl
theorem cmp_zero (a b : ByteArray) : Lib.compareBytes a.data.toList b.data.toList = 0 ↔ a = b := by
  rcases cmp_cases a.data.toList b.data.toList with ⟨h1, _, h3⟩ | ⟨h1, _, h3⟩ | ⟨h1, _, h3⟩
  · rw [h1]; exact ⟨fun h => by omega, fun h => absurd (by rw [h]) h3⟩
  · rw [h1]; exact ⟨fun _ => ByteArray.ext (Array.ext' h3), fun _ => rfl⟩
  · rw [h1]; exact ⟨fun h => by omega, fun h => absurd (by rw [h]) h3⟩
/-- Names one above the other. -/
def Srt (l : List EntD) : Prop := ∀ (i j : Nat) (x y : EntD), i < j → l[i]? = some x → l[j]? = some y → ltS x.Name y.Name = true
theorem dirGo_srt : ∀ {l : List EntD} {last : ByteArray}, dirGo last l = 0 → Srt l ∧ ∀ x ∈ l, ltS last x.Name = true
  | [], _, _ => ⟨fun i j x y _ h => by simp at h, fun x h => by cases h⟩
  | y :: r, last, h => by
    unfold dirGo at h
    by_cases a : entE y = 0
    · rw [if_neg (by rw [a]; decide)] at h
      by_cases b : ltS last y.Name = true
      · rw [if_pos b] at h
        obtain ⟨h1, h2⟩ := dirGo_srt h
        refine ⟨fun i j x z hij hi hj => ?_, fun x hx => ?_⟩
        · match i, j with
          | 0, 0 => omega
          | 0, j + 1 =>
            simp at hi hj
            subst hi
            exact h2 z (List.mem_of_getElem? hj)
          | i + 1, 0 => omega
          | i + 1, j + 1 => exact h1 i j x z (by omega) (by simpa using hi) (by simpa using hj)
        · rcases List.mem_cons.1 hx with rfl | hx
          · exact b
          · exact lt_trans' b (h2 x hx)
      · rw [if_neg b] at h; cases h
    · rw [if_pos a] at h; exact absurd h a
theorem dir_srt {l : List EntD} (h : dirE l = 0) : Srt l := by
  unfold dirE at h
  by_cases a : 24 < l.length
  · rw [if_pos a] at h; cases h
  · rw [if_neg a] at h; exact (dirGo_srt h).1
/-- Where a name stands, or would. -/
structure Pos (l : List EntD) (name : ByteArray) (i : Nat) : Prop where
  le : i ≤ l.length
  lo : ∀ k x, l[k]? = some x → k < i → ltS x.Name name = true
  hi : ∀ k x, l[k]? = some x → i ≤ k → ltS x.Name name = false
theorem Pos.uniq {l : List EntD} {name : ByteArray} {i j : Nat} (h : Pos l name i) (k : Pos l name j) : i = j := by
  rcases Nat.lt_trichotomy i j with hij | hij | hij
  · have e := List.getElem?_eq_getElem (show i < l.length by have := k.le; omega)
    have := h.hi i _ e (Nat.le_refl _); rw [k.lo i _ e hij] at this; cases this
  · exact hij
  · have e := List.getElem?_eq_getElem (show j < l.length by have := h.le; omega)
    have := k.hi j _ e (Nat.le_refl _); rw [h.lo j _ e hij] at this; cases this
/-- The entry of that name. -/
theorem Pos.found {l : List EntD} {name : ByteArray} {i : Nat} (hs : Srt l) (h : Pos l name i) {k : Nat} {x : EntD} (hk : l[k]? = some x) (hx : x.Name = name) : k = i := by
  rcases Nat.lt_trichotomy k i with hki | hki | hki
  · have := h.lo k x hk hki; rw [hx, lt_irr] at this; cases this
  · exact hki
  · have hlk := (List.getElem?_eq_some_iff.1 hk).1
    have e := List.getElem?_eq_getElem (show i < l.length by omega)
    have h1 := hs i k _ x hki e hk
    rw [hx] at h1
    have h2 := h.hi i _ e (Nat.le_refl _)
    rw [h1] at h2; cases h2
/-- The search's bounds. -/
structure Bin (l : List EntD) (name : ByteArray) (i j : Nat) : Prop where
  ij : i ≤ j
  jn : j ≤ l.length
  lo : ∀ k x, l[k]? = some x → k < i → ltS x.Name name = true
  hi : ∀ k x, l[k]? = some x → j ≤ k → ltS x.Name name = false
theorem Bin.start (l : List EntD) (name : ByteArray) : Bin l name 0 l.length := ⟨Nat.zero_le _, Nat.le_refl _, fun k x _ h => by omega, fun k x hk h => by have := (List.getElem?_eq_some_iff.1 hk).1; omega⟩
theorem Bin.up {l : List EntD} {name : ByteArray} {i j h : Nat} {x : EntD} (b : Bin l name i j) (hs : Srt l) (hx : l[h]? = some x) (h1 : i ≤ h) (h2 : h < j) (hl : ltS x.Name name = true) : Bin l name (h + 1) j :=
  ⟨by omega, b.jn, fun k y hk hlt => by
    rcases Nat.lt_or_ge k h with hkh | hkh
    · exact lt_trans' (hs k h y x hkh hk hx) hl
    · have : k = h := by omega
      subst this
      rw [hk] at hx; injection hx with hx; rw [hx]; exact hl, b.hi⟩
theorem Bin.down {l : List EntD} {name : ByteArray} {i j h : Nat} {x : EntD} (b : Bin l name i j) (hs : Srt l) (hx : l[h]? = some x) (h1 : i ≤ h) (h2 : h < j) (hl : ltS x.Name name = false) : Bin l name i h :=
  ⟨h1, by have := b.jn; omega, b.lo, fun k y hk hle => by
    rcases Nat.lt_or_ge h k with hkh | hkh
    · by_cases e : ltS y.Name name = true
      · rw [lt_trans' (hs h k x y hkh hx hk) e] at hl; cases hl
      · simpa using e
    · have : k = h := by omega
      subst this
      rw [hk] at hx; injection hx with hx; rw [hx]; exact hl⟩
theorem Bin.pos {l : List EntD} {name : ByteArray} {i : Nat} (b : Bin l name i i) : Pos l name i := ⟨b.jn, b.lo, b.hi⟩
end Go.Proofs.Ytnnmiolgffcgkaa

namespace Go.Proofs.Ytnnmiolgffcgkaa
open Go.RowKit Go.PlainAid

theorem pos_ex : ∀ {l : List EntD} (name : ByteArray), Srt l → ∃ i, Pos l name i
  | [], _, _ => ⟨0, Nat.le_refl _, fun k x h => by simp at h, fun k x h => by simp at h⟩
  | y :: r, name, hs => by
    have hr : Srt r := fun i j a b hij hi hj => hs (i + 1) (j + 1) a b (by omega) (by simpa using hi) (by simpa using hj)
    obtain ⟨i, h⟩ := pos_ex name hr
    by_cases hy : ltS y.Name name = true
    · refine ⟨i + 1, by have := h.le; simp; omega, fun k x hk hlt => ?_, fun k x hk hge => ?_⟩
      · match k with
        | 0 => simp at hk; rw [← hk]; exact hy
        | k + 1 => exact h.lo k x (by simpa using hk) (by omega)
      · match k with
        | 0 => omega
        | k + 1 => exact h.hi k x (by simpa using hk) (by omega)
    · refine ⟨0, Nat.zero_le _, fun k x hk hlt => by omega, fun k x hk _ => ?_⟩
      match k with
      | 0 => simp at hk; rw [← hk]; simpa using hy
      | k + 1 =>
        by_cases e : ltS x.Name name = true
        · exact absurd (lt_trans' (hs 0 (k + 1) y x (by omega) (by simp) hk) e) hy
        · simpa using e
open Classical in
noncomputable def fndR (l : List EntD) (name : ByteArray) : Int × Int :=
  if dirE l ≠ 0 then (0, dirE l) else if nameE name ≠ 0 then (0, nameE name) else if h : ∃ x, x ∈ l ∧ x.Name = name then ((Classical.choose h).Ino, 0) else (0, 12)
theorem fnd_dir {l : List EntD} {name : ByteArray} (h : dirE l ≠ 0) : fndR l name = (0, dirE l) := by unfold fndR; rw [if_pos h]
theorem fnd_name {l : List EntD} {name : ByteArray} (h : dirE l = 0) (h2 : nameE name ≠ 0) : fndR l name = (0, nameE name) := by unfold fndR; rw [if_neg (fun k => k h), if_pos h2]
theorem fnd_none {l : List EntD} {name : ByteArray} (h : dirE l = 0) (h2 : nameE name = 0) (h3 : ¬ ∃ x, x ∈ l ∧ x.Name = name) : fndR l name = (0, 12) := by unfold fndR; rw [if_neg (fun k => k h), if_neg (fun k => k h2), dif_neg h3]
theorem srt_one {l : List EntD} (hs : Srt l) {x y : EntD} (hx : x ∈ l) (hy : y ∈ l) (h : x.Name = y.Name) : x = y := by
  obtain ⟨i, hi⟩ := List.mem_iff_getElem?.1 hx
  obtain ⟨j, hj⟩ := List.mem_iff_getElem?.1 hy
  rcases Nat.lt_trichotomy i j with hij | hij | hij
  · have := hs i j x y hij hi hj; rw [h, lt_irr] at this; cases this
  · subst hij; rw [hi] at hj; injection hj
  · have := hs j i y x hij hj hi; rw [h, lt_irr] at this; cases this
theorem fnd_some {l : List EntD} {name : ByteArray} {x : EntD} (h : dirE l = 0) (h2 : nameE name = 0) (hx : x ∈ l) (hn : x.Name = name) : fndR l name = (x.Ino, 0) := by
  have h3 : ∃ x, x ∈ l ∧ x.Name = name := ⟨x, hx, hn⟩
  unfold fndR
  rw [if_neg (fun k => k h), if_neg (fun k => k h2), dif_pos h3]
  have hc := Classical.choose_spec h3
  rw [srt_one (dir_srt h) hc.1 hx (by rw [hc.2, hn])]
noncomputable def delR (l : List EntD) (name : ByteArray) : List EntD × Int :=
  if (fndR l name).2 ≠ 0 then ([], (fndR l name).2) else (l.filter (fun x => decide (x.Name ≠ name)), 0)
theorem del_bad {l : List EntD} {name : ByteArray} {v e : Int} (h : fndR l name = (v, e)) (he : e ≠ 0) : delR l name = ([], e) := by unfold delR; rw [h]; rw [if_pos he]
theorem del_ok {l : List EntD} {name : ByteArray} {v : Int} (h : fndR l name = (v, 0)) : delR l name = (l.filter (fun x => decide (x.Name ≠ name)), 0) := by unfold delR; rw [h]; simp
theorem filter_all {l : List EntD} {name : ByteArray} (h : ∀ x ∈ l, x.Name ≠ name) : l.filter (fun x => decide (x.Name ≠ name)) = l := List.filter_eq_self.2 (fun x hx => decide_eq_true (h x hx))
/-- Cut at the place where the name stands. -/
theorem del_at {l : List EntD} {name : ByteArray} {i : Nat} {x : EntD} (hs : Srt l) (hi : l[i]? = some x) (hx : x.Name = name) : l.filter (fun x => decide (x.Name ≠ name)) = l.take i ++ l.drop (i + 1) := by
  have hl := (List.getElem?_eq_some_iff.1 hi).1
  have e : l = l.take i ++ x :: l.drop (i + 1) := by
    conv => lhs; rw [← List.take_append_drop i l, List.drop_eq_getElem_cons hl]
    rw [(List.getElem?_eq_some_iff.1 hi).2]
  have h1 : ∀ y ∈ l.take i, y.Name ≠ name := fun y hy e => by
    obtain ⟨k, hk⟩ := List.mem_iff_getElem?.1 hy
    have hkl := (List.getElem?_eq_some_iff.1 hk).1
    rw [List.length_take] at hkl
    rw [List.getElem?_take, if_pos (by omega)] at hk
    have := hs k i y x (by omega) hk hi
    rw [e, hx, lt_irr] at this; cases this
  have h2 : ∀ y ∈ l.drop (i + 1), y.Name ≠ name := fun y hy e => by
    obtain ⟨k, hk⟩ := List.mem_iff_getElem?.1 hy
    rw [List.getElem?_drop] at hk
    have := hs i (i + 1 + k) x y (by omega) hi hk
    rw [e, hx, lt_irr] at this; cases this
  conv => lhs; rw [e]
  rw [List.filter_append, List.filter_cons, filter_all h1, if_neg (by simp [hx]), filter_all h2]
open Classical in
noncomputable def addR (l : List EntD) (x : EntD) : List EntD × Int :=
  if dirE l ≠ 0 then ([], dirE l) else if entE x ≠ 0 then ([], entE x) else if ∃ y, y ∈ l ∧ y.Name = x.Name then ([], 13) else if l.length = 24 then ([], 10) else
    (if h : ∃ i, Pos l x.Name i then l.take (Classical.choose h) ++ x :: l.drop (Classical.choose h) else [], 0)
theorem add_dir {l : List EntD} {x : EntD} (h : dirE l ≠ 0) : addR l x = ([], dirE l) := by unfold addR; rw [if_pos h]
theorem add_ent {l : List EntD} {x : EntD} (h : dirE l = 0) (h2 : entE x ≠ 0) : addR l x = ([], entE x) := by unfold addR; rw [if_neg (fun k => k h), if_pos h2]
theorem add_there {l : List EntD} {x : EntD} (h : dirE l = 0) (h2 : entE x = 0) (h3 : ∃ y, y ∈ l ∧ y.Name = x.Name) : addR l x = ([], 13) := by unfold addR; rw [if_neg (fun k => k h), if_neg (fun k => k h2), if_pos h3]
theorem add_many {l : List EntD} {x : EntD} (h : dirE l = 0) (h2 : entE x = 0) (h3 : ¬ ∃ y, y ∈ l ∧ y.Name = x.Name) (h4 : l.length = 24) : addR l x = ([], 10) := by unfold addR; rw [if_neg (fun k => k h), if_neg (fun k => k h2), if_neg h3, if_pos h4]
theorem add_ok {l : List EntD} {x : EntD} {i : Nat} (h : dirE l = 0) (h2 : entE x = 0) (h3 : ¬ ∃ y, y ∈ l ∧ y.Name = x.Name) (h4 : l.length ≠ 24) (hp : Pos l x.Name i) : addR l x = (l.take i ++ x :: l.drop i, 0) := by
  have hex : ∃ i, Pos l x.Name i := ⟨i, hp⟩
  unfold addR
  rw [if_neg (fun k => k h), if_neg (fun k => k h2), if_neg h3, if_neg h4, dif_pos hex, (Classical.choose_spec hex).uniq hp]
theorem pos_found {l : List EntD} {name : ByteArray} {i : Nat} (hs : Srt l) (hp : Pos l name i) : (∃ x, l[i]? = some x ∧ x.Name = name) ↔ ∃ x, x ∈ l ∧ x.Name = name := by
  constructor
  · rintro ⟨x, h1, h2⟩; exact ⟨x, List.mem_of_getElem? h1, h2⟩
  · rintro ⟨x, h1, h2⟩
    obtain ⟨k, hk⟩ := List.mem_iff_getElem?.1 h1
    have := hp.found hs hk h2
    subst this
    exact ⟨x, hk, h2⟩
end Go.Proofs.Ytnnmiolgffcgkaa
