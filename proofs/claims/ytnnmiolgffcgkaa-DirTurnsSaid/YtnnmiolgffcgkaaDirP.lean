/- Names, entries and directories: plain. -/
import Derived.Test.YtnnmiolgffcgkaaBtP
import Derived.Test.YtnnmiolgffcgkaaFileP
import Derived.Lib.IndexAny
namespace Go.Proofs.Ytnnmiolgffcgkaa
open Go.RowKit Go.PlainAid

/-- A name that may be. -/
def NameOk (s : ByteArray) : Prop := 1 ≤ s.size ∧ s.size ≤ 12 ∧ s ≠ ⟨#[46]⟩ ∧ s ≠ ⟨#[46, 46]⟩ ∧ ∀ i, i < s.size → bt s i ≠ 0 ∧ bt s i ≠ 47
open Classical in
noncomputable def nameE (s : ByteArray) : Int := if NameOk s then 0 else 11
theorem name_ok {s : ByteArray} (h : NameOk s) : nameE s = 0 := if_pos h
theorem name_bad {s : ByteArray} (h : ¬ NameOk s) : nameE s = 11 := if_neg h
theorem name_zero {s : ByteArray} (h : nameE s = 0) : NameOk s := by
  unfold nameE at h
  split at h
  · assumption
  · cases h
theorem name_two (s : ByteArray) : nameE s = 0 ∨ nameE s = 11 := by
  unfold nameE; split <;> simp
noncomputable def entE (x : EntD) : Int := if nameE x.Name ≠ 0 then 11 else if x.Ino < 0 ∨ 47 < x.Ino then 1 else 0
theorem ent_name {x : EntD} (h : nameE x.Name ≠ 0) : entE x = 11 := if_pos h
theorem ent_arg {x : EntD} (h : nameE x.Name = 0) (h2 : x.Ino < 0 ∨ 47 < x.Ino) : entE x = 1 := by unfold entE; rw [if_neg (by rw [h]; decide), if_pos h2]
theorem ent_ok {x : EntD} (h : nameE x.Name = 0) (h2 : ¬ (x.Ino < 0 ∨ 47 < x.Ino)) : entE x = 0 := by unfold entE; rw [if_neg (by rw [h]; decide), if_neg h2]
theorem ent_zero {x : EntD} (h : entE x = 0) : nameE x.Name = 0 ∧ 0 ≤ x.Ino ∧ x.Ino ≤ 47 := by
  unfold entE at h
  by_cases a : nameE x.Name = 0
  · rw [if_neg (by rw [a]; decide)] at h
    by_cases b : x.Ino < 0 ∨ 47 < x.Ino
    · rw [if_pos b] at h; cases h
    · exact ⟨a, by omega, by omega⟩
  · rw [if_pos a] at h; cases h
theorem ent_size {x : EntD} (h : entE x = 0) : 1 ≤ x.Name.size ∧ x.Name.size ≤ 12 := by
  have := name_zero (ent_zero h).1
  exact ⟨this.1, this.2.1⟩

/-- a before b, as bytes. -/
def ltS (a b : ByteArray) : Bool := Op.bytesLess a.toList b.toList
theorem bl_total : ∀ a b : List UInt8, (Op.bytesLess a b || a == b) = !Op.bytesLess b a
  | [], [] => rfl
  | [], _ :: _ => rfl
  | _ :: _, [] => rfl
  | a :: x, b :: y => by
    simp only [Op.bytesLess]
    have ih := bl_total x y
    by_cases h1 : a < b
    · have h2 : ¬ b < a := by have := UInt8.lt_iff_toNat_lt.1 h1; intro h; have := UInt8.lt_iff_toNat_lt.1 h; omega
      have h3 : (b == a) = false := beq_eq_false_iff_ne.2 fun e => by rw [e] at h1; exact absurd (UInt8.lt_iff_toNat_lt.1 h1) (by omega)
      simp [h1, h2, h3]
    · by_cases h2 : b < a
      · have h3 : (a == b) = false := beq_eq_false_iff_ne.2 fun e => by rw [e] at h2; exact absurd (UInt8.lt_iff_toNat_lt.1 h2) (by omega)
        have h4 : ¬ a = b := beq_eq_false_iff_ne.1 h3
        simp [h1, h2, h3]
      · have e : a = b := UInt8.toNat_inj.1 (by have h5 : ¬ a.toNat < b.toNat := fun h => h1 (UInt8.lt_iff_toNat_lt.2 h); have h6 : ¬ b.toNat < a.toNat := fun h => h2 (UInt8.lt_iff_toNat_lt.2 h); omega)
        subst e
        rw [List.cons_beq_cons]
        simp only [decide_eq_false h1, Bool.false_or, beq_self_eq_true, Bool.true_and]
        exact ih
theorem ltS_le {a b : ByteArray} : (Op.bytesLess a.toList b.toList || a.toList == b.toList) = !ltS b a := bl_total _ _
theorem ltS_emp {b : ByteArray} (h : b.size ≠ 0) : ltS ⟨#[]⟩ b = true := by
  unfold ltS
  rw [Go.Lib.toList_data, Go.Lib.toList_data]
  cases e : b.data.toList with
  | nil => exact absurd (show b.size = 0 by rw [← bl_len]; unfold bl; rw [e]; rfl) h
  | cons => rfl

noncomputable def dirGo (last : ByteArray) : List EntD → Int
  | [] => 0
  | x :: r => if entE x ≠ 0 then entE x else if ltS last x.Name then dirGo x.Name r else 4
noncomputable def dirE (l : List EntD) : Int := if 24 < l.length then 2 else dirGo ⟨#[]⟩ l
theorem dir_large {l : List EntD} (h : 24 < l.length) : dirE l = 2 := if_pos h
theorem dir_go {l : List EntD} (h : ¬ 24 < l.length) : dirE l = dirGo ⟨#[]⟩ l := if_neg h
/-- The name ahead of entry i. -/
def lastN (l : List EntD) : Nat → ByteArray
  | 0 => ⟨#[]⟩
  | i + 1 => (l[i]?.map (·.Name)).getD ⟨#[]⟩
theorem lastN_succ {l : List EntD} {i : Nat} {x : EntD} (h : l[i]? = some x) : lastN l (i + 1) = x.Name := by simp [lastN, h]
theorem drop_at {α : Type} {l : List α} {i : Nat} {x : α} (h : l[i]? = some x) : l.drop i = x :: l.drop (i + 1) := by
  obtain ⟨hi, e⟩ := List.getElem?_eq_some_iff.1 h
  rw [List.drop_eq_getElem_cons hi, e]
theorem dirGo_bad {last : ByteArray} {l : List EntD} {i : Nat} {x : EntD} (h : l[i]? = some x) (hx : entE x ≠ 0) : dirGo last (l.drop i) = entE x := by rw [drop_at h, dirGo, if_pos hx]
theorem dirGo_form {last : ByteArray} {l : List EntD} {i : Nat} {x : EntD} (h : l[i]? = some x) (hx : entE x = 0) (hl : ltS last x.Name = false) : dirGo last (l.drop i) = 4 := by rw [drop_at h, dirGo, if_neg (by rw [hx]; decide), hl]; rfl
theorem dirGo_next {last : ByteArray} {l : List EntD} {i : Nat} {x : EntD} (h : l[i]? = some x) (hx : entE x = 0) (hl : ltS last x.Name = true) : dirGo last (l.drop i) = dirGo x.Name (l.drop (i + 1)) := by rw [drop_at h, dirGo, if_neg (by rw [hx]; decide), hl, if_pos rfl]
theorem dirGo_end {last : ByteArray} {l : List EntD} : dirGo last (l.drop l.length) = 0 := by rw [List.drop_length]; rfl
theorem dirGo_all {last : ByteArray} : ∀ {l : List EntD}, dirGo last l = 0 → ∀ x ∈ l, entE x = 0
  | [], _, x, hx => by cases hx
  | y :: r, h, x, hx => by
    unfold dirGo at h
    by_cases a : entE y = 0
    · rw [if_neg (by rw [a]; decide)] at h
      by_cases b : ltS last y.Name = true
      · rw [if_pos b] at h
        rcases List.mem_cons.1 hx with rfl | hx
        · exact a
        · exact dirGo_all h x hx
      · rw [if_neg b] at h; cases h
    · rw [if_pos a] at h; exact absurd h a
theorem dir_zero {l : List EntD} (h : dirE l = 0) : l.length ≤ 24 ∧ ∀ x ∈ l, entE x = 0 := by
  unfold dirE at h
  by_cases a : 24 < l.length
  · rw [if_pos a] at h; cases h
  · rw [if_neg a] at h; exact ⟨by omega, dirGo_all h⟩
/-- Bytes 47 or 0 in a text. -/
theorem any_iff (s : ByteArray) : Lib.containsAny s.data.toList [47, 0] = true ↔ ∃ i, i < s.size ∧ (bt s i = 0 ∨ bt s i = 47) := by
  have key : ∀ l : List UInt8, Lib.containsAny l [47, 0] = true ↔ ∃ b ∈ l, b = 0 ∨ b = 47 := by
    intro l
    induction l with
    | nil => simp [Lib.containsAny, Lib.indexAny]
    | cons b l ih =>
      unfold Lib.containsAny at ih ⊢
      unfold Lib.indexAny
      by_cases h : ([47, 0] : List UInt8).contains b = true
      · rw [if_pos h]
        have hb : b = 0 ∨ b = 47 := by simp at h; exact h.symm
        simp [hb]
      · rw [if_neg h]
        have hb : ¬ (b = 0 ∨ b = 47) := fun e => h (by rcases e with rfl | rfl <;> decide)
        have hg := Lib.indexAny_ge [47, 0] l
        by_cases h2 : (Lib.indexAny l [47, 0] == -1) = true
        · rw [if_pos h2]
          have h3 : Lib.indexAny l [47, 0] = -1 := by simpa using h2
          rw [h3] at ih
          simp at ih
          simp [hb]
          intro x hx; exact ih x hx
        · rw [if_neg h2]
          have h3 : Lib.indexAny l [47, 0] ≠ -1 := by simpa using h2
          have h4 : 0 ≤ Lib.indexAny l [47, 0] := by omega
          obtain ⟨c, hc, hc2⟩ := ih.1 (decide_eq_true h4)
          rw [decide_eq_true (by omega)]
          simp only [true_iff]
          exact ⟨c, List.mem_cons_of_mem _ hc, hc2⟩
  rw [key]
  constructor
  · rintro ⟨b, hb, h⟩
    obtain ⟨i, hi, e⟩ := List.getElem_of_mem hb
    have hi' : i < s.size := by simpa using hi
    refine ⟨i, hi', ?_⟩
    rw [← get_bt s i hi']
    have e2 : s[i]'hi' = b := by rw [← e]; rfl
    rw [e2]
    rcases h with rfl | rfl
    · exact .inl rfl
    · exact .inr rfl
  · rintro ⟨i, hi, h⟩
    rw [← get_bt s i hi] at h
    refine ⟨s[i]'hi, ?_, ?_⟩
    · have : s.data.toList[i]'(by simpa using hi) = s[i]'hi := rfl
      rw [← this]; exact List.getElem_mem _
    · rcases h with h | h
      · left; exact UInt8.toNat_inj.1 (by show _ = 0; omega)
      · right; exact UInt8.toNat_inj.1 (by show _ = 47; omega)
end Go.Proofs.Ytnnmiolgffcgkaa
