/- Blobs parted among cells: plain lists. -/
import Derived.Test.YteppengbjpdaiaaBlobP
namespace Go.Proofs.Yteppengbjpdaiaa
open Go.RowKit Go.PlainAid

/-- What a blob takes. -/
def bsz (b : BlobD) : Nat := (oneL b.Kind b.Ino b.Nth b.Text).length
theorem putL_small {z : Nat} (h : z ≤ 600) : (putL (z : Int)).length = if 128 ≤ z then 2 else 1 := by
  unfold putL
  split
  · rw [putF_large 8 _ (by omega), putF_small 8 _ (by omega)]; rfl
  · rw [putF_small 9 _ (by omega)]; rfl
theorem oneL_size {k i n : Int} {t : ByteArray} (h : t.size ≤ 600) : (oneL k i n t).length = 3 + t.size + 1 + (if 128 ≤ t.size then 1 else 0) := by
  unfold oneL
  simp only [List.length_append, btL_length, List.length_cons, List.length_nil, putL_small h]
  split <;> omega
/-- How many blobs the cell at hand holds, and how many bytes, behind k blobs; and the cells that are full. -/
structure Cut where
  out : List Int
  n : Nat
  z : Nat
def Cut.step (s : Cut) (b : BlobD) : Cut := if s.n = 40 ∨ 1000 < s.z + bsz b then ⟨s.out ++ [(s.n : Int)], 1, 2 + bsz b⟩ else ⟨s.out, s.n + 1, s.z + bsz b⟩
def cutTo (l : List BlobD) : Nat → Cut
  | 0 => ⟨[], 0, 2⟩
  | j + 1 => match l[j]? with
    | some b => (cutTo l j).step b
    | none => cutTo l j
def splL (l : List BlobD) : List Int := if 0 < (cutTo l l.length).n then (cutTo l l.length).out ++ [((cutTo l l.length).n : Int)] else (cutTo l l.length).out
theorem cut_cut {l : List BlobD} {j : Nat} {b : BlobD} (h : l[j]? = some b) (hc : (cutTo l j).n = 40 ∨ 1000 < (cutTo l j).z + bsz b) : cutTo l (j + 1) = ⟨(cutTo l j).out ++ [((cutTo l j).n : Int)], 1, 2 + bsz b⟩ := by
  rw [cutTo, h]; simp only [Cut.step]; rw [if_pos hc]
theorem cut_go {l : List BlobD} {j : Nat} {b : BlobD} (h : l[j]? = some b) (hc : ¬ ((cutTo l j).n = 40 ∨ 1000 < (cutTo l j).z + bsz b)) : cutTo l (j + 1) = ⟨(cutTo l j).out, (cutTo l j).n + 1, (cutTo l j).z + bsz b⟩ := by
  rw [cutTo, h]; simp only [Cut.step]; rw [if_neg hc]
theorem cut_bd (l : List BlobD) (hb : ∀ b ∈ l, bsz b ≤ 613) : ∀ j, j ≤ l.length → (cutTo l j).n ≤ 40 ∧ (cutTo l j).n ≤ j ∧ (cutTo l j).z ≤ 1000 ∧ (cutTo l j).out.length ≤ j ∧ (0 < j → 0 < (cutTo l j).n)
  | 0, _ => by simp [cutTo]
  | j + 1, hj => by
    obtain ⟨h1, h2, h3, h4, h5⟩ := cut_bd l hb j (by omega)
    have e := List.getElem?_eq_getElem (l := l) (i := j) (by omega)
    have hz := hb l[j] (List.getElem_mem _)
    by_cases hc : (cutTo l j).n = 40 ∨ 1000 < (cutTo l j).z + bsz l[j]
    · rw [cut_cut e hc]; simp only [List.length_append, List.length_singleton]; omega
    · rw [cut_go e hc]; simp only []; omega
theorem chkL_all {l : List BlobD} (h : chkL l = 0) : ∀ b ∈ l, blbE b.Kind b.Ino b.Nth b.Text = 0 := by
  induction l with
  | nil => simp
  | cons a r ih =>
    simp only [chkL] at h
    split at h
    · rename_i h1; exact absurd h h1
    · rename_i h1
      intro b hb
      rcases List.mem_cons.1 hb with rfl | hb
      · exact Classical.not_not.1 h1
      · exact ih h b hb
theorem chkL_of {l : List BlobD} (h : ∀ b ∈ l, blbE b.Kind b.Ino b.Nth b.Text = 0) : chkL l = 0 := by
  induction l with
  | nil => rfl
  | cons a r ih =>
    simp only [chkL]
    rw [if_neg (by rw [h a (by simp)]; simp)]
    exact ih fun b hb => h b (by simp [hb])
theorem chkL_cases (l : List BlobD) : chkL l = 0 ∨ chkL l ≠ 0 := by by_cases h : chkL l = 0; exact .inl h; exact .inr h
noncomputable def splE (l : List BlobD) : Int := chkL l
noncomputable def splX (l : List BlobD) : List Int := if chkL l = 0 then splL l else []
theorem splX_ok {l : List BlobD} (h : chkL l = 0) : splX l = splL l := if_pos h
theorem splX_no {l : List BlobD} (h : chkL l ≠ 0) : splX l = [] := if_neg h
/-- The bytes of n blobs from place p on. -/
def seg (l : List BlobD) (p n : Nat) : List BlobD := (l.drop p).take n
theorem seg_succ {l : List BlobD} {p n : Nat} {b : BlobD} (h : l[p + n]? = some b) : seg l p (n + 1) = seg l p n ++ [b] := by
  unfold seg; rw [List.take_add_one, List.getElem?_drop, h]; rfl
theorem body_seg {l : List BlobD} {p n : Nat} {b : BlobD} (h : l[p + n]? = some b) : (bodyL (seg l p (n + 1))).length = (bodyL (seg l p n)).length + bsz b := by
  rw [seg_succ h, bodyL_append, List.length_append]; simp [bodyL, bsz]
theorem seg_len {l : List BlobD} {p n : Nat} (h : p + n ≤ l.length) : (seg l p n).length = n := by
  unfold seg; rw [List.length_take, List.length_drop]; omega
/-- The reference's test: do n + 1 blobs from p on fit one cell? -/
theorem seg_fits {l : List BlobD} {p n : Nat} (hc : chkL l = 0) (h : p + n < l.length) (hn : n ≤ 40) :
    blsE (seg l p (n + 1)) = if n = 40 ∨ 998 < (bodyL (seg l p (n + 1))).length then 2 else 0 := by
  have hl := seg_len (l := l) (p := p) (n := n + 1) (by omega)
  have hck : chkL (seg l p (n + 1)) = 0 := chkL_of fun b hb => chkL_all hc b (List.mem_of_mem_drop (List.mem_of_mem_take hb))
  unfold blsE
  rw [hl, if_neg (c := chkL _ ≠ 0) (by simp [hck])]
  by_cases h40 : n = 40
  · rw [if_pos (by omega), if_pos (.inl h40)]
  · rw [if_neg (by omega)]
    by_cases hb : 998 < (bodyL (seg l p (n + 1))).length
    · rw [if_pos hb, if_pos (.inr hb)]
    · rw [if_neg hb, if_neg (by rintro (e | e); exact h40 e; exact hb e)]
/-- What the reference's loops hold: p blobs lie in full cells, told in R; n lie in the cell at hand. -/
structure SpI (l : List BlobD) (p n : Nat) (R : List Int) : Prop where
  le : p + n ≤ l.length
  n1 : 1 ≤ n
  n40 : n ≤ 40
  cut : cutTo l (p + n) = ⟨R, n, 2 + (bodyL (seg l p n)).length⟩
theorem SpI.first {l : List BlobD} (hb : ∀ b ∈ l, bsz b ≤ 613) (h : 0 < l.length) : SpI l 0 1 [] := by
  have e := List.getElem?_eq_getElem (l := l) (i := 0) h
  have hz := hb l[0] (List.getElem_mem _)
  have hs := body_seg (l := l) (p := 0) (n := 0) (b := l[0]) e
  refine ⟨by omega, by omega, by omega, ?_⟩
  rw [show (0 : Nat) + 1 = 0 + 1 from rfl, cut_go e (by simp only [cutTo]; omega)]
  simp only [cutTo]
  rw [hs]
  simp [seg, bodyL]
theorem SpI.more {l : List BlobD} {p n : Nat} {R : List Int} (h : SpI l p n R) (hlt : p + n < l.length) (hf : ¬ (n = 40 ∨ 998 < (bodyL (seg l p (n + 1))).length)) : SpI l p (n + 1) R := by
  have e := List.getElem?_eq_getElem (l := l) (i := p + n) hlt
  have hs := body_seg e
  refine ⟨by omega, by omega, by have := h.n40; omega, ?_⟩
  rw [← Nat.add_assoc, cut_go e (by rw [h.cut]; simp only []; omega), h.cut, hs]
  simp only [Nat.add_assoc]
theorem SpI.next {l : List BlobD} {p n : Nat} {R : List Int} (h : SpI l p n R) (hb : ∀ b ∈ l, bsz b ≤ 613) (hlt : p + n < l.length) (hf : n = 40 ∨ 998 < (bodyL (seg l p (n + 1))).length) : SpI l (p + n) 1 (R ++ [(n : Int)]) := by
  have e := List.getElem?_eq_getElem (l := l) (i := p + n) hlt
  have hs := body_seg e
  have hs0 := body_seg (l := l) (p := p + n) (n := 0) (b := l[p + n]) e
  refine ⟨by omega, by omega, by omega, ?_⟩
  rw [cut_cut e (by rw [h.cut]; simp only []; omega), h.cut, hs0]
  simp [seg, bodyL]
theorem SpI.done {l : List BlobD} {p n : Nat} {R : List Int} (h : SpI l p n R) (he : p + n = l.length) : splL l = R ++ [(n : Int)] := by
  have hc := h.cut
  rw [he] at hc
  unfold splL
  rw [hc]
  simp only []
  rw [if_pos (by have := h.n1; omega)]
theorem spl_nil {l : List BlobD} (h : l.length = 0) : splL l = [] := by
  have : l = [] := List.eq_nil_of_length_eq_zero h
  subst this; rfl
end Go.Proofs.Yteppengbjpdaiaa
