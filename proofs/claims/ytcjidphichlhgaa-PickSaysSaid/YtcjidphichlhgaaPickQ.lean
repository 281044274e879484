/- Which cells are best cleaned: what is asked and what comes out: plain. -/
import Derived.Test.YtcjidphichlhgaaPickP
namespace Go.Proofs.Ytcjidphichlhgaa.Pk

def badB (n a : Int) : Bool := decide (n < 0) || decide (1000 < n) || decide (a < 0) || decide (2147483647 < a)
theorem badB_false {n a : Int} (h : badB n a = false) : 0 ≤ n ∧ n ≤ 1000 ∧ 0 ≤ a ∧ a ≤ 2147483647 := by
  simp only [badB, Bool.or_eq_false_iff, decide_eq_false_iff_not] at h; omega
theorem badB_true {n a : Int} (h : badB n a = true) : n < 0 ∨ (0 ≤ n ∧ 1000 < n) ∨ (0 ≤ n ∧ n ≤ 1000 ∧ a < 0) ∨ (0 ≤ n ∧ n ≤ 1000 ∧ 0 ≤ a ∧ 2147483647 < a) := by
  simp only [badB, Bool.or_eq_true, decide_eq_true_eq] at h; omega
/-- The first place from k on where something is wrong. -/
def badL (ls gs : List Int) : Bool := (List.range ls.length).any (fun i => badB (ls.getD i 0) (gs.getD i 0))
def ordE (ls gs : List Int) : Int := if ls.length ≠ gs.length then 1 else if 128 < ls.length then 2 else if badL ls gs = true then 1 else 0
def item (ls gs : List Int) (i : Nat) : OneV := ⟨(i : Int), ls.getD i 0, gs.getD i 0⟩
/-- The cells in which something lives, among the first k. -/
def itemsK (ls gs : List Int) (k : Nat) : List OneV := ((List.range k).filter (fun i => decide (0 < ls.getD i 0))).map (item ls gs)
theorem itemsK_zero (ls gs : List Int) : itemsK ls gs 0 = [] := rfl
theorem itemsK_yes {ls gs : List Int} {k : Nat} (h : 0 < ls.getD k 0) : itemsK ls gs (k + 1) = itemsK ls gs k ++ [item ls gs k] := by
  unfold itemsK
  rw [List.range_succ, List.filter_append, List.map_append, List.filter_cons_of_pos (by simpa using h), List.filter_nil, List.map_cons, List.map_nil]
theorem itemsK_no {ls gs : List Int} {k : Nat} (h : ¬ 0 < ls.getD k 0) : itemsK ls gs (k + 1) = itemsK ls gs k := by
  unfold itemsK
  rw [List.range_succ, List.filter_append, List.map_append, List.filter_cons_of_neg (by simpa using h), List.filter_nil, List.map_nil, List.append_nil]
theorem itemsK_len (ls gs : List Int) (k : Nat) : (itemsK ls gs k).length ≤ k := by
  unfold itemsK
  rw [List.length_map]
  exact Nat.le_trans (List.length_filter_le _ _) (by simp)
theorem itemsK_mem {ls gs : List Int} {k : Nat} {x : OneV} (h : x ∈ itemsK ls gs k) : ∃ i, i < k ∧ x = item ls gs i := by
  unfold itemsK at h
  obtain ⟨i, hi, e⟩ := List.mem_map.1 h
  exact ⟨i, by simpa using (List.mem_filter.1 hi).1, e.symm⟩
theorem badL_false {ls gs : List Int} (h : badL ls gs = false) : ∀ i, i < ls.length → badB (ls.getD i 0) (gs.getD i 0) = false := fun i hi => by
  unfold badL at h
  rw [List.any_eq_false] at h
  have := h i (by simpa using hi)
  simpa using this
theorem badL_true {ls gs : List Int} {i : Nat} (hi : i < ls.length) (h : badB (ls.getD i 0) (gs.getD i 0) = true) : badL ls gs = true := by
  unfold badL
  rw [List.any_eq_true]
  exact ⟨i, by simpa using hi, h⟩
theorem items_ok {ls gs : List Int} (h : badL ls gs = false) : ∀ k, k ≤ ls.length → ∀ x ∈ itemsK ls gs k, OneOk x := fun k hk x hx => by
  obtain ⟨i, hi, rfl⟩ := itemsK_mem hx
  have := badB_false (badL_false h i (by omega))
  exact ⟨this.1, this.2.1, this.2.2.1, this.2.2.2⟩
def SrtO (l : List OneV) : Prop := l.Pairwise Le
/-- Two orders of the same are one. -/
theorem same_order {ls gs : List Int} {k : Nat} {u v : List OneV} (hu : u.Perm (itemsK ls gs k)) (hv : v.Perm (itemsK ls gs k)) (su : SrtO u) (sv : SrtO v) : u = v :=
  List.Perm.eq_of_pairwise (le := Le) (fun a b ha hb h1 h2 => by
    obtain ⟨i, _, rfl⟩ := itemsK_mem (hu.mem_iff.1 ha)
    obtain ⟨j, _, rfl⟩ := itemsK_mem (hv.mem_iff.1 hb)
    have := le_antisymm h1 h2
    have e : i = j := by simp only [item] at this; omega
    rw [e]) su sv (hu.trans hv.symm)
/-- One is put in where nothing ahead of it comes later, and nothing behind it earlier. -/
theorem srt_insert {l : List OneV} {x : OneV} {k : Nat} (hs : SrtO l) (hok : ∀ y ∈ l, OneOk y) (hx : OneOk x) (h1 : ∀ t y, t < k → l[t]? = some y → Le y x) (h2 : ∀ y, l[k]? = some y → Le x y) : SrtO (l.take k ++ [x] ++ l.drop k) := by
  have hl : SrtO (l.take k ++ l.drop k) := by rw [List.take_append_drop]; exact hs
  obtain ⟨a, b, c⟩ := List.pairwise_append.1 hl
  have hd : ∀ y ∈ l.drop k, Le x y := fun y hy => by
    cases e : l.drop k with
    | nil => rw [e] at hy; cases hy
    | cons z r =>
      have hz : l[k]? = some z := by rw [← List.head?_drop, e]; rfl
      have hxz := h2 z hz
      rw [e] at hy b
      rcases List.mem_cons.1 hy with rfl | hy
      · exact hxz
      · exact le_trans hx (hok z (List.mem_of_getElem? hz)) (hok y (List.mem_of_mem_drop (by rw [e]; exact List.mem_cons_of_mem _ hy))) hxz ((List.pairwise_cons.1 b).1 y hy)
  have ht : ∀ y ∈ l.take k, Le y x := fun y hy => by
    obtain ⟨t, ht, e⟩ := List.getElem_of_mem hy
    rw [List.length_take] at ht
    rw [List.getElem_take] at e
    exact h1 t y (by omega) (by rw [← e]; exact List.getElem?_eq_getElem _)
  unfold SrtO
  rw [List.append_assoc, List.pairwise_append]
  refine ⟨a, List.pairwise_append.2 ⟨by simp, b, fun u hu v hv => by rw [List.mem_singleton] at hu; rw [hu]; exact hd v hv⟩, fun u hu v hv => ?_⟩
  rcases List.mem_append.1 hv with hv | hv
  · rw [List.mem_singleton] at hv; rw [hv]; exact ht u hu
  · exact c u hu v hv
theorem perm_insert (l : List OneV) (x : OneV) (k : Nat) : (l.take k ++ [x] ++ l.drop k).Perm (l ++ [x]) := by
  have h1 : (l.take k ++ [x] ++ l.drop k).Perm (x :: (l.take k ++ l.drop k)) := by
    rw [List.append_assoc]
    exact List.perm_middle
  rw [List.take_append_drop] at h1
  exact h1.trans (List.perm_append_comm (l₁ := [x]))
end Go.Proofs.Ytcjidphichlhgaa.Pk
