/- Two sorted rows of coins become one: what slices' merge by rotation rests on: plain. -/
import Derived.Test.YtoncakcfibahaaaHsD
import Derived.Test.YtoncakcfibahaaaHsB
namespace Go.Proofs.Ytoncakcfibahaaa

theorem srt_at {l : List CoinV} (h : SrtC l) {i j : Nat} {x y : CoinV} (hij : i ≤ j) (hx : l[i]? = some x) (hy : l[j]? = some y) : x.worth ≤ y.worth := by
  rcases Nat.eq_or_lt_of_le hij with e | e
  · subst e; rw [hx] at hy; injection hy with hy; subst hy; exact Int.le_refl _
  · obtain ⟨h1, e1⟩ := List.getElem?_eq_some_iff.1 hx
    obtain ⟨h2, e2⟩ := List.getElem?_eq_some_iff.1 hy
    have := List.pairwise_iff_getElem.1 h i j h1 h2 e
    rw [e1, e2] at this; exact this
theorem mem_take_at {l : List CoinV} {s : Nat} {x : CoinV} (h : x ∈ l.take s) : ∃ t, t < s ∧ l[t]? = some x := by
  obtain ⟨t, ht, e⟩ := List.getElem_of_mem h
  rw [List.length_take] at ht
  exact ⟨t, by omega, by rw [List.getElem_take] at e; rw [← e]; exact List.getElem?_eq_getElem _⟩
theorem mem_drop_at {l : List CoinV} {s : Nat} {x : CoinV} (h : x ∈ l.drop s) : ∃ t, s ≤ t ∧ l[t]? = some x := by
  obtain ⟨t, ht, e⟩ := List.getElem_of_mem h
  rw [List.getElem_drop] at e
  exact ⟨s + t, by omega, by rw [← e]; exact List.getElem?_eq_getElem _⟩
theorem srt_take {l : List CoinV} (h : SrtC l) (s : Nat) : SrtC (l.take s) := List.Pairwise.sublist (List.take_sublist _ _) h
theorem srt_drop {l : List CoinV} (h : SrtC l) (s : Nat) : SrtC (l.drop s) := List.Pairwise.sublist (List.drop_sublist _ _) h
theorem srt_app {l m : List CoinV} (h : SrtC l) (k : SrtC m) (hm : ∀ x ∈ l, ∀ y ∈ m, x.worth ≤ y.worth) : SrtC (l ++ m) := List.pairwise_append.2 ⟨h, k, hm⟩
theorem srt_mid {l : List CoinV} (h : SrtC l) (x : CoinV) (s : Nat) (h1 : ∀ t y, t < s → l[t]? = some y → y.worth ≤ x.worth) (h2 : ∀ t y, s ≤ t → l[t]? = some y → x.worth ≤ y.worth) : SrtC (l.take s ++ x :: l.drop s) := by
  refine srt_app (srt_take h s) (List.pairwise_cons.2 ⟨fun y hy => ?_, srt_drop h s⟩) (fun a ha c hc => ?_)
  · obtain ⟨t, ht, e⟩ := mem_drop_at hy
    exact h2 t y ht e
  · obtain ⟨t, ht, e⟩ := mem_take_at ha
    have e1 := h1 t a ht e
    rcases List.mem_cons.1 hc with rfl | hc
    · exact e1
    · obtain ⟨t', ht', e'⟩ := mem_drop_at hc
      have := h2 t' c ht' e'
      omega
theorem perm_mid (l : List CoinV) (x : CoinV) (s : Nat) : (l.take s ++ x :: l.drop s).Perm (x :: l) := by
  have := (List.perm_middle (a := x) (l₁ := l.take s) (l₂ := l.drop s))
  rwa [List.take_append_drop] at this
/-- Where a search for x's place in l stands. -/
structure BsA (l : List CoinV) (x : CoinV) (i j : Nat) : Prop where
  lo : ∀ t y, t < i → l[t]? = some y → y.worth ≤ x.worth
  hi : ∀ t y, j ≤ t → l[t]? = some y → x.worth ≤ y.worth
theorem BsA.start (l : List CoinV) (x : CoinV) : BsA l x 0 l.length := ⟨fun t y h => by omega, fun t y h e => by have := (List.getElem?_eq_some_iff.1 e).1; omega⟩
theorem BsA.up {l : List CoinV} {x y : CoinV} {i j h : Nat} (k : BsA l x i j) (hs : SrtC l) (hy : l[h]? = some y) (hxy : y.worth ≤ x.worth) : BsA l x (h + 1) j :=
  ⟨fun _ _ ht hz => Int.le_trans (srt_at hs (by omega) hz hy) hxy, k.hi⟩
theorem BsA.down {l : List CoinV} {x y : CoinV} {i j h : Nat} (k : BsA l x i j) (hs : SrtC l) (hy : l[h]? = some y) (hxy : x.worth ≤ y.worth) : BsA l x i h :=
  ⟨k.lo, fun _ _ ht hz => Int.le_trans hxy (srt_at hs ht hy hz)⟩
/-- Where the search for the cut of two rows stands. -/
structure BsG (A B : List CoinV) (f s0 r0 s r : Nat) : Prop where
  lo : s = s0 ∨ 1 ≤ s ∧ s ≤ f ∧ ∀ x y, A[s - 1]? = some x → B[f - s]? = some y → x.worth ≤ y.worth
  hi : r = r0 ∨ r < f ∧ ∀ x y, A[r]? = some x → B[f - 1 - r]? = some y → y.worth ≤ x.worth
/-- The cut: both left parts weigh no more than both right parts. -/
theorem cut_le {A B : List CoinV} {f s0 r0 s : Nat} (hA : SrtC A) (hB : SrtC B) (h : BsG A B f s0 r0 s s) (hf : f = (A.length + B.length) / 2) (hs0 : s0 ≤ s) (hr0 : s ≤ r0) (h0 : A.length > f ∧ s0 = f - B.length ∧ r0 = f ∨ A.length ≤ f ∧ s0 = 0 ∧ r0 = A.length) :
    ∀ x ∈ A.take s ++ B.take (f - s), ∀ y ∈ A.drop s ++ B.drop (f - s), x.worth ≤ y.worth := by
  intro x hx y hy
  rcases List.mem_append.1 hx with hx | hx <;> rcases List.mem_append.1 hy with hy | hy
  · obtain ⟨t, ht, e⟩ := mem_take_at hx
    obtain ⟨t', ht', e'⟩ := mem_drop_at hy
    exact srt_at hA (by omega) e e'
  · obtain ⟨t, ht, e⟩ := mem_take_at hx
    obtain ⟨t', ht', e'⟩ := mem_drop_at hy
    have l1 := (List.getElem?_eq_some_iff.1 e).1
    have l2 := (List.getElem?_eq_some_iff.1 e').1
    rcases h.lo with q | ⟨q1, q2, q⟩
    · omega
    · have l3 : s - 1 < A.length := by omega
      have l4 : f - s < B.length := by omega
      have := q _ _ (List.getElem?_eq_getElem l3) (List.getElem?_eq_getElem l4)
      have a1 := srt_at hA (show t ≤ s - 1 by omega) e (List.getElem?_eq_getElem l3)
      have a2 := srt_at hB ht' (List.getElem?_eq_getElem l4) e'
      omega
  · obtain ⟨t, ht, e⟩ := mem_take_at hx
    obtain ⟨t', ht', e'⟩ := mem_drop_at hy
    have l1 := (List.getElem?_eq_some_iff.1 e).1
    have l2 := (List.getElem?_eq_some_iff.1 e').1
    rcases h.hi with q | ⟨q1, q⟩
    · omega
    · have l3 : s < A.length := by omega
      have l4 : f - 1 - s < B.length := by omega
      have := q _ _ (List.getElem?_eq_getElem l3) (List.getElem?_eq_getElem l4)
      have a1 := srt_at hB (show t ≤ f - 1 - s by omega) e (List.getElem?_eq_getElem l4)
      have a2 := srt_at hA ht' (List.getElem?_eq_getElem l3) e'
      omega
  · obtain ⟨t, ht, e⟩ := mem_take_at hx
    obtain ⟨t', ht', e'⟩ := mem_drop_at hy
    exact srt_at hB (by omega) e e'
/-- Out of the two halves, each sorted, the whole. -/
theorem cut_join {A B M1 M2 : List CoinV} {f s : Nat} (hc : ∀ x ∈ A.take s ++ B.take (f - s), ∀ y ∈ A.drop s ++ B.drop (f - s), x.worth ≤ y.worth) (p1 : M1.Perm (A.take s ++ B.take (f - s))) (p2 : M2.Perm (A.drop s ++ B.drop (f - s))) (s1 : SrtC M1) (s2 : SrtC M2) :
    SrtC (M1 ++ M2) ∧ (M1 ++ M2).Perm (A ++ B) := by
  refine ⟨srt_app s1 s2 (fun x hx y hy => hc x (p1.mem_iff.1 hx) y (p2.mem_iff.1 hy)), ?_⟩
  refine (p1.append p2).trans ?_
  have e : (A.take s ++ B.take (f - s) ++ (A.drop s ++ B.drop (f - s))).Perm (A.take s ++ A.drop s ++ (B.take (f - s) ++ B.drop (f - s))) := by
    simp only [List.append_assoc]
    refine List.Perm.append_left _ ?_
    rw [← List.append_assoc, ← List.append_assoc]
    exact List.Perm.append_right _ List.perm_append_comm
  rwa [List.take_append_drop, List.take_append_drop] at e
theorem srt_nil_l {A B : List CoinV} (hB : SrtC B) (h : A = []) : SrtC (A ++ B) := by subst h; exact hB
theorem srt_nil_r {A B : List CoinV} (hA : SrtC A) (h : B = []) : SrtC (A ++ B) := by subst h; simpa using hA
end Go.Proofs.Ytoncakcfibahaaa
