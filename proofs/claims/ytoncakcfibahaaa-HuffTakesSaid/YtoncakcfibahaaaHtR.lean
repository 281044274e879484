/- Packets: what the lengths are at the places, out of any order by worth: plain. -/
import Derived.Test.YtoncakcfibahaaaHtQ
import Derived.Test.YtoncakcfibahaaaCostP
namespace Go.Proofs.Ytoncakcfibahaaa.Ht

/-- The places of the signs that come. -/
def posL (xs : List Int) : List Nat := (List.range xs.length).filter (fun i => decide (0 < xs.getD i 0))
def sing (xs : List Int) : List Coin := (posL xs).map (fun i => ((xs.getD i 0).toNat, [i]))
def hd (y : Coin) : Nat := y.2.headD 0
theorem mem_pos {xs : List Int} {i : Nat} : i ∈ posL xs ↔ i < xs.length ∧ 0 < xs.getD i 0 := by simp [posL]
theorem pos_nodup (xs : List Int) : (posL xs).Nodup := List.Nodup.sublist List.filter_sublist List.nodup_range
/-- What such an order is, from ranks to places. -/
theorem ranks {xs : List Int} {S : List Coin} (hp : S.Perm (sing xs)) (hs : S.Pairwise fun x y => x.1 ≤ y.1) : ∃ w g : Nat → Nat, S = rl g (sgl w S.length) ∧ (∀ a b, a ≤ b → b < S.length → w a ≤ w b) ∧ ((List.range S.length).map g).Perm (posL xs) := by
  have hform : ∀ y ∈ S, y.2 = [hd y] := fun y hy => by
    obtain ⟨i, _, e⟩ := List.mem_map.1 (hp.mem_iff.1 hy)
    rw [← e]; rfl
  refine ⟨fun r => (S.getD r (0, [])).1, fun r => hd (S.getD r (0, [])), ?_, fun a b hab hb => ?_, ?_⟩
  · apply List.ext_getElem
    · simp [rl, sgl]
    · intro i h1 h2
      simp only [rl, sgl, List.getElem_map, List.getElem_range, List.map_cons, List.map_nil]
      rw [List.getD_eq_getElem?_getD, List.getElem?_eq_getElem h1]
      simp only [Option.getD_some]
      have := hform S[i] (List.getElem_mem h1)
      rw [← this]
  · simp only [List.getD_eq_getElem?_getD]
    rw [List.getElem?_eq_getElem hb, List.getElem?_eq_getElem (show a < S.length by omega)]
    simp only [Option.getD_some]
    rcases Nat.eq_or_lt_of_le hab with e | e
    · subst e; exact Nat.le_refl _
    · exact List.pairwise_iff_getElem.1 hs a b (by omega) hb e
  · have e1 : (List.range S.length).map (fun r => hd (S.getD r (0, []))) = S.map hd := by
      apply List.ext_getElem
      · simp
      · intro i h1 h2
        have h3 : i < S.length := by simpa using h1
        simp only [List.getElem_map, List.getElem_range]
        rw [List.getD_eq_getElem?_getD, List.getElem?_eq_getElem h3]; rfl
    rw [e1]
    have h2 : (sing xs).map hd = posL xs := by
      unfold sing
      rw [List.map_map]
      have : (hd ∘ fun i => ((xs.getD i 0).toNat, [i])) = id := by funext i; rfl
      rw [this, List.map_id]
    rw [← h2]
    exact hp.map hd
/-- The lengths: how often each place stands in the packets in front. -/
def outL (N : Nat) (S : List Coin) (most : Nat) : List Int := (List.range N).map (fun x => (cnt ((lstP S (most - 1)).take (2 * S.length - 2)) x : Int))
theorem sum_filter (F : Nat → Int) (p : Nat → Bool) : ∀ l : List Nat, (∀ x ∈ l, p x = false → F x = 0) → (l.map F).sum = ((l.filter p).map F).sum
  | [], _ => rfl
  | a :: l, h => by
    have ih := sum_filter F p l (fun x hx => h x (by simp [hx]))
    by_cases e : p a = true
    · rw [List.filter_cons_of_pos e]; simp [ih]
    · rw [List.filter_cons_of_neg e, List.map_cons, List.sum_cons, h a (by simp) (by simpa using e), ih]; omega
theorem sum_perm {a b : List Int} (h : a.Perm b) : a.sum = b.sum := by
  induction h with
  | nil => rfl
  | cons x _ ih => simp [ih]
  | swap x y l => simp only [List.sum_cons]; omega
  | trans _ _ h1 h2 => exact h1.trans h2
theorem sum_sm (f : Nat → Nat) : ∀ n, ((List.range n).map (fun r => (f r : Int))).sum = (sm f n : Int)
  | 0 => rfl
  | n + 1 => by rw [List.range_succ, List.map_append, List.sum_append, sum_sm f n]; simp [sm]
theorem lstP_mem (S : List Coin) (n : Nat) (hS : ∀ y ∈ S, ∀ q ∈ y.2, q < n) : ∀ d, ∀ y ∈ lstP S d, ∀ q ∈ y.2, q < n
  | 0, y, hy => hS y hy
  | d + 1, y, hy => by
    rw [lstP, List.mem_merge] at hy
    rcases hy with hy | hy
    · exact hS y hy
    · exact mem_prs (lstP S d) (fun y => ∀ q ∈ y.2, q < n) (lstP_mem S n hS d) (fun a b ha hb r hr => by
        rcases List.mem_append.1 hr with h | h
        · exact ha r h
        · exact hb r h) y hy
/-- What comes out is what is asked. -/
structure Good (xs : List Int) (most : Nat) (out : List Int) : Prop where
  len : out.length = xs.length
  zero : ∀ (i : Nat) (x v : Int), xs[i]? = some x → out[i]? = some v → x = 0 → v = 0
  some_ : ∀ (i : Nat) (x v : Int), xs[i]? = some x → out[i]? = some v → 0 < x → 1 ≤ v ∧ v ≤ most
  one : (posL xs).length = 1 → ∀ v ∈ out, v ≤ 1
  all : ∀ v ∈ out, 0 ≤ v ∧ v ≤ 15
  sum : fsum out ≤ 32768
theorem fsum_range (F : Nat → Nat) (N : Nat) (P : List Nat) (hP : (List.range N).filter (fun i => P.contains i) = P) (hF : ∀ x, x ∉ P → F x = 0) : fsum ((List.range N).map (fun x => (F x : Int))) = (P.map (fun x => pw (F x : Int))).sum := by
  unfold fsum
  rw [List.map_map, sum_filter _ (fun i => P.contains i) _ (fun x _ hx2 => ?_), hP]
  · rfl
  · have : x ∉ P := by simpa using hx2
    simp only [Function.comp, hF x this]; rfl
theorem good_zero {xs : List Int} {most : Nat} (h : (posL xs).length = 0) : Good xs most ((List.range xs.length).map (fun x => (((fun _ => 0) x : Nat) : Int))) := by
  have h0 : posL xs = [] := List.eq_nil_of_length_eq_zero h
  have hv : ∀ v ∈ (List.range xs.length).map (fun x => (((fun _ => 0) x : Nat) : Int)), v = 0 := fun v hv => by
    obtain ⟨i, _, e⟩ := List.mem_map.1 hv
    rw [← e]; rfl
  refine ⟨by simp, fun i x v h1 h2 h3 => hv v (List.mem_of_getElem? h2), fun i x v h1 h2 h3 => ?_, fun h => by omega, fun v hv' => by have := hv v hv'; omega, ?_⟩
  · have : i ∈ posL xs := mem_pos.2 ⟨(List.getElem?_eq_some_iff.1 h1).1, by rw [List.getD_eq_getElem?_getD, h1]; exact h3⟩
    rw [h0] at this; cases this
  · have : fsum ((List.range xs.length).map (fun x => (((fun _ => 0) x : Nat) : Int))) = 0 := by
      generalize List.range xs.length = l
      induction l with
      | nil => rfl
      | cons a l ih =>
        have ih' := ih
        unfold fsum at ih' ⊢
        simp only [List.map_cons, List.sum_cons] at ih' ⊢
        rw [ih']; rfl
    rw [this]; decide
theorem good_one {xs : List Int} {most i : Nat} (hm : 1 ≤ most) (h : posL xs = [i]) : Good xs most ((List.range xs.length).map (fun x => (((fun x => if x = i then 1 else 0) x : Nat) : Int))) := by
  have hi := mem_pos.1 (show i ∈ posL xs by rw [h]; simp)
  have hv : ∀ v ∈ (List.range xs.length).map (fun x => (((fun x => if x = i then 1 else 0) x : Nat) : Int)), 0 ≤ v ∧ v ≤ 1 := fun v hv => by
    obtain ⟨j, _, e⟩ := List.mem_map.1 hv
    rw [← e]; simp only; split <;> simp
  have hg : ∀ (j : Nat) (v : Int), ((List.range xs.length).map (fun x => (((fun x => if x = i then 1 else 0) x : Nat) : Int)))[j]? = some v → v = if j = i then 1 else 0 := fun j v hj => by
    obtain ⟨h1, h2⟩ := List.getElem?_eq_some_iff.1 hj
    simp only [List.getElem_map, List.getElem_range] at h2
    rw [← h2]; split <;> rfl
  refine ⟨by simp, fun j x v h1 h2 h3 => ?_, fun j x v h1 h2 h3 => ?_, fun _ v hv' => (hv v hv').2, fun v hv' => by have := hv v hv'; omega, ?_⟩
  · rw [hg j v h2, if_neg]
    intro e; subst e
    have := hi.2
    rw [List.getD_eq_getElem?_getD, h1] at this
    simp only [Option.getD_some] at this; omega
  · have : j ∈ posL xs := mem_pos.2 ⟨(List.getElem?_eq_some_iff.1 h1).1, by rw [List.getD_eq_getElem?_getD, h1]; exact h3⟩
    rw [h] at this
    have e : j = i := by simpa using this
    rw [hg j v h2, if_pos e]; omega
  · have hf : (List.range xs.length).filter (fun j => [i].contains j) = [i] := by
      rw [← h]
      unfold posL
      apply List.filter_congr
      intro x hx
      have hx2 : x < xs.length := by simpa using hx
      rw [Bool.eq_iff_iff]
      have hm2 := mem_pos (xs := xs) (i := x)
      simp only [List.contains_iff_mem, decide_eq_true_eq]
      show x ∈ posL xs ↔ _
      rw [hm2]; simp [hx2]
    rw [fsum_range (fun x => if x = i then 1 else 0) xs.length [i] hf (fun x hx => by simp only [List.mem_singleton] at hx; rw [if_neg hx])]
    simp [pw]
theorem good_two {xs : List Int} {S : List Coin} {most : Nat} (hp : S.Perm (sing xs)) (hs : S.Pairwise fun x y => x.1 ≤ y.1) (hn : 2 ≤ (posL xs).length) (hm : 1 ≤ most) (hm2 : most ≤ 15) (hle : (posL xs).length ≤ 2 ^ most) : Good xs most (outL xs.length S most) ∧ fsum (outL xs.length S most) = 32768 := by
  obtain ⟨w, g, e, hw, hg⟩ := ranks hp hs
  have hnl : S.length = (posL xs).length := by rw [hp.length_eq]; simp [sing]
  generalize hnn : S.length = n at *
  have hLF := lens_fill w n most hw (by omega) hm (by omega)
  obtain ⟨l1, l2⟩ := hLF
  have hnd : ((List.range n).map g).Nodup := hg.nodup_iff.2 (pos_nodup xs)
  have hinj : ∀ a b, a < n → b < n → g a = g b → a = b := fun a b ha hb hab => by
    have h1 : a < ((List.range n).map g).length := by simpa using ha
    have h2 : b < ((List.range n).map g).length := by simpa using hb
    have hpw := List.pairwise_iff_getElem.1 hnd
    rcases Nat.lt_trichotomy a b with h | h | h
    · exact absurd (by simpa using hab) (hpw a b h1 h2 h)
    · exact h
    · exact absurd (by simpa using hab.symm) (hpw b a h2 h1 h)
  have hmem : ∀ y ∈ (lst w n (most - 1)).take (2 * n - 2), ∀ q ∈ y.2, q < n := fun y hy q hq => (lst_worth w n _ y (List.mem_of_mem_take hy) q hq).1
  have hcg : ∀ r, r < n → cnt ((lstP S (most - 1)).take (2 * n - 2)) (g r) = cnt ((lst w n (most - 1)).take (2 * n - 2)) r := fun r hr => by
    rw [e, lstP_eq, rl_take, cnt_rl hinj hr _ hmem]
  have hcn : ∀ x, x ∉ posL xs → cnt ((lstP S (most - 1)).take (2 * n - 2)) x = 0 := fun x hx => by
    rw [e, lstP_eq, rl_take, cnt_rl_none (fun r hr h => hx ?_) _ hmem]
    rw [← hg.mem_iff]; exact List.mem_map.2 ⟨r, by simpa using hr, h⟩
  have hcp : ∀ x, x ∈ posL xs → ∃ r, r < n ∧ g r = x := fun x hx => by
    rw [← hg.mem_iff] at hx
    obtain ⟨r, h1, h2⟩ := List.mem_map.1 hx
    exact ⟨r, by simpa using h1, h2⟩
  have hout : ∀ i v, (outL xs.length S most)[i]? = some v → i < xs.length ∧ v = (cnt ((lstP S (most - 1)).take (2 * n - 2)) i : Int) := fun i v h => by
    unfold outL at h
    rw [hnn] at h
    obtain ⟨h1, h2⟩ := List.getElem?_eq_some_iff.1 h
    simp only [List.length_map, List.length_range] at h1
    simp only [List.getElem_map, List.getElem_range] at h2
    exact ⟨h1, h2.symm⟩
  have hval : ∀ x, x < xs.length → (x ∈ posL xs → 1 ≤ cnt ((lstP S (most - 1)).take (2 * n - 2)) x ∧ cnt ((lstP S (most - 1)).take (2 * n - 2)) x ≤ most) := fun x _ hx => by
    obtain ⟨r, h1, h2⟩ := hcp x hx
    rw [← h2, hcg r h1]; exact l1 r h1
  have hall : ∀ v ∈ outL xs.length S most, 0 ≤ v ∧ v ≤ 15 := fun v hv => by
    obtain ⟨i, hi, hv⟩ := List.getElem_of_mem hv
    obtain ⟨h1, h2⟩ := hout i v (by rw [← hv]; exact List.getElem?_eq_getElem _)
    by_cases hp : i ∈ posL xs
    · have := hval i h1 hp; omega
    · have := hcn i hp; omega
  have hsum : fsum (outL xs.length S most) = 32768 := by
    unfold fsum outL
    rw [List.map_map, hnn]
    rw [sum_filter _ (fun i => decide (0 < xs.getD i 0)) _ (fun x hx hx2 => ?_)]
    · show ((posL xs).map _).sum = _
      rw [← sum_perm (hg.map _), List.map_map]
      have e2 : ∀ r, r < n → (pw ∘ fun x => (cnt ((lstP S (most - 1)).take (2 * n - 2)) x : Int)) (g r) = ((2 ^ (15 - most) * 2 ^ (most - cnt ((lst w n (most - 1)).take (2 * n - 2)) r) : Nat) : Int) := fun r hr => by
        have h1 := l1 r hr
        simp only [Function.comp, hcg r hr]
        unfold pw
        rw [if_pos (by omega), ← Nat.pow_add]
        rw [show (15 - (cnt ((lst w n (most - 1)).take (2 * n - 2)) r : Int)).toNat = 15 - most + (most - cnt ((lst w n (most - 1)).take (2 * n - 2)) r) by omega]
        push_cast; rfl
      have e3 : (List.range n).map ((pw ∘ fun x => (cnt ((lstP S (most - 1)).take (2 * n - 2)) x : Int)) ∘ g) = (List.range n).map (fun r => ((2 ^ (15 - most) * 2 ^ (most - cnt ((lst w n (most - 1)).take (2 * n - 2)) r) : Nat) : Int)) := by
        apply List.map_congr_left
        intro r hr
        exact e2 r (by simpa using hr)
      rw [e3, sum_sm (fun r => 2 ^ (15 - most) * 2 ^ (most - cnt ((lst w n (most - 1)).take (2 * n - 2)) r)), sm_mul, l2, ← Nat.pow_add, show 15 - most + most = 15 by omega]
      rfl
    · have : x ∉ posL xs := fun h => by have := (mem_pos.1 h).2; simp only [decide_eq_false_iff_not] at hx2; omega
      simp only [Function.comp, hcn x this]; rfl
  refine ⟨⟨by simp [outL], fun i x v h1 h2 h3 => ?_, fun i x v h1 h2 h3 => ?_, fun h => by omega, hall, by rw [hsum]; exact Int.le_refl _⟩, hsum⟩
  · obtain ⟨h4, h5⟩ := hout i v h2
    have : i ∉ posL xs := fun h => by
      have := (mem_pos.1 h).2
      rw [List.getD_eq_getElem?_getD, h1] at this
      simp only [Option.getD_some] at this; omega
    rw [h5, hcn i this]; rfl
  · obtain ⟨h4, h5⟩ := hout i v h2
    have := hval i h4 (mem_pos.2 ⟨h4, by rw [List.getD_eq_getElem?_getD, h1]; exact h3⟩)
    omega
theorem lstP_enough {xs : List Int} {S : List Coin} {most : Nat} (hp : S.Perm (sing xs)) (hs : S.Pairwise fun x y => x.1 ≤ y.1) (hn : 1 ≤ S.length) (hm : 1 ≤ most) (hle : S.length ≤ 2 ^ most) : 2 * S.length - 2 ≤ (lstP S (most - 1)).length := by
  obtain ⟨w, g, e, hw, hg⟩ := ranks hp hs
  have := lst_enough w S.length most hn hm hle
  generalize hnn : S.length = n at *
  rw [e, lstP_eq]
  simpa [rl] using this
end Go.Proofs.Ytoncakcfibahaaa.Ht
