/- Patterns: what a pattern means, and that the greedy way finds it (plain). -/
import Derived.Test.YtgidfmdbaimcnaaDoorKit
namespace Go.Proofs.YtgidfmdbaimcnaaDoor

/-- A part of a pattern. -/
structure Pc where
  run : Bool
  neg : Bool
  sp : List (Int × Int)
/-- Does a part take a sign? -/
def hitP (p : Pc) (r : Int) : Bool := p.sp.any (fun s => decide (s.1 ≤ r) && decide (r ≤ s.2)) != p.neg
/-- What a pattern means. -/
def mt : List Pc → List Int → Bool
  | [], t => t.isEmpty
  | p :: ps, t =>
    if p.run then go p ps t
    else match t with
      | [] => false
      | c :: t' => hitP p c && mt ps t'
  where go (p : Pc) (ps : List Pc) : List Int → Bool
  | [] => mt ps []
  | c :: t' => mt ps (c :: t') || go p ps t'
theorem mt_run {p : Pc} {ps : List Pc} {t : List Int} (h : p.run = true) : mt (p :: ps) t = (mt ps t || match t with | [] => false | _ :: t' => mt (p :: ps) t') := by
  cases t with
  | nil => simp [mt, mt.go, h]
  | cons c t' =>
    have e : mt (p :: ps) t' = mt.go p ps t' := by cases t' <;> simp [mt, h]
    simp only [e]
    simp [mt, mt.go, h]
theorem mt_one {p : Pc} {ps : List Pc} {t : List Int} (h : p.run = false) : mt (p :: ps) t = match t with | [] => false | c :: t' => hitP p c && mt ps t' := by
  cases t <;> simp [mt, h]
theorem mt_nil (t : List Int) : mt [] t = t.isEmpty := by cases t <;> simp [mt]
/-- A run: some rest is met. -/
theorem mt_run_iff {p : Pc} {ps : List Pc} (h : p.run = true) : ∀ (t : List Int), mt (p :: ps) t = true ↔ ∃ j, j ≤ t.length ∧ mt ps (t.drop j) = true
  | [] => by
    rw [mt_run h]; simp
  | c :: t => by
    rw [mt_run h]
    simp only [Bool.or_eq_true]
    rw [mt_run_iff h t]
    constructor
    · rintro (h | ⟨j, h1, h2⟩)
      · exact ⟨0, by simp, by simpa using h⟩
      · exact ⟨j + 1, by simp; omega, by simpa using h2⟩
    · rintro ⟨j, h1, h2⟩
      cases j with
      | zero => exact .inl (by simpa using h2)
      | succ j => exact .inr ⟨j, by simp at h1; omega, by simpa using h2⟩
/-- A run takes more. -/
theorem mt_run_up {p : Pc} {ps : List Pc} (h : p.run = true) {t : List Int} {a b : Nat} (hab : a ≤ b) (hb : b ≤ t.length) (hm : mt (p :: ps) (t.drop b) = true) : mt (p :: ps) (t.drop a) = true := by
  rw [mt_run_iff h] at hm ⊢
  obtain ⟨j, h1, h2⟩ := hm
  rw [List.length_drop] at h1
  rw [List.drop_drop] at h2
  refine ⟨b - a + j, by rw [List.length_drop]; omega, ?_⟩
  rw [List.drop_drop, show a + (b - a + j) = b + j by omega]
  exact h2
/-- Parts that are no runs, against as many signs. -/
def seg (l : List Pc) (t : List Int) : Bool := match l, t with
  | [], _ => true
  | _ :: _, [] => false
  | p :: ps, c :: t' => hitP p c && seg ps t'
theorem mt_seg : ∀ (a : List Pc) (b : List Pc) (t : List Int), (∀ p, p ∈ a → p.run = false) → mt (a ++ b) t = (seg a t && mt b (t.drop a.length))
  | [], b, t, _ => by simp [seg]
  | p :: a, b, t, h => by
    have hp : p.run = false := h p (by simp)
    rw [List.cons_append, mt_one hp]
    cases t with
    | nil => simp [seg]
    | cons c t =>
      simp only [seg, List.length_cons, List.drop_succ_cons]
      rw [mt_seg a b t (fun q hq => h q (by simp [hq])), Bool.and_assoc]
theorem seg_len : ∀ (a : List Pc) (t : List Int), seg a t = true → a.length ≤ t.length
  | [], _, _ => by simp
  | _ :: _, [], h => by simp [seg] at h
  | p :: a, c :: t, h => by
    simp only [seg, Bool.and_eq_true] at h
    have := seg_len a t h.2
    simp; omega
/-- The greedy way: what holds between two steps. star and from are one more than the program's, 0: none. -/
structure Gr (l : List Pc) (t : List Int) (i k st fr : Nat) : Prop where
  hi : i ≤ l.length
  hk : k ≤ t.length
  here : st = 0 → mt l t = mt (l.drop i) (t.drop k)
  s0 : st = 0 → fr = 0
  si : st ≤ i
  run : st ≠ 0 → ∃ p, l[st - 1]? = some p ∧ p.run = true
  fk : fr + (i - st) = k ∨ st = 0
  all : st ≠ 0 → mt l t = mt (l.drop (st - 1)) (t.drop fr)
  sg : st ≠ 0 → (∀ p, p ∈ (l.drop st).take (i - st) → p.run = false) ∧ seg ((l.drop st).take (i - st)) (t.drop fr) = true
variable {l : List Pc} {t : List Int} {i k st fr : Nat}
theorem gr_start : Gr l t 0 0 0 0 := ⟨Nat.zero_le _, Nat.zero_le _, fun _ => rfl, fun _ => rfl, Nat.le_refl _, fun h => absurd rfl h, .inr rfl, fun h => absurd rfl h, fun h => absurd rfl h⟩
theorem drop_get {α : Type} {l : List α} {i : Nat} {p : α} (h : l[i]? = some p) : l.drop i = p :: l.drop (i + 1) := by
  obtain ⟨h1, h2⟩ := List.getElem?_eq_some_iff.1 h
  rw [List.drop_eq_getElem_cons h1, h2]
theorem split_at (l : List Pc) (a b : Nat) (h : a ≤ b) : l.drop a = (l.drop a).take (b - a) ++ l.drop b := by
  conv => lhs; rw [← List.take_append_drop (b - a) (l.drop a)]
  rw [List.drop_drop, show a + (b - a) = b by omega]
/-- The parts behind the last run, at the place of it. -/
theorem gr_rest (h : Gr l t i k st fr) (hs : st ≠ 0) (j : Nat) : mt (l.drop st) (t.drop (fr + j)) = (seg ((l.drop st).take (i - st)) (t.drop (fr + j)) && mt (l.drop i) (t.drop (k + j))) := by
  have hfk : fr + (i - st) = k := h.fk.resolve_right hs
  have hlen : ((l.drop st).take (i - st)).length = i - st := by
    rw [List.length_take, List.length_drop]; have := h.hi; omega
  conv => lhs; rw [split_at l st i h.si]
  rw [mt_seg _ _ _ (h.sg hs).1, hlen, List.drop_drop, show fr + j + (i - st) = k + j by omega]
theorem gr_down (h : Gr l t i k st fr) (hs : st ≠ 0) : mt (l.drop i) (t.drop k) = true → mt l t = true := by
  intro hm
  obtain ⟨p, hp, hr⟩ := h.run hs
  rw [h.all hs, drop_get hp, mt_run_iff hr]
  refine ⟨0, Nat.zero_le _, ?_⟩
  have := gr_rest h hs 0
  rw [Nat.add_zero, Nat.add_zero] at this
  rw [List.drop_zero, show st - 1 + 1 = st by omega, this, (h.sg hs).2, hm]; rfl
/-- A run. -/
theorem gr_star (h : Gr l t i k st fr) {p : Pc} (hp : l[i]? = some p) (hr : p.run = true) : Gr l t (i + 1) k (i + 1) k := by
  have hil : i < l.length := (List.getElem?_eq_some_iff.1 hp).1
  refine ⟨hil, h.hk, fun e => by omega, fun e => by omega, Nat.le_refl _, fun _ => ⟨p, by simpa using hp, hr⟩, .inl (by omega), fun _ => ?_, fun _ => by simp [seg]⟩
  rw [Nat.add_sub_cancel]
  by_cases hs : st = 0
  · exact h.here hs
  · rw [Bool.eq_iff_iff]
    refine ⟨fun hm => ?_, gr_down h hs⟩
    obtain ⟨q, hq, hqr⟩ := h.run hs
    rw [h.all hs, drop_get hq, mt_run_iff hqr] at hm
    obtain ⟨j, h1, h2⟩ := hm
    rw [List.length_drop] at h1
    rw [List.drop_drop, show st - 1 + 1 = st by omega, gr_rest h hs j, Bool.and_eq_true] at h2
    have hfk : fr + (i - st) = k := h.fk.resolve_right hs
    have hl := seg_len _ _ h2.1
    rw [List.length_take, List.length_drop, List.length_drop] at hl
    have h3 := h2.2
    have hhk := h.hk
    have hsi := h.si
    rw [drop_get hp] at h3 ⊢
    exact mt_run_up hr (by omega) (by omega) h3
/-- A sign taken. -/
theorem gr_take (h : Gr l t i k st fr) {p : Pc} {c : Int} (hp : l[i]? = some p) (hr : p.run = false) (hc : t[k]? = some c) (hh : hitP p c = true) : Gr l t (i + 1) (k + 1) st fr := by
  have hil : i < l.length := (List.getElem?_eq_some_iff.1 hp).1
  have hkl : k < t.length := (List.getElem?_eq_some_iff.1 hc).1
  have e : mt (l.drop i) (t.drop k) = mt (l.drop (i + 1)) (t.drop (k + 1)) := by rw [drop_get hp, drop_get hc, mt_one hr]; simp [hh]
  refine ⟨hil, hkl, fun hs => by rw [h.here hs, e], h.s0, by have := h.si; omega, h.run, ?_, h.all, fun hs => ?_⟩
  · rcases h.fk with h1 | h1
    · exact .inl (by have := h.si; omega)
    · exact .inr h1
  · have hfk : fr + (i - st) = k := h.fk.resolve_right hs
    have hsi := h.si
    have e1 : (l.drop st).take (i + 1 - st) = (l.drop st).take (i - st) ++ [p] := by
      rw [show i + 1 - st = (i - st) + 1 by omega, List.take_add_one, List.getElem?_drop, show st + (i - st) = i by omega, hp]; rfl
    rw [e1]
    refine ⟨fun q hq => ?_, ?_⟩
    · rcases List.mem_append.1 hq with h1 | h1
      · exact (h.sg hs).1 q h1
      · rw [List.mem_singleton.1 h1]; exact hr
    · have key : ∀ (a : List Pc) (u : List Int), seg a u = true → u[a.length]? = some c → seg (a ++ [p]) u = true := by
        intro a
        induction a with
        | nil => intro u _ hu; cases u with
          | nil => simp at hu
          | cons d u => simp at hu; subst hu; simp [seg, hh]
        | cons q a ih => intro u h1 hu; cases u with
          | nil => simp at hu
          | cons d u =>
            simp only [seg, Bool.and_eq_true, List.cons_append, List.length_cons, List.getElem?_cons_succ] at h1 hu ⊢
            exact ⟨h1.1, ih u h1.2 hu⟩
      refine key _ _ (h.sg hs).2 ?_
      rw [List.length_take, List.length_drop, List.getElem?_drop, Nat.min_eq_left (by omega), hfk]
      exact hc
/-- No way here: a run takes one more. -/
theorem gr_back (h : Gr l t i k st fr) (hs : st ≠ 0) (hkl : k < t.length) (hno : mt (l.drop i) (t.drop k) = false) : Gr l t st (fr + 1) st (fr + 1) := by
  have hfk : fr + (i - st) = k := h.fk.resolve_right hs
  obtain ⟨p, hp, hr⟩ := h.run hs
  have hpl := (List.getElem?_eq_some_iff.1 hp).1
  refine ⟨by omega, by omega, fun e => absurd e hs, fun e => absurd e hs, Nat.le_refl _, h.run, .inl (by omega), fun _ => ?_, fun _ => by simp [seg]⟩
  rw [h.all hs, drop_get hp]
  obtain ⟨c, hc⟩ : ∃ c, t[fr]? = some c := ⟨_, List.getElem?_eq_getElem (by omega)⟩
  have h0 := gr_rest h hs 0
  rw [Nat.add_zero, Nat.add_zero, hno, Bool.and_false] at h0
  conv => lhs; rw [mt_run hr, show st - 1 + 1 = st by omega, h0, Bool.false_or, drop_get hc]
  rw [show st - 1 + 1 = st by omega]
/-- No way at all. -/
theorem gr_none (h : Gr l t i k st fr) (hs : st = 0) (hno : mt (l.drop i) (t.drop k) = false) : mt l t = false := (h.here hs).trans hno
/-- At the end of the text. -/
theorem gr_end (h : Gr l t i k st fr) (hk : k = t.length) : mt l t = mt (l.drop i) [] := by
  have hd : t.drop k = [] := by rw [hk, List.drop_length]
  by_cases hs : st = 0
  · rw [h.here hs, hd]
  · rw [Bool.eq_iff_iff, ← hd]
    refine ⟨fun hm => ?_, gr_down h hs⟩
    obtain ⟨q, hq, hqr⟩ := h.run hs
    rw [h.all hs, drop_get hq, mt_run_iff hqr] at hm
    obtain ⟨j, h1, h2⟩ := hm
    rw [List.length_drop] at h1
    rw [List.drop_drop, show st - 1 + 1 = st by omega, gr_rest h hs j, Bool.and_eq_true] at h2
    have hfk : fr + (i - st) = k := h.fk.resolve_right hs
    have hl := seg_len _ _ h2.1
    rw [List.length_take, List.length_drop, List.length_drop] at hl
    have hsi := h.si
    have hil := h.hi
    have : j = 0 := by omega
    subst this
    exact h2.2
theorem mt_no_end (h : l.length ≤ i) (hk : k < t.length) : mt (l.drop i) (t.drop k) = false := by
  rw [List.drop_of_length_le h, mt_nil]
  cases e : t.drop k with
  | nil => have := congrArg List.length e; rw [List.length_drop] at this; simp at this; omega
  | cons _ _ => rfl
theorem mt_no_hit {p : Pc} {c : Int} (hp : l[i]? = some p) (hr : p.run = false) (hc : t[k]? = some c) (hh : hitP p c = false) : mt (l.drop i) (t.drop k) = false := by
  rw [drop_get hp, drop_get hc, mt_one hr]; simp [hh]
/-- Runs at the end. -/
theorem mt_end_run {p : Pc} (hp : l[i]? = some p) (hr : p.run = true) : mt (l.drop i) [] = mt (l.drop (i + 1)) [] := by
  rw [drop_get hp, mt_run hr]; simp
theorem mt_end_one {p : Pc} (hp : l[i]? = some p) (hr : p.run = false) : mt (l.drop i) [] = false := by
  rw [drop_get hp, mt_one hr]
theorem mt_end_nil (h : l.length ≤ i) : mt (l.drop i) [] = true := by rw [List.drop_of_length_le h, mt_nil]; rfl
/-- What falls from step to step. -/
def msr (L T k st fr : Nat) : Nat := ((L - st) * (T + 1) + (T - fr)) * (T + 1) + (T - k)
theorem msr_star {L T i k st fr : Nat} (hi : i < L) (hs : st ≤ i) : msr L T k (i + 1) k < msr L T k st fr := by
  unfold msr
  have h1 : (L - (i + 1)) + 1 ≤ L - st := by omega
  have h2 : ((L - (i + 1)) + 1) * (T + 1) ≤ (L - st) * (T + 1) := Nat.mul_le_mul_right _ h1
  rw [Nat.add_mul, Nat.one_mul] at h2
  have h3 : (L - (i + 1)) * (T + 1) + (T - k) + 1 ≤ (L - st) * (T + 1) + (T - fr) := by omega
  have h4 := Nat.mul_le_mul_right (T + 1) h3
  rw [Nat.add_mul, Nat.one_mul] at h4
  omega
theorem msr_take {L T k st fr : Nat} (hk : k < T) : msr L T (k + 1) st fr < msr L T k st fr := by
  unfold msr; omega
theorem msr_back {L T k st fr : Nat} (hf : fr < T) : msr L T (fr + 1) st (fr + 1) < msr L T k st fr := by
  unfold msr
  have h3 : (L - st) * (T + 1) + (T - (fr + 1)) + 1 ≤ (L - st) * (T + 1) + (T - fr) := by omega
  have h4 := Nat.mul_le_mul_right (T + 1) h3
  rw [Nat.add_mul, Nat.one_mul] at h4
  omega
end Go.Proofs.YtgidfmdbaimcnaaDoor
