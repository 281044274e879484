/- What huff.Lens keeps between its steps: lists of coins, and the lengths as they grow. -/
import Derived.Test.YtoncakcfibahaaaHmD
import Derived.Test.YtoncakcfibahaaaHsI
namespace Go.Proofs.Ytoncakcfibahaaa
open Go.RowKit

theorem mkI_run (N : Nat) (hN : N ≤ 320) : ∀ W : World, (Instr.makeSlice 22 (.int .i64 (N : Int)) (.int .i64 (N : Int))).run Try.prog W = .ok (.slice (some ⟨W.heap.size, 0, none⟩) N N) (W.alloc (.cells (madeCells #[Value.int .i64 0] N) 3)) := fun W => by
  obtain ⟨i, hi, hzz⟩ := Option.map_eq_some_iff.1 info_intH
  simp only [Prod.mk.injEq] at hzz
  obtain ⟨hz, hs, hbb⟩ := hzz
  have := run_make (P := Try.prog) W 22 3 i (.int .i64 0) Try.underlying22 hi hz .i64 .i64 N N (by omega) (by omega) (by rw [hbb]; omega) (by omega)
  rw [hs] at this
  rw [this, Int.toNat_natCast, Nat.mul_one]; rfl
/-- The lengths: a row of N ints, f tells which. -/
def OutRow (w : World) (base b N : Nat) (f : Nat → Nat) : Prop := Owns w base 1 (.slice (some ⟨b, 0, none⟩) N N) N ((List.range N).map (fun x => Value.int .i64 (f x)))
theorem out_made (w : World) (N : Nat) (hN : N ≤ 320) : OutRow (w.alloc (.cells (madeCells #[Value.int .i64 0] N) 3)) w.heap.size w.heap.size N (fun _ => 0) := by
  have hh := heap_alloc_new w (.cells (madeCells #[Value.int .i64 0] N) 3)
  have hl : (madeCells #[Value.int .i64 0] N).toList = List.replicate N (Value.int .i64 0) := toList_madeCells_one _ _
  have hsz : (madeCells #[Value.int .i64 0] N).size = N := by rw [← Array.length_toList, hl, List.length_replicate]
  refine ⟨by simp, .inr ⟨w.heap.size, 0, N, rfl, Nat.le_refl _, by simp, Nat.le_refl _, by unfold maxLen; omega, fun j u hu => ?_, fun j hj => ?_⟩⟩
  · rw [Nat.zero_add, cell_of_row _ _ _ _ _ _ hh, ← Array.getElem?_toList, hl]
    obtain ⟨h1, h2⟩ := List.getElem?_eq_some_iff.1 hu
    simp only [List.length_map, List.length_range] at h1
    rw [List.getElem?_replicate, if_pos h1, ← h2]
    simp
  · rw [Nat.zero_add, cell_of_row _ _ _ _ _ _ hh, Array.getElem?_eq_getElem (by omega)]
    exact ⟨rfl, frozen_of_row _ _ _ _ _ hh⟩
theorem OutRow.cell {w : World} {base b N : Nat} {f : Nat → Nat} (h : OutRow w base b N f) {x : Nat} (hx : x < N) : w.cell? ⟨b, x, none⟩ = some (.int .i64 (f x)) ∧ w.frozen? ⟨b, x, none⟩ = false ∧ b < w.heap.size := by
  obtain ⟨g, off, cap, e, h1, h2, h3, h4⟩ := h.at_ (j := x) (u := .int .i64 (f x)) (by simp [hx])
  injection e with e1 e2 e3
  injection e1 with e1
  injection e1 with e1 e4 _
  subst e1; subst e4
  rw [Nat.zero_add] at h3 h4
  exact ⟨h3, h4, h2⟩
theorem OutRow.set {w : World} {base b N : Nat} {f f' : Nat → Nat} (h : OutRow w base b N f) {x : Nat} (v : Nat) (hv : f' x = v) (hf : ∀ y, y ≠ x → f' y = f y) : OutRow (w.setCell ⟨b, x, none⟩ (.int .i64 (v : Int))) base b N f' := by
  have := Owns.set h x (.int .i64 (v : Int))
  rw [Nat.zero_add] at this
  unfold OutRow
  have e : ((List.range N).map (fun x => Value.int .i64 (f x : Int))).set x (.int .i64 (v : Int)) = (List.range N).map (fun x => Value.int .i64 (f' x : Int)) := by
    apply List.ext_getElem
    · simp
    · intro i h1 h2
      rw [List.getElem_set]
      simp only [List.getElem_map, List.getElem_range]
      by_cases e : x = i
      · subst e; rw [if_pos rfl, hv]
      · rw [if_neg e, hf i (fun q => e q.symm)]
  rw [← e]; exact this
theorem OutRow.more {w : World} {base base' b N : Nat} {f : Nat → Nat} (h : OutRow w base b N f) (hB : base' ≤ base) : OutRow w base' b N f := Owns.more h hB
/-- The lengths as ints. -/
def outI (N : Nat) (f : Nat → Nat) : List Int := (List.range N).map (fun x => (f x : Int))
theorem out_ints {w : World} {base b N : Nat} {f : Nat → Nat} (h : OutRow w base b N f) : Owns w base 1 (.slice (some ⟨b, 0, none⟩) N N) N ((outI N f).map (Value.int .i64)) := by
  have : (outI N f).map (Value.int .i64) = (List.range N).map (fun x => Value.int .i64 (f x)) := by simp [outI, List.map_map, Function.comp_def]
  rw [this]; exact h
theorem perm_lift {α β : Type} (f : α → β) : ∀ {l l' : List β}, l'.Perm l → ∀ qs : List α, qs.map f = l → ∃ qs' : List α, qs'.map f = l' ∧ qs'.Perm qs := by
  intro l l' hp
  induction hp with
  | nil => intro qs h; exact ⟨qs, h, List.Perm.refl _⟩
  | cons x _ ih =>
    intro qs h
    cases qs with
    | nil => cases h
    | cons q qs =>
      rw [List.map_cons] at h
      injection h with h1 h2
      obtain ⟨qs', e, hp⟩ := ih qs h2
      exact ⟨q :: qs', by rw [List.map_cons, h1, e], hp.cons q⟩
  | swap x y l =>
    intro qs h
    cases qs with
    | nil => cases h
    | cons q qs =>
      cases qs with
      | nil => cases h
      | cons q' qs =>
        rw [List.map_cons, List.map_cons] at h
        injection h with h1 h2
        injection h2 with h2 h3
        exact ⟨q' :: q :: qs, by rw [List.map_cons, List.map_cons, h1, h2, h3], List.Perm.swap _ _ _⟩
  | trans _ _ h1 h2 =>
    intro qs h
    obtain ⟨q1, e1, p1⟩ := h2 qs h
    obtain ⟨q2, e2, p2⟩ := h1 q1 e1
    exact ⟨q2, e2, p2.trans p1⟩
/-- A row of coins of the call's own is a row that may be sorted. -/
theorem row_of_own {w : World} {base g off n c : Nat} {l : List CoinV} (h : Owns w base 2 (.slice (some ⟨g, off, none⟩) n c) n (l.flatMap CoinV.cells)) : Row w g off n l w := by
  have hl : l.length = n := by have := h.1; rw [coin_flat] at this; omega
  rcases h.2 with ⟨e, _⟩ | ⟨g', off', cap', e, h1, h2, h3, h4, h5, h6⟩
  · cases e
  · injection e with e1 e2 e3
    injection e1 with e1
    injection e1 with e1 e4
    subst e1; subst e4; subst e3
    refine ⟨hl, h2, World.grownBy.refl w _, fun i x hx => ?_, fun i x hx => ?_, fun i hi => ?_, fun i hi => ?_⟩
    · have := h5 _ _ (flat_at (enc := CoinV.cells) (k := 2) (fun _ => rfl) l i x hx 0 _ rfl)
      simpa using this
    · have := h5 _ _ (flat_at (enc := CoinV.cells) (k := 2) (fun _ => rfl) l i x hx 1 _ rfl)
      rw [Nat.add_assoc]; exact this
    · exact (h6 (i * 2) (by omega)).2
    · have := (h6 (i * 2 + 1) (by omega)).2; rw [Nat.add_assoc]; exact this
theorem Row.rows {w0 w : World} {b o n c : Nat} {l : List CoinV} (h : Row w0 b o n l w) (hc : n ≤ c) (hc2 : c ≤ maxLen) : RowsIn w w.heap.size (some ⟨b, o, none⟩) n c CoinV.cells 2 l :=
  ⟨h.len, hc, hc2, fun i x hx => ⟨b, o, rfl, Nat.lt_of_lt_of_le h.lt h.grown.size, fun j u hu => by
    match j, hu with
    | 0, hu => obtain rfl : _ = u := by simpa [CoinV.cells] using hu
               exact h.cell0 i x hx
    | 1, hu => obtain rfl : _ = u := by simpa [CoinV.cells] using hu
               exact h.cell1 i x hx
    | j + 2, hu => simp [CoinV.cells] at hu⟩⟩
/-- How small the packets are. -/
theorem sml_prs {M L : Nat} : ∀ {l : List Ht.Coin}, CSml M L l → CSml (2 * M) (2 * L) (Ht.prs l)
  | [], _ => ⟨fun y hy => by simp [Ht.prs] at hy, fun y hy => by simp [Ht.prs] at hy⟩
  | [a], _ => ⟨fun y hy => by simp [Ht.prs] at hy, fun y hy => by simp [Ht.prs] at hy⟩
  | a :: b :: l, h => by
    have ih := sml_prs (M := M) (L := L) (l := l) ⟨fun y hy => h.worth y (by simp [hy]), fun y hy => h.len y (by simp [hy])⟩
    have ha := h.worth a (by simp); have hb := h.worth b (by simp)
    have la := h.len a (by simp); have lb := h.len b (by simp)
    refine ⟨fun y hy => ?_, fun y hy => ?_⟩
    · rw [Ht.prs] at hy
      rcases List.mem_cons.1 hy with rfl | hy
      · simp only; omega
      · exact ih.worth y hy
    · rw [Ht.prs] at hy
      rcases List.mem_cons.1 hy with rfl | hy
      · simp only [List.length_append]; omega
      · exact ih.len y hy
theorem sml_lst {S : List Ht.Coin} (h : CSml 1048576 1 S) : ∀ t, CSml (1048576 * 2 ^ t) (2 ^ t) (Ht.lstP S t)
  | 0 => by simpa [Ht.lstP] using h
  | t + 1 => by
    have ih := sml_prs (sml_lst h t)
    have hp := Nat.pow_pos (n := t) (show 0 < 2 by omega)
    have e : 2 ^ (t + 1) = 2 * 2 ^ t := by rw [Nat.pow_succ]; omega
    refine ⟨fun y hy => ?_, fun y hy => ?_⟩
    · rw [Ht.lstP, List.mem_merge] at hy
      rcases hy with hy | hy
      · have := h.worth y hy; rw [e]; omega
      · have := ih.worth y hy; rw [e]; omega
    · rw [Ht.lstP, List.mem_merge] at hy
      rcases hy with hy | hy
      · have := h.len y hy; rw [e]; omega
      · have := ih.len y hy; rw [e]; omega
theorem len_lstP (S : List Ht.Coin) : ∀ t, (Ht.lstP S t).length ≤ 2 * S.length
  | 0 => by simp [Ht.lstP]; omega
  | t + 1 => by rw [Ht.lstP, List.length_merge, Ht.len_prs]; have := len_lstP S t; omega
/-- Where the lists stand: the list at depth t, none of it in block wO. -/
structure LsI (w3 : World) (S : List Ht.Coin) (wO t : Nat) (D : Option Addr) (n d : Nat) (ps : List (CoinV × Ht.Coin)) (wr : World) : Prop where
  rows : RowsIn wr wr.heap.size D n d CoinV.cells 2 (ps.map (·.1))
  reps : CReps wr wr.heap.size ps
  eq : ps.map (·.2) = Ht.lstP S t
  apart : ∀ p ∈ ps, ∀ a, p.1.A = some a → a.block ≠ wO
  ne : ∀ a, D = some a → a.block ≠ wO
  below : Below w3.heap.size w3 wr
theorem LsI.on {w3 wr w5 : World} {S : List Ht.Coin} {wO t : Nat} {D : Option Addr} {n d : Nat} {ps : List (CoinV × Ht.Coin)} (h : LsI w3 S wO t D n d ps wr) (hb : Below wr.heap.size wr w5) : LsI w3 S wO t D n d ps w5 :=
  ⟨(h.rows.below hb).more hb.size, fun p hp => ((h.reps p hp).below hb).more hb.size, h.eq, h.apart, h.ne, h.below.trans (hb.mono h.below.size)⟩
theorem LsI.step {w3 wr w5 w6 : World} {S : List Ht.Coin} {wO t : Nat} {D : Option Addr} {n d : Nat} {ps qs : List (CoinV × Ht.Coin)} {D0 : Option Addr} {k d0 : Nat} {ps0 : List (CoinV × Ht.Coin)} {D6 : Option Addr} {n6 d6 : Nat}
    (h0 : LsI w3 S wO 0 D0 k d0 ps0 w3) (h : LsI w3 S wO t D n d ps wr) (hO : wO < w3.heap.size) (hb : Below wr.heap.size wr w5) (hq : CReps w5 w5.heap.size qs) (he : qs.map (·.2) = Ht.prs (ps.map (·.2))) (hap : ∀ q ∈ qs, ∀ a, q.1.A = some a → wr.heap.size ≤ a.block)
    (ho : Owns w6 w5.heap.size 2 (.slice D6 n6 d6) n6 ((List.merge (ps0.map (·.1)) (qs.map (·.1)) leV).flatMap CoinV.cells)) (hb6 : Below w5.heap.size w5 w6) : ∃ ps6, LsI w3 S wO (t + 1) D6 n6 d6 ps6 w6 := by
  have s1 := h.below.size
  have s2 := hb.size
  have hB5 : Below w3.heap.size w3 w5 := h.below.trans (hb.mono s1)
  have hB6 : Below w3.heap.size w3 w6 := hB5.trans (hb6.mono (by omega))
  have e0 : ps0.map (·.2) = S := h0.eq
  have h06 : CReps w6 w6.heap.size ps0 := fun p hp => ((h0.reps p hp).below hB6).more hB6.size
  have hq6 : CReps w6 w6.heap.size qs := fun p hp => ((hq p hp).below hb6).more hb6.size
  refine ⟨List.merge ps0 qs (fun p q => leV p.1 q.1), ?_, fun p hp => ?_, ?_, fun p hp a ha => ?_, fun a ha => ?_, hB6⟩
  · rw [List.map_merge (f := fun p : CoinV × Ht.Coin => p.1) (r := fun p q => leV p.1 q.1) (s := leV) (fun a _ b _ => rfl)]
    exact Owns.rows (enc := CoinV.cells) (k := 2) (fun _ => rfl) (by decide) ho
  · rcases List.mem_merge.1 hp with hp | hp
    · exact h06 p hp
    · exact hq6 p hp
  · rw [List.map_merge (f := fun p : CoinV × Ht.Coin => p.2) (r := fun p q => leV p.1 q.1) (s := Ht.le) (fun a ha b hb => by
      have k1 := (h06 a ha).worth
      have k2 := (hq6 b hb).worth
      simp only [leV, Ht.le, k1, k2]
      rw [Bool.eq_iff_iff]; simp), e0, he, h.eq]
    rfl
  · rcases List.mem_merge.1 hp with hp | hp
    · exact h0.apart p hp a ha
    · have := hap p hp a ha; omega
  · have := (ho.lt a.block (by rw [ha]; rfl)).1; omega
theorem sml_sing {xs : List Int} (h : ∀ x ∈ xs, 0 ≤ x ∧ x ≤ 1048576) {S : List Ht.Coin} (hp : S.Perm (Ht.sing xs)) : CSml 1048576 1 S := by
  have hform : ∀ y ∈ S, ∃ i, i < xs.length ∧ y = ((xs.getD i 0).toNat, [i]) := fun y hy => by
    obtain ⟨i, hi, e⟩ := List.mem_map.1 (hp.mem_iff.1 hy)
    exact ⟨i, (Ht.mem_pos.1 hi).1, e.symm⟩
  refine ⟨fun y hy => ?_, fun y hy => ?_⟩
  · obtain ⟨i, hi, rfl⟩ := hform y hy
    have := h xs[i] (List.getElem_mem hi)
    rw [List.getD_eq_getElem?_getD, List.getElem?_eq_getElem hi]
    simp only [Option.getD_some]; omega
  · obtain ⟨i, hi, rfl⟩ := hform y hy
    simp
theorem mem_sing {xs : List Int} {S : List Ht.Coin} (hp : S.Perm (Ht.sing xs)) : ∀ y ∈ S, ∀ q ∈ y.2, q < xs.length := fun y hy q hq => by
  obtain ⟨i, hi, e⟩ := List.mem_map.1 (hp.mem_iff.1 hy)
  rw [← e] at hq
  have : q = i := by simpa using hq
  rw [this]; exact (Ht.mem_pos.1 hi).1
/-- What the sort leaves. -/
structure SrtD (w : World) (xs : List Int) (wO g off k d : Nat) (S : List Ht.Coin) (ps : List (CoinV × Ht.Coin)) (w3 : World) : Prop where
  ls : LsI w3 S wO 0 (some ⟨g, off, none⟩) k d ps w3
  perm : S.Perm (Ht.sing xs)
  srt : S.Pairwise fun x y => x.1 ≤ y.1
  out : OutRow w3 w.heap.size wO xs.length (fun _ => 0)
  below : Below w.heap.size w w3
  lt : wO < w3.heap.size
theorem srt_done {w w2 w3 : World} {xs : List Int} {wO g off k d : Nat} {qs : List (CoinV × Ht.Coin)} (hI : CoI w (coinsK xs xs.length) k (some ⟨g, off, none⟩) d qs w2) (hO : OutRow w2 w.heap.size wO xs.length (fun _ => 0))
    (hap : ∀ q ∈ qs, ∀ a, q.1.A = some a → a.block ≠ wO) (hg : g ≠ wO) (hc : k ≤ d) (hd : d ≤ maxLen) (hs : StbPost w2 g off k (qs.map (·.1)) w3) : ∃ S ps, SrtD w xs wO g off k d S ps w3 := by
  obtain ⟨l', hr, hp, hsr⟩ := hs
  obtain ⟨ps, e, hpp⟩ := perm_lift (fun p : CoinV × Ht.Coin => p.1) hp qs rfl
  have hgb := hI.own.lt g rfl
  have hob := hO.lt wO rfl
  have hB : Below w.heap.size w w3 := hI.below.grown hr.grown hI.below.size (fun b hb => by injection hb with hb; omega)
  have hrep : CReps w3 w3.heap.size ps := fun p hp2 => by
    have h1 := hI.reps p (hpp.mem_iff.1 hp2)
    refine ⟨h1.worth, h1.row.apart (fun b ⟨o, e⟩ hb => ⟨Nat.lt_of_lt_of_le hb hr.grown.size, hr.grown.block b hb (fun q => ?_)⟩)⟩
    injection q with q
    exact (hI.apart p (hpp.mem_iff.1 hp2) _ e).2.2 (by rw [q]; rfl)
  refine ⟨ps.map (·.2), ps, ⟨?_, hrep, rfl, fun p hp2 => hap p (hpp.mem_iff.1 hp2), fun a ha => ?_, Below.refl _ _⟩, ?_, ?_, ?_, hB, Nat.lt_of_lt_of_le hob.2 hr.grown.size⟩
  · rw [e]; exact hr.rows hc hd
  · injection ha with ha; rw [← ha]; exact hg
  · have := hpp.map (fun p : CoinV × Ht.Coin => p.2)
    rw [hI.eq, coinsK_all] at this; exact this
  · have h2 : (ps.map (·.1)).Pairwise fun x y => x.worth ≤ y.worth := by rw [e]; exact hsr
    rw [List.pairwise_map] at h2 ⊢
    refine List.Pairwise.imp_of_mem (fun {a b} ha hb h => ?_) h2
    have k1 := (hrep a ha).worth
    have k2 := (hrep b hb).worth
    omega
  · exact Owns.kept hO (fun b hb => by
      have : b = wO := by simpa [Value.ownBlock] using hb.symm
      subst this
      exact hr.grown.block b hob.2 (fun q => hg (by injection q with q; exact q.symm))) hr.grown.size
/-- Where the count stands: the lists are as they were; the lengths lie in block wO. -/
structure FnI (w4 : World) (base wO N : Nat) (f : Nat → Nat) (wr : World) : Prop where
  out : OutRow wr base wO N f
  grown : w4.grownBy wr (some wO)
  lt : wO < w4.heap.size
theorem FnI.rows {w4 wr : World} {base wO N : Nat} {f : Nat → Nat} (h : FnI w4 base wO N f wr) {α : Type} {enc : α → List Value} {k n c : Nat} {A : Option Addr} {xs : List α} (r : RowsIn w4 w4.heap.size A n c enc k xs) (hne : ∀ a, A = some a → a.block ≠ wO) : RowsIn wr wr.heap.size A n c enc k xs :=
  r.apart (fun b ⟨o, e⟩ hb => ⟨Nat.lt_of_lt_of_le hb h.grown.size, h.grown.block b hb (fun q => hne _ e (by injection q))⟩)
theorem FnI.alloc {w4 wr : World} {base wO N : Nat} {f : Nat → Nat} (h : FnI w4 base wO N f wr) (o : Obj) : FnI w4 base wO N f (wr.alloc o) :=
  ⟨h.out.alloc o, ⟨h.grown.os, h.grown.tape, h.grown.output, by have := h.grown.size; simp; omega, fun k hk hne => (Below.heap_alloc wr o k (Nat.lt_of_lt_of_le hk h.grown.size)).trans (h.grown.block k hk hne)⟩, h.lt⟩
theorem FnI.drewN {w4 wr : World} {base wO N : Nat} {f : Nat → Nat} (h : FnI w4 base wO N f wr) (m : Nat) : FnI w4 base wO N f (wr.drewN m) :=
  ⟨h.out.drewN m, ⟨h.grown.os, h.grown.tape, h.grown.output, h.grown.size, h.grown.block⟩, h.lt⟩
theorem FnI.set {w4 wr : World} {base wO N : Nat} {f f' : Nat → Nat} (h : FnI w4 base wO N f wr) {x : Nat} (v : Nat) (hv : f' x = v) (hf : ∀ y, y ≠ x → f' y = f y) : FnI w4 base wO N f' (wr.setCell ⟨wO, x, none⟩ (.int .i64 (v : Int))) :=
  ⟨h.out.set v hv hf, grown_step h.grown _ rfl _, h.lt⟩
/-- How often each place has come. -/
def cntT (l : List Ht.Coin) (t : Nat) (s : List Nat) (x : Nat) : Nat := Ht.cnt (l.take t) x + s.count x
theorem cntT_zero (l : List Ht.Coin) : cntT l 0 [] = fun _ => 0 := by funext x; simp [cntT, Ht.cnt]
theorem cntT_next {l : List Ht.Coin} {t : Nat} {y : Ht.Coin} (h : l[t]? = some y) : cntT l (t + 1) [] = cntT l t y.2 := by
  funext x
  unfold cntT
  rw [List.take_add_one, h, Option.toList_some, Ht.cnt_append, Ht.cnt_cons, Ht.cnt_nil]
  simp
theorem cntT_le (l : List Ht.Coin) (t : Nat) (s : List Nat) (x : Nat) : cntT l t s x ≤ (l.flatMap (·.2)).length + s.length := by
  unfold cntT Ht.cnt
  have h1 := List.count_le_length (a := x) (l := (l.take t).flatMap (·.2))
  have h2 := List.count_le_length (a := x) (l := s)
  have h3 : ((l.take t).flatMap (·.2)).length ≤ (l.flatMap (·.2)).length := by
    have e : l.flatMap (·.2) = (l.take t).flatMap (·.2) ++ (l.drop t).flatMap (·.2) := by rw [← List.flatMap_append, List.take_append_drop]
    rw [e, List.length_append]; omega
  omega
theorem flat_le (L : Nat) : ∀ l : List Ht.Coin, (∀ y ∈ l, y.2.length ≤ L) → (l.flatMap (·.2)).length ≤ l.length * L
  | [], _ => by simp
  | a :: l, h => by
    have h1 := flat_le L l (fun y hy => h y (by simp [hy]))
    have h2 := h a (by simp)
    rw [List.flatMap_cons, List.length_append, List.length_cons, Nat.add_mul, Nat.one_mul]; omega
theorem cntT_snoc {l : List Ht.Coin} {t : Nat} {s : List Nat} {i : Nat} : cntT l t (s ++ [i]) i = cntT l t s i + 1 ∧ ∀ y, y ≠ i → cntT l t (s ++ [i]) y = cntT l t s y := by
  unfold cntT
  refine ⟨by simp [List.count_append]; omega, fun y hy => ?_⟩
  rw [List.count_append, List.count_cons, List.count_nil]
  simp [Ne.symm hy]
end Go.Proofs.Ytoncakcfibahaaa
