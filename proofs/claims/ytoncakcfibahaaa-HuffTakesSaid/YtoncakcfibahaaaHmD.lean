/- Coins that a call collects in a row of its own: one more. -/
import Derived.Test.YtoncakcfibahaaaHmC
import Derived.Test.YtoncakcfibahaaaHtR
namespace Go.Proofs.Ytoncakcfibahaaa
open Go.RowKit

structure CoI (w : World) (ys : List Ht.Coin) (k : Nat) (D : Option Addr) (d : Nat) (qs : List (CoinV × Ht.Coin)) (wr : World) : Prop where
  own : Owns wr w.heap.size 2 (.slice D k d) k ((qs.map (·.1)).flatMap CoinV.cells)
  reps : CReps wr wr.heap.size qs
  eq : qs.map (·.2) = ys
  below : Below w.heap.size w wr
  apart : ∀ q ∈ qs, ∀ a, q.1.A = some a → w.heap.size ≤ a.block ∧ a.block < wr.heap.size ∧ (Value.slice D k d).ownBlock ≠ some a.block
theorem CoI.step {w wr w3 w10 : World} {ys : List Ht.Coin} {k d : Nat} {D : Option Addr} {qs : List (CoinV × Ht.Coin)} {B : Nat} {W : Nat} {E : Option Addr} {m e' : Nat} {zs : List Nat} {A5 : Option Addr} {c5 : Nat}
    (hI : CoI w ys k D d qs wr) (hb : Below wr.heap.size wr w3) (hB : wr.heap.size ≤ B) (hE : Owns w3 B 1 (.slice E m e') m ((zs.map (fun q : Nat => (q : Int))).map (Value.int .i64)))
    (ho : Owns w10 w.heap.size 2 (.slice A5 (k + 1) c5) (k + 1) ((qs.map (·.1)).flatMap CoinV.cells ++ (#[.int .i64 (W : Int), .slice E m e'] : Array Value).toList)) (hl : Left w3 w10 w.heap.size (Value.slice D k d).ownBlock)
    (hn : Value.ownBlock (.slice A5 (k + 1) c5) = (Value.slice D k d).ownBlock ∨ ∀ b, Value.ownBlock (.slice A5 (k + 1) c5) = some b → w3.heap.size ≤ b) :
    CoI w (ys ++ [(W, zs)]) (k + 1) A5 c5 (qs ++ [(⟨(W : Int), E, m, e'⟩, (W, zs))]) w10 := by
  have s1 := hI.below.size
  have s3 := hb.size
  have s5 := hl.size
  have hz : Below w.heap.size w w3 := hI.below.trans (hb.mono s1)
  have hD : ∀ b, (Value.slice D k d).ownBlock = some b → w.heap.size ≤ b ∧ b < wr.heap.size := hI.own.lt
  have hold : ∀ b, b < wr.heap.size → (Value.slice D k d).ownBlock ≠ some b → w10.heap[b]? = wr.heap[b]? := fun b hb1 hb2 => by
    rw [hl.grown.block b (by omega) (fun e => hb2 e.symm), hb.block b (by omega)]
  have hEn : ∀ b, (Value.slice E m e').ownBlock = some b → B ≤ b ∧ b < w3.heap.size := hE.lt
  have hE10 : Owns w10 B 1 (.slice E m e') m ((zs.map (fun q : Nat => (q : Int))).map (Value.int .i64)) := by
    refine hE.left hl ?_
    cases h : (Value.slice E m e').ownBlock with
    | none => exact .inl rfl
    | some b =>
      right; intro e
      have a1 := hEn b h
      have a2 := hD b e.symm
      omega
  refine ⟨?_, fun r hr => ?_, by rw [List.map_append, hI.eq]; rfl, hl.below (Nat.le_refl _) hz, fun r hr a ha => ?_⟩
  · rw [List.map_append, List.flatMap_append]
    simpa [CoinV.cells] using ho
  · rcases List.mem_append.1 hr with hr | hr
    · have h1 := hI.reps r hr
      refine ⟨h1.worth, h1.row.apart (fun b ⟨o, e⟩ hbl => ⟨by omega, hold b hbl (fun e3 => ?_)⟩)⟩
      have := hI.apart r hr _ e
      exact this.2.2 e3
    · rw [List.mem_singleton] at hr
      subst hr
      refine ⟨rfl, ?_⟩
      have h2 := hE10
      rw [← flat_one (fun z : Int => Value.int .i64 z)] at h2
      exact Owns.rows (enc := fun z : Int => [Value.int .i64 z]) (k := 1) (fun _ => rfl) (by decide) h2
  · rcases List.mem_append.1 hr with hr | hr
    · obtain ⟨h1, h1', h2⟩ := hI.apart r hr a ha
      refine ⟨h1, by omega, fun e => ?_⟩
      rcases hn with hn | hn
      · rw [hn] at e; exact h2 e
      · have := hn _ e
        omega
    · rw [List.mem_singleton] at hr
      subst hr
      simp only at ha
      subst ha
      have h4 := hEn a.block rfl
      refine ⟨by omega, by omega, fun e => ?_⟩
      rcases hn with hn | hn
      · rw [hn] at e
        have := hD _ e; omega
      · have := hn _ e; omega
theorem CoI.alloc {w wr : World} {ys : List Ht.Coin} {k d : Nat} {D : Option Addr} {qs : List (CoinV × Ht.Coin)} (h : CoI w ys k D d qs wr) {o : Obj} : CoI w ys k D d qs (wr.alloc o) :=
  ⟨h.own.alloc o, fun p hp => ((h.reps p hp).below ((Below.refl _ _).alloc (Nat.le_refl _) o)).more (by simp), h.eq, h.below.alloc h.below.size o, fun q hq a ha => by
    obtain ⟨h1, h2, h3⟩ := h.apart q hq a ha
    exact ⟨h1, by simp; omega, h3⟩⟩
/-- The coins of the signs that come among the first k. -/
def coinsK (xs : List Int) (k : Nat) : List Ht.Coin := ((List.range k).filter (fun i => decide (0 < xs.getD i 0))).map (fun i => ((xs.getD i 0).toNat, [i]))
theorem coinsK_all (xs : List Int) : coinsK xs xs.length = Ht.sing xs := rfl
theorem coinsK_yes {xs : List Int} {k : Nat} {x : Int} (h : xs[k]? = some x) (hx : 0 < x) : coinsK xs (k + 1) = coinsK xs k ++ [(x.toNat, [k])] := by
  unfold coinsK
  have e : xs.getD k 0 = x := by rw [List.getD_eq_getElem?_getD, h]; rfl
  rw [List.range_succ, List.filter_append, List.map_append, List.filter_cons_of_pos (by show decide (0 < xs.getD k 0) = true; rw [e]; exact decide_eq_true hx), List.filter_nil, List.map_cons, List.map_nil, e]
theorem coinsK_no {xs : List Int} {k : Nat} {x : Int} (h : xs[k]? = some x) (hx : ¬ 0 < x) : coinsK xs (k + 1) = coinsK xs k := by
  unfold coinsK
  have e : xs.getD k 0 = x := by rw [List.getD_eq_getElem?_getD, h]; rfl
  rw [List.range_succ, List.filter_append, List.map_append, List.filter_cons_of_neg (by show ¬ decide (0 < xs.getD k 0) = true; rw [e]; simpa using hx), List.filter_nil, List.map_nil, List.append_nil]
theorem coinsK_len (xs : List Int) (k : Nat) : (coinsK xs k).length ≤ k := by
  unfold coinsK
  rw [List.length_map]
  exact Nat.le_trans (List.length_filter_le _ _) (by simp)
def lenE (xs : List Int) (most : Int) : Int := if freqE xs ≠ 0 then freqE xs else if most < 1 ∨ 15 < most then 1 else if 2 ^ most.toNat < ((Ht.posL xs).length : Int) then 6 else 0
def LensPost (xs : List Int) (most : Int) (w : World) (e : Ending) (w' : World) : Prop :=
  (lenE xs most ≠ 0 ∧ e = .returned (.tuple #[.slice none 0 0, .int .i64 (lenE xs most)]) ∧ Below w.heap.size w w') ∨
  (lenE xs most = 0 ∧ ∃ D d out, e = .returned (.tuple #[.slice D xs.length d, .int .i64 0]) ∧ Owns w' w.heap.size 1 (.slice D xs.length d) xs.length (out.map (Value.int .i64)) ∧ Ht.Good xs most.toNat out ∧ Below w.heap.size w w')
end Go.Proofs.Ytoncakcfibahaaa
