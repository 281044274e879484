/- huff.pairs, walked. -/
import Derived.Test.YtoncakcfibahaaaHmA
import Derived.Test.YtoncakcfibahaaaHmB
import Derived.Test.YtoncakcfibahaaaHtQ
import Derived.Deep.DeepCutAuto
import Derived.Deep.RegionHeldLaw
import Derived.Test.YtoncakcfibahaaaHeld
namespace Go.Proofs.Ytoncakcfibahaaa
open Go.RowKit

structure CRep (w : World) (B : Nat) (v : CoinV) (y : Ht.Coin) : Prop where
  worth : v.worth = (y.1 : Int)
  row : RowsIn w B v.A v.n v.c (fun z => [.int .i64 z]) 1 (y.2.map (fun q : Nat => (q : Int)))
def CReps (w : World) (B : Nat) (ps : List (CoinV × Ht.Coin)) : Prop := ∀ p ∈ ps, CRep w B p.1 p.2
theorem CRep.below {w w' : World} {B : Nat} {v : CoinV} {y : Ht.Coin} (h : CRep w B v y) (hb : Below B w w') : CRep w' B v y := ⟨h.worth, h.row.below hb⟩
theorem CRep.more {w : World} {B B' : Nat} {v : CoinV} {y : Ht.Coin} (h : CRep w B v y) (hb : B ≤ B') : CRep w B' v y := ⟨h.worth, h.row.more hb⟩
/-- What the coins are: small. -/
structure CSml (M L : Nat) (ys : List Ht.Coin) : Prop where
  worth : ∀ y ∈ ys, y.1 ≤ M
  len : ∀ y ∈ ys, 0 < y.2.length ∧ y.2.length ≤ L
structure PrI (w : World) (ps : List (CoinV × Ht.Coin)) (k : Nat) (D : Option Addr) (d : Nat) (qs : List (CoinV × Ht.Coin)) (wr : World) : Prop where
  own : Owns wr w.heap.size 2 (.slice D k d) k ((qs.map (·.1)).flatMap CoinV.cells)
  reps : CReps wr wr.heap.size qs
  eq : qs.map (·.2) = Ht.prs ((ps.map (·.2)).take (2 * k))
  below : Below w.heap.size w wr
  apart : ∀ q ∈ qs, ∀ a, q.1.A = some a → w.heap.size ≤ a.block ∧ a.block < wr.heap.size ∧ (Value.slice D k d).ownBlock ≠ some a.block
structure PxB (wr : World) (x y : CoinV) (p q : Nat) (wx : World) : Prop where
  x0 : wx.cell? ⟨p, 0, none⟩ = some (.int .i64 x.worth)
  x1 : wx.cell? ⟨p, 1, none⟩ = some (.slice x.A x.n x.c)
  y0 : wx.cell? ⟨q, 0, none⟩ = some (.int .i64 y.worth)
  y1 : wx.cell? ⟨q, 1, none⟩ = some (.slice y.A y.n y.c)
  p_ : wr.heap.size ≤ p
  q_ : wr.heap.size ≤ q
  p_lt : p < wx.heap.size
  q_lt : q < wx.heap.size
  below : Below wr.heap.size wr wx
/-- Two coins in boxes of their own. -/
def PxI (wr : World) (x y : CoinV) (s5 s6 : Value) (wx : World) : Prop := ∃ p q, s5 = .pointer (some ⟨p, 0, none⟩) ∧ s6 = .pointer (some ⟨q, 0, none⟩) ∧ PxB wr x y p q wx
theorem box22 (w : World) (a b c d : Value) (t : TypeId) : ((w.alloc (.cells #[a, b] t)).alloc (.cells #[c, d] t)).drew.cell? ⟨w.heap.size, 0, none⟩ = some a ∧ ((w.alloc (.cells #[a, b] t)).alloc (.cells #[c, d] t)).drew.cell? ⟨w.heap.size, 1, none⟩ = some b ∧ ((w.alloc (.cells #[a, b] t)).alloc (.cells #[c, d] t)).drew.cell? ⟨w.heap.size + 1, 0, none⟩ = some c ∧ ((w.alloc (.cells #[a, b] t)).alloc (.cells #[c, d] t)).drew.cell? ⟨w.heap.size + 1, 1, none⟩ = some d := by
  have h2 : ((w.alloc (.cells #[a, b] t)).alloc (.cells #[c, d] t)).drew.heap[w.heap.size + 1]? = some (.cells #[c, d] t) := by
    have := heap_alloc_new (w.alloc (.cells #[a, b] t)) (.cells #[c, d] t)
    rw [World.size_alloc] at this; exact this
  have h1 : ((w.alloc (.cells #[a, b] t)).alloc (.cells #[c, d] t)).drew.heap[w.heap.size]? = some (.cells #[a, b] t) :=
    (Below.heap_alloc (w.alloc (.cells #[a, b] t)) (.cells #[c, d] t) w.heap.size (by simp)).trans (heap_alloc_new w _)
  exact ⟨by rw [cell_of_row _ _ _ _ _ _ h1]; rfl, by rw [cell_of_row _ _ _ _ _ _ h1]; rfl, by rw [cell_of_row _ _ _ _ _ _ h2]; rfl, by rw [cell_of_row _ _ _ _ _ _ h2]; rfl⟩
theorem PxI.one {wr : World} {x y : CoinV} {t : TypeId} : PxI wr x y (.pointer (some ⟨wr.heap.size, 0, none⟩)) (.pointer (some ⟨wr.heap.size + 1, 0, none⟩)) ((wr.alloc (.cells #[.int .i64 x.worth, .slice x.A x.n x.c] t)).alloc (.cells #[.int .i64 y.worth, .slice y.A y.n y.c] t)).drew := by
  obtain ⟨a, b, c, d⟩ := box22 wr (.int .i64 x.worth) (.slice x.A x.n x.c) (.int .i64 y.worth) (.slice y.A y.n y.c) t
  exact ⟨_, _, rfl, rfl, a, b, c, d, Nat.le_refl _, by omega, by simp; omega, by simp, (((Below.refl _ _).alloc (Nat.le_refl _) _).alloc (by simp) _).drew⟩
theorem PxI.two {wr : World} {x y : CoinV} {t : TypeId} : PxI wr x y (.pointer (some ⟨wr.heap.size + 1, 0, none⟩)) (.pointer (some ⟨wr.heap.size, 0, none⟩)) ((wr.alloc (.cells #[.int .i64 y.worth, .slice y.A y.n y.c] t)).alloc (.cells #[.int .i64 x.worth, .slice x.A x.n x.c] t)).drew := by
  obtain ⟨a, b, c, d⟩ := box22 wr (.int .i64 y.worth) (.slice y.A y.n y.c) (.int .i64 x.worth) (.slice x.A x.n x.c) t
  exact ⟨_, _, rfl, rfl, c, d, a, b, by omega, Nat.le_refl _, by simp, by simp; omega, (((Below.refl _ _).alloc (Nat.le_refl _) _).alloc (by simp) _).drew⟩
theorem keep4l {w0 W W' : World} {N p q : Nat} {v0 v1 v2 v3 : Value} {row : Option Nat} (n0 : row ≠ some p) (n1 : row ≠ some q) (h : W.cell? ⟨p, 0, none⟩ = some v0 ∧ W.cell? ⟨p, 1, none⟩ = some v1 ∧ W.cell? ⟨q, 0, none⟩ = some v2 ∧ W.cell? ⟨q, 1, none⟩ = some v3 ∧ N ≤ W.heap.size ∧ Below w0.heap.size w0 W) (hl : Left W W' w0.heap.size row) :
    W'.cell? ⟨p, 0, none⟩ = some v0 ∧ W'.cell? ⟨p, 1, none⟩ = some v1 ∧ W'.cell? ⟨q, 0, none⟩ = some v2 ∧ W'.cell? ⟨q, 1, none⟩ = some v3 ∧ N ≤ W'.heap.size ∧ Below w0.heap.size w0 W' := by
  obtain ⟨a, b, c, d, e, f⟩ := h
  exact ⟨hl.cell a n0, hl.cell b n0, hl.cell c n1, hl.cell d n1, Nat.le_trans e hl.size, hl.below (Nat.le_refl _) f⟩
def PrsPost (w : World) (ps : List (CoinV × Ht.Coin)) (n : Nat) (e : Ending) (w' : World) : Prop := ∃ D d qs, e = .returned (.slice D (n / 2) d) ∧ Owns w' w.heap.size 2 (.slice D (n / 2) d) (n / 2) ((qs.map (·.1)).flatMap CoinV.cells) ∧ CReps w' w'.heap.size qs ∧ qs.map (·.2) = Ht.prs (ps.map (·.2)) ∧ (∀ q ∈ qs, ∀ a, q.1.A = some a → w.heap.size ≤ a.block) ∧ Below w.heap.size w w'
structure PrX (w w3 : World) (D : Option Addr) (k d : Nat) (U : List Value) (c : Obj) : Prop where
  o : Owns (w3.alloc c) w.heap.size 2 (.slice D k d) k U
  b : w.heap.size ≤ (w3.alloc c).heap.size
  h : (w3.alloc c).heap[w3.heap.size]? = some c
  z : Below w.heap.size w (w3.alloc c)
theorem PrX.mk' {w w2 w3 : World} {D : Option Addr} {k d : Nat} {U : List Value} {c' : Obj} (hO : Owns w2 w.heap.size 2 (.slice D k d) k U) (hB : Below w.heap.size w w2) (hb : Below (w2.alloc c').drew.heap.size (w2.alloc c').drew w3) (c : Obj) : PrX w w3 D k d U c := by
  have h1 : Below w.heap.size w (w2.alloc c').drew := (hB.alloc hB.size _).drew
  have h2 : Below w.heap.size w w3 := h1.trans (hb.mono h1.size)
  exact ⟨((hO.alloc c').drew.fresh_below hb).alloc c, by have := h2.size; simp; omega, heap_alloc_new w3 _, h2.alloc h2.size _⟩
theorem one2 (a : Int) (E : Option Addr) (n e : Nat) : ∀ u ∈ (#[.int .i64 a, .slice E n e] : Array Value).toList, u.oneCell' = true := by simp [Value.oneCell']
theorem RowsIn.apart {α : Type} {w w' : World} {B B' n c k : Nat} {A : Option Addr} {enc : α → List Value} {xs : List α} (h : RowsIn w B A n c enc k xs) (hk : ∀ b, (∃ o, A = some ⟨b, o, none⟩) → b < B → b < B' ∧ w'.heap[b]? = w.heap[b]?) : RowsIn w' B' A n c enc k xs :=
  ⟨h.len, h.le, h.top, fun i x hx => by
    obtain ⟨b, o, e, hb, hc⟩ := h.at_ i x hx
    obtain ⟨h1, h2⟩ := hk b ⟨o, e⟩ hb
    exact ⟨b, o, e, h1, fun j u hu => by rw [World.cell?_of_block (w := w) (a := ⟨b, o + i * k + j, none⟩) h2]; exact hc j u hu⟩⟩
theorem prs_at : ∀ (k : Nat) (l : List Ht.Coin) (x y : Ht.Coin), l[2 * k]? = some x → l[2 * k + 1]? = some y → (Ht.prs l)[k]? = some (x.1 + y.1, x.2 ++ y.2)
  | _, [], x, y, h, _ => by simp at h
  | k, [a], x, y, _, h => by simp at h
  | 0, a :: b :: l, x, y, h1, h2 => by
    simp at h1 h2; subst h1; subst h2; simp [Ht.prs]
  | k + 1, a :: b :: l, x, y, h1, h2 => by
    rw [show 2 * (k + 1) = 2 * k + 1 + 1 by omega] at h1 h2
    simp only [List.getElem?_cons_succ] at h1 h2
    rw [Ht.prs, List.getElem?_cons_succ]
    exact prs_at k l x y h1 h2
theorem pr_step {w wr w2 w3 w10 : World} {ps : List (CoinV × Ht.Coin)} {k d : Nat} {D : Option Addr} {qs : List (CoinV × Ht.Coin)} {x y : CoinV} {yx yy : Ht.Coin} {p q : Nat} {c' c'' : Obj} {E : Option Addr} {e' : Nat} {A5 : Option Addr} {c5 : Nat}
    (hI : PrI w ps k D d qs wr) (hx : PxB wr x y p q w2) (hb : Below (w2.alloc c').drew.heap.size (w2.alloc c').drew w3)
    (hE : Owns w3 (w2.heap.size + 1) 1 (.slice E (x.n + y.n) e') (x.n + y.n) ((yx.2.map (fun q : Nat => (q : Int)) ++ yy.2.map (fun q : Nat => (q : Int))).map (Value.int .i64)))
    (hz : Below w.heap.size w (w3.alloc c''))
    (ho : Owns w10 w.heap.size 2 (.slice A5 (k + 1) c5) (k + 1) ((qs.map (·.1)).flatMap CoinV.cells ++ (#[.int .i64 (x.worth + y.worth), .slice E (x.n + y.n) e'] : Array Value).toList)) (hl : Left (w3.alloc c'') w10 w.heap.size (Value.slice D k d).ownBlock)
    (hn : Value.ownBlock (.slice A5 (k + 1) c5) = (Value.slice D k d).ownBlock ∨ ∀ b, Value.ownBlock (.slice A5 (k + 1) c5) = some b → (w3.alloc c'').heap.size ≤ b)
    (e1 : (ps.map (·.2))[2 * k]? = some yx) (e2 : (ps.map (·.2))[2 * k + 1]? = some yy) (hw1 : x.worth = (yx.1 : Int)) (hw2 : y.worth = (yy.1 : Int)) :
    PrI w ps (k + 1) A5 c5 (qs ++ [(⟨x.worth + y.worth, E, x.n + y.n, e'⟩, (yx.1 + yy.1, yx.2 ++ yy.2))]) w10 := by
  have s1 := hI.below.size
  have s2 := hx.below.size
  have s3 := hb.size
  have s3' : (w2.alloc c').drew.heap.size = w2.heap.size + 1 := World.size_alloc _ _
  have s4 : (w3.alloc c'').heap.size = w3.heap.size + 1 := World.size_alloc _ _
  have s5 := hl.size
  have hD : ∀ b, (Value.slice D k d).ownBlock = some b → w.heap.size ≤ b ∧ b < wr.heap.size := hI.own.lt
  have hold : ∀ b, b < wr.heap.size → (Value.slice D k d).ownBlock ≠ some b → w10.heap[b]? = wr.heap[b]? := fun b hb1 hb2 => by
    rw [hl.grown.block b (by omega) (fun e => hb2 e.symm), Below.heap_alloc w3 c'' b (by omega), hb.block b (by omega)]
    show (w2.alloc c').heap[b]? = _
    rw [Below.heap_alloc w2 c' b (by omega), hx.below.block b hb1]
  have hEE := hE.lt
  have hEn : ∀ b, (Value.slice E (x.n + y.n) e').ownBlock = some b → w2.heap.size + 1 ≤ b ∧ b < w3.heap.size := hEE
  have hE10 : Owns w10 (w2.heap.size + 1) 1 (.slice E (x.n + y.n) e') (x.n + y.n) ((yx.2.map (fun q : Nat => (q : Int)) ++ yy.2.map (fun q : Nat => (q : Int))).map (Value.int .i64)) := by
    refine (hE.alloc c'').left hl ?_
    cases h : (Value.slice E (x.n + y.n) e').ownBlock with
    | none => exact .inl rfl
    | some b =>
      right; intro e
      have a1 := hEn b h
      have a2 := hD b e.symm
      omega
  refine ⟨?_, fun r hr => ?_, ?_, hl.below (Nat.le_refl _) hz, fun r hr a ha => ?_⟩
  · rw [List.map_append, List.flatMap_append]
    simpa [CoinV.cells] using ho
  · rcases List.mem_append.1 hr with hr | hr
    · have h1 := hI.reps r hr
      refine ⟨h1.worth, h1.row.apart (fun b ⟨o, e⟩ hbl => ⟨by omega, hold b hbl (fun e3 => ?_)⟩)⟩
      have := hI.apart r hr _ e
      exact this.2.2 e3
    · rw [List.mem_singleton] at hr
      subst hr
      refine ⟨by simp only [hw1, hw2]; omega, ?_⟩
      have h2 := hE10
      rw [← flat_one (fun z : Int => Value.int .i64 z)] at h2
      have h3 := Owns.rows (enc := fun z : Int => [Value.int .i64 z]) (k := 1) (fun _ => rfl) (by decide) h2
      simpa using h3
  · rw [List.map_append, hI.eq, ← Ht.take_prs, ← Ht.take_prs, List.take_add_one, prs_at k _ yx yy e1 e2]
    rfl
  · rcases List.mem_append.1 hr with hr | hr
    · obtain ⟨h1, h1', h2⟩ := hI.apart r hr a ha
      refine ⟨h1, by omega, fun e => ?_⟩
      rcases hn with hn | hn
      · rw [hn] at e; exact h2 e
      · have := hn _ e
        omega
    · rw [List.mem_singleton] at hr
      subst hr
      simp only at ha
      subst ha
      have h4 := hEn a.block rfl
      refine ⟨by omega, by omega, fun e => ?_⟩
      rcases hn with hn | hn
      · rw [hn] at e
        have := hD _ e; omega
      · have := hn _ e; omega
set_option maxRecDepth 20000 in
set_option maxHeartbeats 1000000 in
theorem prs_any (A : Option Addr) (n c : Nat) (ps : List (CoinV × Ht.Coin)) (M L : Nat) (w : World) (r : RowsIn w w.heap.size A n c CoinV.cells 2 (ps.map (·.1))) (hr : CReps w w.heap.size ps) (hs : CSml M L (ps.map (·.2))) (hM : M ≤ 1000000000000) (hL : L ≤ 100000) (hn : n ≤ 20000) :
    Calls Try.prog 14 #[.slice A n c] w (PrsPost w ps n) := by
  have hl := r.len
  rw [List.length_map] at hl
  have HR := Lib.hid r
  have HRR := Lib.hid hr
  have HS := Lib.hid hs
  have HL := Lib.hid hl
  clear r hr hs hl
  go_enter Try.func14, Try.ntmps14
  go_wp2
  go_loopw [3, 4] (fun u v wr => ∃ (k : Nat) (D : Option Addr) (d i : Nat) (qs : List (CoinV × Ht.Coin)), u = .slice D k d ∧ v = .int .i64 i ∧ Hid (i = 2 * k) ∧ i ≤ n ∧ Hid (PrI w ps k D d qs wr)) (fun _ v _ => n + 2 - (intOf v).toNat)
  case atStart => exact ⟨0, none, 0, 0, [], rfl, rfl, rfl, Nat.zero_le _, ⟨Owns.nil _ _ _, fun p hp => by simp at hp, by simp [Ht.prs], Below.refl _ _, fun q hq => by simp at hq⟩⟩
  case round =>
    obtain ⟨k, D, d, i, qs, rfl, rfl, hi, hin, HI⟩ := hrel
    by_cases hlt : i + 1 < n
    · obtain ⟨j, hj⟩ : ∃ j, j = i + 1 := ⟨_, rfl⟩
      have hli : i < ps.length := by rw [HL.out]; omega
      have hlj : j < ps.length := by rw [HL.out]; omega
      have e1 := List.getElem?_eq_getElem hli
      have e2 := List.getElem?_eq_getElem hlj
      generalize ps[i] = px at *
      generalize ps[j] = py at *
      obtain ⟨x, yx⟩ := px
      obtain ⟨y, yy⟩ := py
      have e1' : (ps.map (·.1))[i]? = some x := by rw [List.getElem?_map, e1]; rfl
      have e2' : (ps.map (·.1))[j]? = some y := by rw [List.getElem?_map, e2]; rfl
      obtain ⟨b, o, rfl, hbB, cx0, cx1⟩ := coinCells (HR.out.below HI.out.below) e1'
      obtain ⟨b', o', he, hbB', cy0, cy1⟩ := coinCells (HR.out.below HI.out.below) e2'
      cases he
      have h1 : (i : Int) + 1 < (n : Int) := by omega
      have h2 : (i : Int) < (n : Int) := by omega
      have h3 : (j : Int) < (n : Int) := by omega
      have h4 : (0 : Int) ≤ (i : Int) := by omega
      have h5 : (0 : Int) ≤ (j : Int) := by omega
      have wj : IntKind.i64.wrap ((i : Int) + 1) = (j : Int) := by rw [IntWalk.i64_in _ (by omega)]; omega
      have hsz := HI.out.below.size
      have hbl : b < wr.heap.size := by omega
      have HJ := Lib.hid hj
      have E1 := Lib.hid e1
      have E2 := Lib.hid e2
      clear hj e1 e2 e1' e2' hli hlj hbB'
      go_wp2
      go_cut [5, 6] (fun s5 s6 wx => PxI wr x y s5 s6 wx)
      case first =>
        go_region
        all_goals
          go_wp2
          go_meet
          case rel => first | exact PxI.one | exact PxI.two
      case rest =>
        obtain ⟨p, q, rfl, rfl, hx⟩ := hcut
        obtain ⟨w2, rfl⟩ : ∃ z : World, z = wc := ⟨_, rfl⟩
        have hb2 : Below w.heap.size w w2 := HI.out.below.trans (hx.below.mono HI.out.below.size)
        have hrx := HRR.out (x, yx) (List.mem_of_getElem? E1.out)
        have hry := HRR.out (y, yy) (List.mem_of_getElem? E2.out)
        have hsx := HS.out.len yx (List.mem_map.2 ⟨_, List.mem_of_getElem? E1.out, rfl⟩)
        have hsy := HS.out.len yy (List.mem_map.2 ⟨_, List.mem_of_getElem? E2.out, rfl⟩)
        have hwx := HS.out.worth yx (List.mem_map.2 ⟨_, List.mem_of_getElem? E1.out, rfl⟩)
        have hwy := HS.out.worth yy (List.mem_map.2 ⟨_, List.mem_of_getElem? E2.out, rfl⟩)
        have hnx := hrx.row.len
        have hny := hry.row.len
        rw [List.length_map] at hnx hny
        have hx1 := hrx.worth
        have hy1 := hry.worth
        have ww : IntKind.i64.wrap (x.worth + y.worth) = x.worth + y.worth := IntWalk.i64_in _ (by simp only at hx1 hy1; omega)
        have HCC : Hid (Calls Try.prog 17 #[.slice (some ⟨w2.heap.size, 0, none⟩) 2 2] (w2.alloc (.cells #[.slice x.A x.n x.c, .slice y.A y.n y.c] 22)).drew fun e w' => ∃ E e', e = .returned (.slice E (x.n + y.n) e') ∧ Owns w' (w2.heap.size + 1) 1 (.slice E (x.n + y.n) e') (x.n + y.n) ((yx.2.map (fun q : Nat => (q : Int)) ++ yy.2.map (fun q : Nat => (q : Int))).map (Value.int .i64)) ∧ Below (w2.alloc (.cells #[.slice x.A x.n x.c, .slice y.A y.n y.c] 22)).drew.heap.size (w2.alloc (.cells #[.slice x.A x.n x.c, .slice y.A y.n y.c] 22)).drew w') := by
          have hB : Below w.heap.size w (w2.alloc (.cells #[.slice x.A x.n x.c, .slice y.A y.n y.c] 22)).drew := (hb2.alloc hb2.size _).drew
          have hz : (w2.alloc (.cells #[.slice x.A x.n x.c, .slice y.A y.n y.c] 22)).drew.heap.size = w2.heap.size + 1 := World.size_alloc _ _
          have hh : (w2.alloc (.cells #[.slice x.A x.n x.c, .slice y.A y.n y.c] 22)).drew.heap[w2.heap.size]? = some (.cells #[.slice x.A x.n x.c, .slice y.A y.n y.c] 22) := heap_alloc_new w2 _
          have h := concat_any w2.heap.size 0 2 x.A x.n x.c _ y.A y.n y.c _ _ (by rw [cell_of_row _ _ _ _ _ _ hh]; rfl) (by rw [cell_of_row _ _ _ _ _ _ hh]; rfl) (by rw [hz]; omega) ((hrx.row.below hB).more hB.size) ((hry.row.below hB).more hB.size) (by simp only at hnx; omega) (by simp only at hnx hny; omega)
          exact h.mono fun e w' ⟨E, e', q1, q2, q3⟩ => ⟨E, e', q1, by rw [hz] at q2; exact q2, q3⟩
        have hS : w2.cell? ⟨p, 0, none⟩ = some (.int .i64 x.worth) ∧ w2.cell? ⟨p, 1, none⟩ = some (.slice x.A x.n x.c) ∧ w2.cell? ⟨q, 0, none⟩ = some (.int .i64 y.worth) ∧ w2.cell? ⟨q, 1, none⟩ = some (.slice y.A y.n y.c) ∧ w2.heap.size ≤ w2.heap.size ∧ Below w.heap.size w w2 := ⟨hx.x0, hx.x1, hx.y0, hx.y1, Nat.le_refl _, hb2⟩
        have lp := hx.p_lt
        have lq := hx.q_lt
        have hD : (Value.slice D k d).ownBlock ≠ some p ∧ (Value.slice D k d).ownBlock ≠ some q := ⟨fun e => by have := (HI.out.own.lt _ e).2; have := hx.p_; omega, fun e => by have := (HI.out.own.lt _ e).2; have := hx.q_; omega⟩
        have HD := Lib.hid hD
        have HX := Lib.hid hx
        have HB2 := Lib.hid hb2
        have HN1 := Lib.hid hnx
        have HN2 := Lib.hid hny
        have HW1 := Lib.hid hx1
        have HW2 := Lib.hid hy1
        have G3 : Hid (k + 1 ≤ maxLen ∧ (k + 1) * 32 ≤ 140737488355328) := by have := hi.out; unfold maxLen Hid; omega
        have G4 : Hid (0 < 2) := by simp [Hid]
        have HO2 : Hid (Owns w2 w.heap.size 2 (.slice D k d) k ((qs.map (·.1)).flatMap CoinV.cells)) := HI.out.own.fresh_below hx.below
        clear hrx hry hsx hsy hwx hwy hnx hny hx1 hy1 hb2 hx hD
        generalize hU : (qs.map (·.1)).flatMap CoinV.cells = U at *
        go_wp2
        go_region_held_law (fun W => W.cell? ⟨p, 0, none⟩ = some (.int .i64 x.worth) ∧ W.cell? ⟨p, 1, none⟩ = some (.slice x.A x.n x.c) ∧ W.cell? ⟨q, 0, none⟩ = some (.int .i64 y.worth) ∧ W.cell? ⟨q, 1, none⟩ = some (.slice y.A y.n y.c) ∧ w2.heap.size ≤ W.heap.size ∧ Below w.heap.size w W)
          (first | assumption | exact keepc4d (by assumption) | exact keepc4b lp lp lq lq (by assumption) (by assumption) | exact keepc4b lp lp lq lq (by assumption) ((Below.refl _ _).alloc (Nat.le_refl _) _) | exact keep4l HD.out.1 HD.out.2 (by assumption) (by assumption))
          (first
            | (go_at_call 17; refine HCC.out.mono ?_; rintro e w3 ⟨E, e', rfl, hoE, hbE⟩; have HOE := Lib.hid hoE; have HBE := Lib.hid hbE; have GX := Lib.hid (PrX.mk' HO2.out HB2.out hbE (.cells #[.int .i64 (x.worth + y.worth), .slice E (x.n + y.n) e'] 34)); clear hoE hbE)
            | (refine step_app1 (P := Try.prog) (e := 34) (z := .agg #[.int .i64 0, .slice none 0 0]) (size := 2) (bytes := 32) (base := w.heap.size) rfl (.tmp 23) (.tmp 36) 32 rfl Try.underlying32 info_coin rfl G4.out D k d U (by simp [go_sem]) GX.out.o GX.out.b w3.heap.size 1 #[.int .i64 (x.worth + y.worth), .slice E (x.n + y.n) e'] 34 (by simp [go_sem]) GX.out.h rfl (one2 _ _ _ _) G3.out.1 G3.out.2 ?_; intro A5 c5 w10 hown10 hl10 hn10))
        all_goals
          have hI2 := pr_step HI.out HX.out HBE.out HOE.out GX.out.z (by rw [hU]; exact hown10) hl10 hn10 (show (ps.map (·.2))[2 * k]? = some yx by rw [← hi.out, List.getElem?_map, E1.out]; rfl) (show (ps.map (·.2))[2 * k + 1]? = some yy by rw [← hi.out, ← HJ.out, List.getElem?_map, E2.out]; rfl) HW1.out HW2.out
          have HI2 := Lib.hid hI2
          clear hI2 hown10 hl10 hn10
          go_wp2
          go_roundw
          case rel => exact ⟨k + 1, A5, c5, i + 2, _, rfl, by go_num, Lib.hid (by have := hi.out; omega), by omega, HI2⟩
          case measure => (simp [intOf]; omega)
    · have hfin := HI.out.eq
      have hk : n / 2 = k := by have := hi.out; omega
      rw [← Ht.take_prs, List.take_of_length_le (by rw [Ht.len_prs, List.length_map, HL.out]; omega)] at hfin
      have HF := Lib.hid hfin
      have HK := Lib.hid hk
      clear hfin hk
      have h1 : ¬ (i : Int) + 1 < (n : Int) := by omega
      go_wp2
      go_ret
      exact ⟨D, d, qs, by rw [HK.out] <;> rfl, by rw [HK.out]; exact HI.out.own, HI.out.reps, HF.out, fun q hq a ha => (HI.out.apart q hq a ha).1, HI.out.below⟩
end Go.Proofs.Ytoncakcfibahaaa
