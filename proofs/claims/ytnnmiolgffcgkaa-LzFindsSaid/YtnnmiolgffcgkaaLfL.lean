/- lz.longest, walked. -/
import Derived.Test.YtnnmiolgffcgkaaLfO
import Derived.BigQuiet
import Derived.BigRegion
import Derived.WalkMore
namespace Go.Proofs.Ytnnmiolgffcgkaa
open Go.RowKit Go.PlainAid Go.WideMaps Go.MapKept
open Go.ChangeMaps (setBlock)

/-- Where longest stands at place i: f what long says, g what dist says. -/
structure LgI (s : ByteArray) (A D r B i : Nat) (f g : Nat → Nat) (w0 w : World) : Prop where
  long : w.heap[A]? = some (.cells (rowV s.size f) 3 (0, 0))
  dist : w.heap[D]? = some (.cells (rowV s.size g) 3 (0, 0))
  ad : A ≠ D
  lo : w0.heap.size ≤ A ∧ w0.heap.size ≤ D ∧ w0.heap.size ≤ r
  hi : A < B ∧ D < B ∧ A ≠ r ∧ D ≠ r
  map : ∃ es clock, MapI s B r i w es clock
  below : Below w0.heap.size w0 w
theorem grown_alloc' (w : World) (o : Obj) : w.grownBy (w.alloc o) none := ⟨rfl, rfl, rfl, by simp, fun k hk _ => Below.heap_alloc w o k hk⟩
theorem grown_cell' (w : World) (a : Addr) (u : Value) : w.grownBy (w.setCell a u) (some a.block) := ⟨rfl, rfl, rfl, by simp, fun k _ hne => Below.heap_setCell w a u k (fun e => hne (by rw [e]))⟩
theorem grown_drewN' (w : World) (n : Nat) : w.grownBy (w.drewN n) none := ⟨rfl, rfl, rfl, Nat.le_refl _, fun _ _ _ => rfl⟩
theorem LgI.go {s : ByteArray} {A D r B i : Nat} {f g : Nat → Nat} {w0 w w' : World} (h : LgI s A D r B i f g w0 w) {row : Option Nat} (hg : w.grownBy w' row) (hr : ∀ k, row = some k → B ≤ k) (_hk : w'.heap[r]? = w.heap[r]?) (hm : ∃ es clock, MapI s B r i w' es clock) : LgI s A D r B i f g w0 w' :=
  have hA := (Array.getElem?_eq_some_iff.1 h.long).1
  have hD := (Array.getElem?_eq_some_iff.1 h.dist).1
  { long := by rw [hg.block A hA (fun e => by have := hr A e.symm; have := h.hi.1; omega)]; exact h.long
    dist := by rw [hg.block D hD (fun e => by have := hr D e.symm; have := h.hi.2.1; omega)]; exact h.dist
    ad := h.ad, lo := h.lo, hi := h.hi, map := hm
    below := h.below.grown hg h.below.size (fun k e => by have := hr k e; have := h.hi.1; have := h.lo.1; omega) }
/-- Before the j-th of the places of the same three bytes. -/
def LgJ (s : ByteArray) (i j L : Nat) : Prop := (L = 0 ∨ (3 ≤ L ∧ L ≤ 66 ∧ Rp s i L)) ∧ ∀ q, q < j → ∀ a, (occ s i i)[q]? = some a → ∀ n, 3 ≤ n → n ≤ 66 → i + n ≤ s.size → same s a i n → n ≤ L
theorem LgJ.lgS {s : ByteArray} {i L : Nat} (h : LgJ s i (occ s i i).length L) : LgS s i L :=
  ⟨h.1, fun n h3 h66 hr => by
    obtain ⟨hsz, k, hk, hs⟩ := hr
    have hm : k ∈ occ s i i := mem_occ.2 ⟨hk, same_le hs h3⟩
    obtain ⟨q, hq, e⟩ := List.mem_iff_getElem.1 hm
    exact h.2 q hq k (by rw [List.getElem?_eq_getElem hq, e]) n h3 h66 hsz hs⟩
theorem LgJ.zero (s : ByteArray) (i : Nat) : LgJ s i 0 0 := ⟨.inl rfl, fun _ hq => absurd hq (Nat.not_lt_zero _)⟩
/-- n is as far as a and i agree. -/
def Far (s : ByteArray) (a i n : Nat) : Prop := 3 ≤ n ∧ n ≤ 66 ∧ i + n ≤ s.size ∧ same s a i n ∧ ∀ m, m ≤ 66 → i + m ≤ s.size → same s a i m → m ≤ n
theorem LgJ.old {s : ByteArray} {i j L a n : Nat} (h : LgJ s i j L) (ha : (occ s i i)[j]? = some a) (hn : Far s a i n) (hlt : n < L) : LgJ s i (j + 1) L :=
  ⟨h.1, fun q hq b hb m h3 h66 hsz hs => by
    by_cases e : q = j
    · subst e
      rw [ha] at hb; injection hb with hb; subst hb
      have := hn.2.2.2.2 m h66 hsz hs
      omega
    · exact h.2 q (by omega) b hb m h3 h66 hsz hs⟩
theorem LgJ.new {s : ByteArray} {i j L a n : Nat} (h : LgJ s i j L) (ha : (occ s i i)[j]? = some a) (hn : Far s a i n) (hle : ¬ n < L) : LgJ s i (j + 1) n :=
  have hai : a < i := (mem_occ.1 (List.mem_of_getElem? ha)).1
  ⟨.inr ⟨hn.1, hn.2.1, hn.2.2.1, a, hai, hn.2.2.2.1⟩, fun q hq b hb m h3 h66 hsz hs => by
    by_cases e : q = j
    · subst e
      rw [ha] at hb; injection hb with hb; subst hb
      exact hn.2.2.2.2 m h66 hsz hs
    · have := h.2 q (by omega) b hb m h3 h66 hsz hs; omega⟩

theorem own_form {w : World} {B : Nat} {v : Value} {n : Nat} {xs : List Value} (h : w.ownsRow B 3 1 v n xs) : ∃ ao cap, v = .slice ao n cap ∧ (0 < n → ∃ g, ao = some ⟨g, 0, none⟩) := by
  rcases h.2 with ⟨rfl, rfl⟩ | ⟨g, cap, cur, rfl, _⟩
  · have := h.1; simp at this; subst this; exact ⟨none, 0, rfl, fun h => by omega⟩
  · exact ⟨_, cap, rfl, fun _ => ⟨g, rfl⟩⟩
def triC (s : ByteArray) (i : Nat) : Array Value := #[.int .u8 (bt s i), .int .u8 (bt s (i + 1)), .int .u8 (bt s (i + 2))]
structure LgQ (s : ByteArray) (A D r B i : Nat) (f g : Nat → Nat) (w0 w : World) (ao : Option Addr) (cap bx : Nat) : Prop where
  base : LgI s A D r B i f g w0 w
  own : w.ownsRow B 3 1 (.slice ao (occ s i i).length cap) (occ s i i).length (ocV s i i)
  box : w.heap[bx]? = some (.cells (triC s i) 138 (0, 0))
  bxB : B ≤ bx
theorem LgI.drewN {s : ByteArray} {A D r B i : Nat} {f g : Nat → Nat} {w0 w : World} (h : LgI s A D r B i f g w0 w) (q : Nat) : LgI s A D r B i f g w0 (w.drewN q) := by
  obtain ⟨es, c, hm⟩ := h.map
  exact { h with map := ⟨es, c, hm.kept (grown_drewN' w q) (by simp)⟩, below := h.below.drewN }
theorem LgI.alloc {s : ByteArray} {A D r B i : Nat} {f g : Nat → Nat} {w0 w : World} (h : LgI s A D r B i f g w0 w) (o : Obj) : LgI s A D r B i f g w0 (w.alloc o) := by
  obtain ⟨es, c, hm⟩ := h.map
  exact h.go (grown_alloc' w o) (by simp) (Below.heap_alloc w o r (Array.getElem?_eq_some_iff.1 hm.here).1) ⟨es, c, hm.kept (grown_alloc' w o) (by simp)⟩
theorem LgQ.drewN {s : ByteArray} {A D r B i : Nat} {f g : Nat → Nat} {w0 w : World} {ao : Option Addr} {cap bx : Nat} (h : LgQ s A D r B i f g w0 w ao cap bx) (q : Nat) : LgQ s A D r B i f g w0 (w.drewN q) ao cap bx :=
  { base := h.base.drewN q, own := h.own.kept (grown_drewN' w q) (Classical.em _), box := h.box, bxB := h.bxB }
/-- long[i], dist[i] = n, m. -/
theorem LgQ.put {s : ByteArray} {A D r B i : Nat} {f g : Nat → Nat} {w0 w : World} {ao : Option Addr} {cap bx : Nat} (h : LgQ s A D r B i f g w0 w ao cap bx) (n m : Nat) :
    LgQ s A D r B i (updN f i n) (updN g i m) w0 ((w.setCell ⟨A, i, none⟩ (.int .i64 (n : Int))).setCell ⟨D, i, none⟩ (.int .i64 (m : Int))) ao cap bx := by
  obtain ⟨es, c, hm⟩ := h.base.map
  have g1 := grown_cell' w ⟨A, i, none⟩ (.int .i64 (n : Int))
  have g2 := grown_cell' (w.setCell ⟨A, i, none⟩ (.int .i64 (n : Int))) ⟨D, i, none⟩ (.int .i64 (m : Int))
  have hA := h.base.hi.1
  have hD := h.base.hi.2.1
  have l1 : (w.setCell ⟨A, i, none⟩ (.int .i64 (n : Int))).heap[A]? = some (.cells (rowV s.size (updN f i n)) 3 (0, 0)) := (row_store (j := i) (v := .int .i64 (n : Int)) h.base.long).trans (by rw [rowV_set])
  have d1 : (w.setCell ⟨A, i, none⟩ (.int .i64 (n : Int))).heap[D]? = some (.cells (rowV s.size g) 3 (0, 0)) := (Below.heap_setCell _ _ _ D (fun e => h.base.ad e.symm)).trans h.base.dist
  have hbx : bx ≠ A ∧ bx ≠ D := by have := h.bxB; omega
  have hrow : ∀ X, X < B → Value.ownBlock (.slice ao (occ s i i).length cap) = none ∨ Value.ownBlock (.slice ao (occ s i i).length cap) ≠ some X := fun X hX => by
    cases hv : Value.ownBlock (.slice ao (occ s i i).length cap) with
    | none => exact .inl rfl
    | some q => exact .inr (fun e => by injection e with e; have := (h.own.lt q hv).1; omega)
  exact { base := { long := (Below.heap_setCell _ _ _ A h.base.ad).trans l1
                    dist := (row_store (j := i) (v := .int .i64 (m : Int)) d1).trans (by rw [rowV_set])
                    ad := h.base.ad, lo := h.base.lo, hi := h.base.hi
                    map := ⟨es, c, (hm.kept g1 (fun k e => by injection e with e; subst e; exact ⟨hA, h.base.hi.2.2.1⟩)).kept g2 (fun k e => by injection e with e; subst e; exact ⟨hD, h.base.hi.2.2.2⟩)⟩
                    below := (h.base.below.setCell (p := ⟨A, i, none⟩) h.base.lo.1 _).setCell (p := ⟨D, i, none⟩) h.base.lo.2.1 _ }
          own := (h.own.kept g1 (hrow A hA)).kept g2 (hrow D hD)
          box := (Below.heap_setCell _ _ _ bx hbx.2).trans ((Below.heap_setCell _ _ _ bx hbx.1).trans h.box)
          bxB := h.bxB }
/-- The next place. -/
theorem LgI.next {s : ByteArray} {A D r B i i' : Nat} {f g : Nat → Nat} {w0 w w' : World} (h : LgI s A D r B i f g w0 w) (hA : w'.heap[A]? = w.heap[A]?) (hD : w'.heap[D]? = w.heap[D]?) (hb : Below w0.heap.size w0 w') {es : Array MapEntry} {c : Nat} (hm : MapI s B r i' w' es c) : LgI s A D r B i' f g w0 w' :=
  { long := hA.trans h.long, dist := hD.trans h.dist, ad := h.ad, lo := h.lo, hi := h.hi, map := ⟨es, c, hm⟩, below := hb }
theorem LgQ.at_ {s : ByteArray} {A D r B i : Nat} {f g : Nat → Nat} {w0 w : World} {ao : Option Addr} {cap bx : Nat} (h : LgQ s A D r B i f g w0 w ao cap bx) {j : Nat} (hj : j < (occ s i i).length) : ∃ (a q : Nat), ao = some ⟨q, 0, none⟩ ∧ w.cell? ⟨q, j, none⟩ = some (.int .i64 (a : Int)) ∧ (occ s i i)[j]? = some a ∧ a < i ∧ same s a i 3 := by
  obtain ⟨ao', cap', e, hq⟩ := own_form h.own
  injection e with e1 e2 e3
  subst e1
  obtain ⟨q, rfl⟩ := hq (by omega)
  have ha : (occ s i i)[j]? = some (occ s i i)[j] := List.getElem?_eq_getElem hj
  have hm := mem_occ.1 (List.mem_of_getElem? ha)
  refine ⟨(occ s i i)[j], q, rfl, ?_, ha, hm.1, hm.2⟩
  rw [h.own.cellAt j (by omega)]
  unfold ocV
  rw [List.getElem?_map, ha]; rfl
theorem far_of {s : ByteArray} {a i n : Nat} (h3 : 3 ≤ n) (h66 : n ≤ 66) (hsz : i + n ≤ s.size) (hs : same s a i n) (hend : n = 66 ∨ i + n = s.size ∨ bt s (a + n) ≠ bt s (i + n)) : Far s a i n :=
  ⟨h3, h66, hsz, hs, fun m m66 msz ms => by
    rcases Nat.lt_or_ge n m with hlt | hge
    · rcases hend with h | h | h
      · omega
      · omega
      · exact absurd (ms n hlt) h
    · exact hge⟩
theorem tri_get {s : ByteArray} {i : Nat} (h0 : i < s.size) (h1 : i + 1 < s.size) (h2 : i + 2 < s.size) : (Value.agg #[.int .u8 (((s[i]'h0).toNat : Nat) : Int), .int .u8 (((s[i + 1]'h1).toNat : Nat) : Int), .int .u8 (((s[i + 2]'h2).toNat : Nat) : Int)]) = tri s i := by
  unfold tri; rw [get_bt s i h0, get_bt s (i + 1) h1, get_bt s (i + 2) h2]
theorem triC_get {s : ByteArray} {i : Nat} (h0 : i < s.size) (h1 : i + 1 < s.size) (h2 : i + 2 < s.size) : (#[Value.int .u8 (((s[i]'h0).toNat : Nat) : Int), Value.int .u8 (((s[i + 1]'h1).toNat : Nat) : Int), Value.int .u8 (((s[i + 2]'h2).toNat : Nat) : Int)] : Array Value) = triC s i := by
  unfold triC; rw [get_bt s i h0, get_bt s (i + 1) h1, get_bt s (i + 2) h2]

theorem LgI.fin {s : ByteArray} {A D r B i : Nat} {f g : Nat → Nat} {w0 wr W2 W3 W4 : World} (h : LgI s A D r B i f g w0 wr) (o : Obj) (hg2 : (wr.alloc o).grownBy W2 (some r)) {v0 : Value} {n : Nat} {xs : List Value} (ho2 : W2.ownsRow B 3 1 v0 n xs) (hg3 : W2.grownBy W3 v0.ownBlock) (hg4 : W3.grownBy W4 (some r))
    {es : Array MapEntry} {c : Nat} (hm : MapI s B r (i + 1) W4 es c) : LgI s A D r B (i + 1) f g w0 W4 := by
  have s1 : wr.heap.size ≤ (wr.alloc o).heap.size := by simp
  have s2 := hg2.size
  have s3 := hg3.size
  have hk : ∀ k, k < wr.heap.size → k ≠ r → k < B → W4.heap[k]? = wr.heap[k]? := fun k h1 h2 h3 =>
    (hg4.block k (by omega) (fun e => by injection e with e; exact h2 e)).trans ((hg3.block k (by omega) (fun e => by have := (ho2.lt k e.symm).1; omega)).trans ((hg2.block k (by omega) (fun e => by injection e with e; exact h2 e)).trans (Below.heap_alloc wr o k h1)))
  have hA := (Array.getElem?_eq_some_iff.1 h.long).1
  have hD := (Array.getElem?_eq_some_iff.1 h.dist).1
  have hb := h.below.size
  have hl := h.lo
  have hh := h.hi
  refine h.next (hk A hA hh.2.2.1 hh.1) (hk D hD hh.2.2.2 hh.2.1) ?_ hm
  exact (((h.below.alloc hb o).grown hg2 (by omega) (fun k e => by injection e with e; omega)).grown hg3 (by omega) (fun k e => by have := (ho2.lt k e).1; omega)).grown hg4 (by omega) (fun k e => by injection e with e; omega)
theorem MapI.alloc {s : ByteArray} {B r i : Nat} {w : World} {es : Array MapEntry} {clock : Nat} (h : MapI s B r i w es clock) (o : Obj) : MapI s B r i (w.alloc o) es clock := h.kept (grown_alloc' w o) (by simp)

def LgPost (s : ByteArray) (w : World) (e : Ending) (w' : World) : Prop := ∃ (A D : Nat) (f g : Nat → Nat), e = .returned (.tuple #[.slice (some ⟨A, 0, none⟩) s.size s.size, .slice (some ⟨D, 0, none⟩) s.size s.size]) ∧
  A ≠ D ∧ w'.heap[A]? = some (.cells (rowV s.size f) 3 (0, 0)) ∧ w'.heap[D]? = some (.cells (rowV s.size g) 3 (0, 0)) ∧ (∀ i, i < s.size → LgS s i (f i)) ∧ w.heap.size ≤ A ∧ w.heap.size ≤ D ∧ Below w.heap.size w w'

set_option maxRecDepth 20000 in
set_option maxHeartbeats 4000000 in
theorem longest_any (s : ByteArray) (w : World) (hs : s.size ≤ 512) : Calls Try.prog 61 #[.string s] w (LgPost s w) := by
  have hmk := mk_i64L s.size (by omega)
  go_enter Try.func61, Try.ntmps61
  go_wp2_with fail
  go_region_law (fail)
  · clear hmk
    have hmm := @run_makeMap Try.prog
    have HI : Hid (LgI s w.heap.size (w.heap.size + 1) (w.heap.size + 1 + 1) (w.heap.size + 1 + 1 + 1) 0 (fun _ => 0) (fun _ => 0) w (((w.alloc (.cells (numR s.size (fun _ => 0)) 3)).alloc (.cells (numR s.size (fun _ => 0)) 3)).drew.alloc (.map #[] 0))) := by
      have e1 : (((w.alloc (.cells (numR s.size (fun _ => 0)) 3)).alloc (.cells (numR s.size (fun _ => 0)) 3)).drew.alloc (.map #[] 0)).heap[w.heap.size]? = some (.cells (rowV s.size (fun _ => 0)) 3 (0, 0)) := by
        rw [Below.heap_alloc _ _ _ (by simp; omega)]
        show ((w.alloc (.cells (numR s.size (fun _ => 0)) 3)).alloc (.cells (numR s.size (fun _ => 0)) 3)).heap[w.heap.size]? = _
        rw [Below.heap_alloc _ _ _ (by simp), heap_alloc_new w _]; rfl
      have e2 : (((w.alloc (.cells (numR s.size (fun _ => 0)) 3)).alloc (.cells (numR s.size (fun _ => 0)) 3)).drew.alloc (.map #[] 0)).heap[w.heap.size + 1]? = some (.cells (rowV s.size (fun _ => 0)) 3 (0, 0)) := by
        rw [Below.heap_alloc _ _ _ (by simp)]
        have := heap_alloc_new (w.alloc (.cells (numR s.size (fun _ => 0)) 3)) (.cells (numR s.size (fun _ => 0)) 3)
        simp at this ⊢; exact this
      have e3 : (((w.alloc (.cells (numR s.size (fun _ => 0)) 3)).alloc (.cells (numR s.size (fun _ => 0)) 3)).drew.alloc (.map #[] 0)).heap[w.heap.size + 1 + 1]? = some (.map #[] 0) := by
        have := heap_alloc_new (((w.alloc (.cells (numR s.size (fun _ => 0)) 3)).alloc (.cells (numR s.size (fun _ => 0)) 3)).drew) (.map #[] 0)
        simp at this ⊢; exact this
      exact { long := by assumption, dist := by assumption, ad := by omega, lo := by omega, hi := by omega
              map := ⟨#[], 0, { here := e3, rlt := by omega, ble := by simp, st := ⟨by simp, by simp, by simp⟩, ents := by simp, has := fun k hk => by omega, apart := by simp }⟩
              below := (((Below.refl _ _).alloc (Nat.le_refl _) _).alloc (by simp) _).drew.alloc (by simp; omega) _ }
    go_wp2
    clear hmm
    go_loopw [5] (fun v5 wr => ∃ (i : Nat) (f g : Nat → Nat), (i + 2 ≤ s.size ∨ i = 0) ∧ v5 = .int .i64 i ∧ Hid (LgI s w.heap.size (w.heap.size + 1) (w.heap.size + 1 + 1) (w.heap.size + 1 + 1 + 1) i f g w wr) ∧ Hid (∀ k, k < i → LgS s k (f k)) ∧ Hid (∀ k, i ≤ k → f k = 0)) (fun v5 _ => s.size - (intOf v5).toNat)
    case atStart => exact ⟨0, fun _ => 0, fun _ => 0, .inr rfl, rfl, HI.out, fun k hk => absurd hk (Nat.not_lt_zero _), fun _ _ => rfl⟩
    case round =>
      clear HI
      obtain ⟨i, f, g, hi, rfl, HI, HF, HZ⟩ := hrel
      have i0 : IntKind.i64.wrap ((i : Int) + 3) = (i : Int) + 3 := by rw [IntKind.wrap_i64]; omega
      by_cases hlt : i + 3 ≤ s.size
      · have i1 : (i : Int) + 3 ≤ (s.size : Int) := by omega
        have i2 : (i : Int) < (s.size : Int) := by omega
        have i3 : (i : Int) + 1 < (s.size : Int) := by omega
        have i4 : (i : Int) + 2 < (s.size : Int) := by omega
        have i5 : IntKind.i64.wrap ((i : Int) + 1) = (i : Int) + 1 := by rw [IntKind.wrap_i64]; omega
        have i6 : IntKind.i64.wrap ((i : Int) + 2) = (i : Int) + 2 := by rw [IntKind.wrap_i64]; omega
        have i7 : (0 : Int) ≤ (i : Int) + 1 := by omega
        have i8 : (0 : Int) ≤ (i : Int) + 2 := by omega
        have i9 : i < s.size := by omega
        have i10 : i + 1 < s.size := by omega
        have i11 : i + 2 < s.size := by omega
        go_wp2
        have i12 : ((i : Int) + 2).toNat = i + 2 := by omega
        go_step3
        go_wp2
        go_region
        obtain ⟨W0, hW0⟩ : ∃ z : World, z = (wr.alloc (.cells #[Value.int .u8 (((s[i]'i9).toNat : Nat) : Int), Value.int .u8 (((s[i + 1]'i10).toNat : Nat) : Int), Value.int .u8 (((s[i + 2]'i11).toNat : Nat) : Int)] 138)).drew := ⟨_, rfl⟩
        rw [← hW0]
        have HTG := Lib.hid (tri_get i9 i10 i11)
        obtain ⟨es, clock, hm⟩ := HI.out.map
        have hbx0 : W0.heap[wr.heap.size]? = some (.cells (triC s i) 138 (0, 0)) := by rw [hW0, ← triC_get i9 i10 i11]; exact heap_alloc_new wr _
        have HI0 : LgI s w.heap.size (w.heap.size + 1) (w.heap.size + 1 + 1) (w.heap.size + 1 + 1 + 1) i f g w W0 := by rw [hW0]; exact (HI.out.alloc _).drewN 1
        obtain ⟨es0, clock0, hm0⟩ := HI0.map
        obtain ⟨v, hlook, hown⟩ := hm0.look
        obtain ⟨ao, cap, rfl, _⟩ := own_form hown
        have HQ : Hid (LgQ s w.heap.size (w.heap.size + 1) (w.heap.size + 1 + 1) (w.heap.size + 1 + 1 + 1) i f g w W0 ao cap wr.heap.size) := ⟨HI0, hown, hbx0, hm.ble⟩
        have HLK := Lib.hid hlook
        have c0 : W0.cell? ⟨wr.heap.size, 0, none⟩ = some (.int .u8 (bt s i)) := row_cell hbx0 0
        have c1 : W0.cell? ⟨wr.heap.size, 1, none⟩ = some (.int .u8 (bt s (i + 1))) := row_cell hbx0 1
        have c2 : W0.cell? ⟨wr.heap.size, 2, none⟩ = some (.int .u8 (bt s (i + 2))) := row_cell hbx0 2
        clear hbx0 hm hm0 HI0 hlook hown hW0
        have HL0 : Hid (LgJ s i 0 (f i)) := by rw [HZ.out i (Nat.le_refl _)]; exact LgJ.zero s i
        generalize wr.heap.size = bx at *
        clear HTG
        go_wp2
        go_step3
        go_wp2_with (refine wpList_lookup_run rfl rfl rfl rfl HLK.out ?_)
        clear HLK
        go_loopw [8, 9, 40] (fun _ _ v40 wq => ∃ (j : Nat) (f2 g2 : Nat → Nat), j ≤ (occ s i i).length ∧ v40 = .int .i64 j ∧ Hid (LgQ s w.heap.size (w.heap.size + 1) (w.heap.size + 1 + 1) (w.heap.size + 1 + 1 + 1) i f2 g2 w wq ao cap bx) ∧ Hid (∀ k, k ≠ i → f2 k = f k) ∧ Hid (LgJ s i j (f2 i))) (fun _ _ v40 _ => (occ s i i).length - (intOf v40).toNat)
        case atStart => exact ⟨0, f, g, Nat.zero_le _, rfl, HQ.out, fun _ _ => rfl, HL0.out⟩
        case round =>
          clear HQ HL0 c0 c1 c2 HI
          obtain ⟨j, f2, g2, hj, rfl, HQ, HE, HJ⟩ := hrel
          by_cases hjl : j < (occ s i i).length
          · have j1 : (j : Int) < ((occ s i i).length : Int) := by omega
            obtain ⟨a, q, rfl, hc, ha, hai, hsa⟩ := HQ.out.at_ hjl
            have hol := occ_len s i i
            have j2 : IntKind.i64.wrap ((j : Int) + 1) = (j : Int) + 1 := by rw [IntKind.wrap_i64]; omega
            have HA := Lib.hid ha
            have HS3 := Lib.hid hsa
            have r0 := row_cell HQ.out.base.long i
            rw [rowV_get _ i9] at r0
            have r1 := row_cold HQ.out.base.long i
            have r2 := row_cold HQ.out.base.dist i
            have r3 := row_cell HQ.out.base.dist i
            rw [rowV_get _ i9] at r3
            clear ha hsa
            go_wp2
            go_loopw [9] (fun v9 wn => ∃ n p : Nat, 3 ≤ n ∧ n ≤ 66 ∧ i + n ≤ s.size ∧ v9 = .int .i64 n ∧ Hid (same s a i n) ∧ wn = wr.drewN p) (fun v9 _ => 66 - (intOf v9).toNat)
            case atStart => exact ⟨3, 0, Nat.le_refl _, by omega, by omega, rfl, HS3.out, rfl⟩
            case round =>
              obtain ⟨n, p, hn3, hn66, hnz, rfl, HS, rfl⟩ := hrel
              by_cases h66 : n < 66
              · have n1 : (n : Int) < 66 := by omega
                have n2 : IntKind.i64.wrap ((i : Int) + (n : Int)) = (i : Int) + (n : Int) := by rw [IntKind.wrap_i64]; omega
                by_cases hz : i + n < s.size
                · have n3 : (i : Int) + (n : Int) < (s.size : Int) := by omega
                  have n4 : IntKind.i64.wrap ((a : Int) + (n : Int)) = (a : Int) + (n : Int) := by rw [IntKind.wrap_i64]; omega
                  have n5 : (0 : Int) ≤ (a : Int) + (n : Int) := by omega
                  have n6 : (0 : Int) ≤ (i : Int) + (n : Int) := by omega
                  have n7 : (a : Int) + (n : Int) < (s.size : Int) := by omega
                  have n8 : ((a : Int) + (n : Int)).toNat = a + n := by omega
                  have n9 : ((i : Int) + (n : Int)).toNat = i + n := by omega
                  have n10 : a + n < s.size := by omega
                  by_cases hb : bt s (a + n) = bt s (i + n)
                  · have HS2 : Hid (same s a i (n + 1)) := fun k hk => by
                      by_cases e : k = n
                      · subst e; exact hb
                      · exact HS.out k (by omega)
                    have e1 : (((s[a + n]'n10).toNat : Nat) : Int) = (((s[i + n]'hz).toNat : Nat) : Int) := by rw [get_bt s (a + n) n10, get_bt s (i + n) hz]; exact hb
                    have n11 : IntKind.i64.wrap ((n : Int) + 1) = (n : Int) + 1 := by rw [IntKind.wrap_i64]; omega
                    clear hb
                    go_wp2
                    go_quiet (fail)
                    go_wp2
                    go_roundw
                    case rel => exact ⟨n + 1, p + nq, by omega, by omega, by omega, by go_num, HS2.out, by first | rfl | exact drewN_two wr p nq⟩
                    case measure => first | omega | (simp [intOf]; try omega)
                  · have HFA := Lib.hid (far_of hn3 hn66 hnz HS.out (.inr (.inr hb)))
                    have e1 : ¬ (((s[a + n]'n10).toNat : Nat) : Int) = (((s[i + n]'hz).toNat : Nat) : Int) := by rw [get_bt s (a + n) n10, get_bt s (i + n) hz]; exact hb
                    clear hb
                    by_cases hl : n < f2 i
                    · have l1 : (n : Int) < (f2 i : Int) := by omega
                      have HN := Lib.hid (HJ.out.old HA.out HFA.out hl)
                      go_wp2
                      go_quiet (fail)
                      go_wp2
                      have HQ2 := Lib.hid (HQ.out.drewN (p + nq))
                      go_roundw
                      case rel => exact ⟨j + 1, f2, g2, by omega, by go_num, HQ2.out, HE.out, HN.out⟩
                      case measure => (simp [intOf]; try omega)
                    · have l1 : ¬ (n : Int) < (f2 i : Int) := by omega
                      have HN := Lib.hid (HJ.out.new HA.out HFA.out hl)
                      have l2 : IntKind.i64.wrap ((i : Int) - (a : Int)) = ((i - a : Nat) : Int) := by rw [IntKind.wrap_i64]; omega
                      go_wp2
                      go_quiet (fail)
                      go_wp2
                      have HQ3 := Lib.hid ((HQ.out.drewN (p + nq)).put n (i - a))
                      go_roundw
                      case rel =>
                        refine ⟨j + 1, updN f2 i n, updN g2 i (i - a), by omega, by go_num, HQ3.out, fun k hk => ?_, ?_⟩
                        · rw [updN_ne _ hk]; exact HE.out k hk
                        · show LgJ s i (j + 1) (updN f2 i n i)
                          rw [updN_at]; exact HN.out
                      case measure => (simp [intOf]; try omega)
                · have n3 : ¬ (i : Int) + (n : Int) < (s.size : Int) := by omega
                  have HFA := Lib.hid (far_of hn3 hn66 hnz HS.out (.inr (.inl (by omega))))
                  by_cases hl : n < f2 i
                  · have l1 : (n : Int) < (f2 i : Int) := by omega
                    have HN := Lib.hid (HJ.out.old HA.out HFA.out hl)
                    go_wp2
                    have HQ2 := Lib.hid (HQ.out.drewN (p))
                    go_roundw
                    case rel => exact ⟨j + 1, f2, g2, by omega, by go_num, HQ2.out, HE.out, HN.out⟩
                    case measure => (simp [intOf]; try omega)
                  · have l1 : ¬ (n : Int) < (f2 i : Int) := by omega
                    have HN := Lib.hid (HJ.out.new HA.out HFA.out hl)
                    have l2 : IntKind.i64.wrap ((i : Int) - (a : Int)) = ((i - a : Nat) : Int) := by rw [IntKind.wrap_i64]; omega
                    go_wp2
                    have HQ3 := Lib.hid ((HQ.out.drewN (p)).put n (i - a))
                    go_roundw
                    case rel =>
                      refine ⟨j + 1, updN f2 i n, updN g2 i (i - a), by omega, by go_num, HQ3.out, fun k hk => ?_, ?_⟩
                      · rw [updN_ne _ hk]; exact HE.out k hk
                      · show LgJ s i (j + 1) (updN f2 i n i)
                        rw [updN_at]; exact HN.out
                    case measure => (simp [intOf]; try omega)
              · have n1 : ¬ (n : Int) < 66 := by omega
                have HFA := Lib.hid (far_of hn3 hn66 hnz HS.out (.inl (by omega)))
                by_cases hl : n < f2 i
                · have l1 : (n : Int) < (f2 i : Int) := by omega
                  have HN := Lib.hid (HJ.out.old HA.out HFA.out hl)
                  go_wp2
                  have HQ2 := Lib.hid (HQ.out.drewN (p))
                  go_roundw
                  case rel => exact ⟨j + 1, f2, g2, by omega, by go_num, HQ2.out, HE.out, HN.out⟩
                  case measure => (simp [intOf]; try omega)
                · have l1 : ¬ (n : Int) < (f2 i : Int) := by omega
                  have HN := Lib.hid (HJ.out.new HA.out HFA.out hl)
                  have l2 : IntKind.i64.wrap ((i : Int) - (a : Int)) = ((i - a : Nat) : Int) := by rw [IntKind.wrap_i64]; omega
                  go_wp2
                  have HQ3 := Lib.hid ((HQ.out.drewN (p)).put n (i - a))
                  go_roundw
                  case rel =>
                    refine ⟨j + 1, updN f2 i n, updN g2 i (i - a), by omega, by go_num, HQ3.out, fun k hk => ?_, ?_⟩
                    · rw [updN_ne _ hk]; exact HE.out k hk
                    · show LgJ s i (j + 1) (updN f2 i n i)
                      rw [updN_at]; exact HN.out
                  case measure => (simp [intOf]; try omega)
          · obtain rfl : j = (occ s i i).length := by omega
            have j1 : ¬ (((occ s i i).length : Nat) : Int) < ((occ s i i).length : Int) := by omega
            have c0 : wr.cell? ⟨bx, 0, none⟩ = some (.int .u8 (bt s i)) := row_cell HQ.out.box 0
            have c1 : wr.cell? ⟨bx, 1, none⟩ = some (.int .u8 (bt s (i + 1))) := row_cell HQ.out.box 1
            have c2 : wr.cell? ⟨bx, 2, none⟩ = some (.int .u8 (bt s (i + 2))) := row_cell HQ.out.box 2
            obtain ⟨es1, clock1, hm1⟩ := HQ.out.base.map
            obtain ⟨v0, st, W2, hrun, hg2, hsz, ho2, hstep⟩ := (hm1.alloc (.cells #[.int .i64 (i : Int)] 3)).step
            have HRUN := Lib.hid hrun
            have HG2 := Lib.hid hg2
            have HO2 := Lib.hid ho2
            have HST0 := Lib.hid hstep
            have HBS : Hid ((w.heap.size + 1 + 1 + 1) ≤ W2.heap.size) := by simp only [Hid]; rw [hsz]; have := hm1.ble; simp; omega
            have HBX : Hid (W2.cell? ⟨wr.heap.size, 0, none⟩ = some (.int .i64 (i : Int))) := by
              have hn : wr.heap.size ≠ (w.heap.size + 1 + 1) := fun e => by have := (Array.getElem?_eq_some_iff.1 hm1.here).1; omega
              exact hg2.cell (row_cell (heap_alloc_new wr (.cells #[.int .i64 (i : Int)] 3)) 0) (fun e => by injection e with e; exact hn e)
            have hol := occ_len s i i
            have HLS : Hid (LgS s i (f2 i)) := HJ.out.lgS
            clear hm1 hrun hg2 hsz ho2 hstep
            go_wp2_with (first
              | (refine wpList_entry_run rfl rfl rfl rfl HRUN.out ?_)
              | (refine wpList_app_at rfl rfl Try.underlying32 info_i64L rfl HO2.out rfl HBS.out rfl HBX.out rfl (by unfold maxLen; omega) (by omega) ?_; intro v' W3 h3 hg3 hb3; obtain ⟨W4, es', clock', hst, hg4, hm4⟩ := HST0.out v' W3 h3 hg3 hb3; have HST := Lib.hid hst; have HFI := Lib.hid (HQ.out.base.fin _ HG2.out HO2.out hg3 hg4 hm4); clear h3 hg3 hb3 hst hg4 hm4)
              | (refine wpList_store_run rfl rfl rfl rfl rfl HST.out rfl ?_))
            go_roundw
            case rel =>
              refine ⟨i + 1, f2, g2, by omega, by go_num, HFI.out, fun k hk => ?_, fun k hk => ?_⟩
              · by_cases e : k = i
                · subst e; exact HLS.out
                · rw [HE.out k e]; exact HF.out k (by omega)
              · rw [HE.out k (by omega)]; exact HZ.out k (by omega)
            case measure => (simp [intOf]; try omega)
      · have i1 : ¬ (i : Int) + 3 ≤ (s.size : Int) := by omega
        have HE : Hid (∀ k, k < s.size → LgS s k (f k)) := fun k hk => by
          by_cases e : k < i
          · exact HF.out k e
          · rw [HZ.out k (by omega)]; exact LgS.end_ (by omega)
        go_wp2
        go_ret2
        exact ⟨_, _, f, g, rfl, HI.out.ad, HI.out.long, HI.out.dist, HE.out, HI.out.lo.1, HI.out.lo.2.1, HI.out.below⟩
  · clear hmk
    have hmm := @run_makeMap Try.prog
    have HI : Hid (LgI s (w.heap.size + 1) w.heap.size (w.heap.size + 1 + 1) (w.heap.size + 1 + 1 + 1) 0 (fun _ => 0) (fun _ => 0) w (((w.alloc (.cells (numR s.size (fun _ => 0)) 3)).alloc (.cells (numR s.size (fun _ => 0)) 3)).drew.alloc (.map #[] 0))) := by
      have e1 : (((w.alloc (.cells (numR s.size (fun _ => 0)) 3)).alloc (.cells (numR s.size (fun _ => 0)) 3)).drew.alloc (.map #[] 0)).heap[w.heap.size]? = some (.cells (rowV s.size (fun _ => 0)) 3 (0, 0)) := by
        rw [Below.heap_alloc _ _ _ (by simp; omega)]
        show ((w.alloc (.cells (numR s.size (fun _ => 0)) 3)).alloc (.cells (numR s.size (fun _ => 0)) 3)).heap[w.heap.size]? = _
        rw [Below.heap_alloc _ _ _ (by simp), heap_alloc_new w _]; rfl
      have e2 : (((w.alloc (.cells (numR s.size (fun _ => 0)) 3)).alloc (.cells (numR s.size (fun _ => 0)) 3)).drew.alloc (.map #[] 0)).heap[w.heap.size + 1]? = some (.cells (rowV s.size (fun _ => 0)) 3 (0, 0)) := by
        rw [Below.heap_alloc _ _ _ (by simp)]
        have := heap_alloc_new (w.alloc (.cells (numR s.size (fun _ => 0)) 3)) (.cells (numR s.size (fun _ => 0)) 3)
        simp at this ⊢; exact this
      have e3 : (((w.alloc (.cells (numR s.size (fun _ => 0)) 3)).alloc (.cells (numR s.size (fun _ => 0)) 3)).drew.alloc (.map #[] 0)).heap[w.heap.size + 1 + 1]? = some (.map #[] 0) := by
        have := heap_alloc_new (((w.alloc (.cells (numR s.size (fun _ => 0)) 3)).alloc (.cells (numR s.size (fun _ => 0)) 3)).drew) (.map #[] 0)
        simp at this ⊢; exact this
      exact { long := by assumption, dist := by assumption, ad := by omega, lo := by omega, hi := by omega
              map := ⟨#[], 0, { here := e3, rlt := by omega, ble := by simp, st := ⟨by simp, by simp, by simp⟩, ents := by simp, has := fun k hk => by omega, apart := by simp }⟩
              below := (((Below.refl _ _).alloc (Nat.le_refl _) _).alloc (by simp) _).drew.alloc (by simp; omega) _ }
    go_wp2
    clear hmm
    go_loopw [5] (fun v5 wr => ∃ (i : Nat) (f g : Nat → Nat), (i + 2 ≤ s.size ∨ i = 0) ∧ v5 = .int .i64 i ∧ Hid (LgI s (w.heap.size + 1) w.heap.size (w.heap.size + 1 + 1) (w.heap.size + 1 + 1 + 1) i f g w wr) ∧ Hid (∀ k, k < i → LgS s k (f k)) ∧ Hid (∀ k, i ≤ k → f k = 0)) (fun v5 _ => s.size - (intOf v5).toNat)
    case atStart => exact ⟨0, fun _ => 0, fun _ => 0, .inr rfl, rfl, HI.out, fun k hk => absurd hk (Nat.not_lt_zero _), fun _ _ => rfl⟩
    case round =>
      clear HI
      obtain ⟨i, f, g, hi, rfl, HI, HF, HZ⟩ := hrel
      have i0 : IntKind.i64.wrap ((i : Int) + 3) = (i : Int) + 3 := by rw [IntKind.wrap_i64]; omega
      by_cases hlt : i + 3 ≤ s.size
      · have i1 : (i : Int) + 3 ≤ (s.size : Int) := by omega
        have i2 : (i : Int) < (s.size : Int) := by omega
        have i3 : (i : Int) + 1 < (s.size : Int) := by omega
        have i4 : (i : Int) + 2 < (s.size : Int) := by omega
        have i5 : IntKind.i64.wrap ((i : Int) + 1) = (i : Int) + 1 := by rw [IntKind.wrap_i64]; omega
        have i6 : IntKind.i64.wrap ((i : Int) + 2) = (i : Int) + 2 := by rw [IntKind.wrap_i64]; omega
        have i7 : (0 : Int) ≤ (i : Int) + 1 := by omega
        have i8 : (0 : Int) ≤ (i : Int) + 2 := by omega
        have i9 : i < s.size := by omega
        have i10 : i + 1 < s.size := by omega
        have i11 : i + 2 < s.size := by omega
        go_wp2
        have i12 : ((i : Int) + 2).toNat = i + 2 := by omega
        go_step3
        go_wp2
        go_region
        obtain ⟨W0, hW0⟩ : ∃ z : World, z = (wr.alloc (.cells #[Value.int .u8 (((s[i]'i9).toNat : Nat) : Int), Value.int .u8 (((s[i + 1]'i10).toNat : Nat) : Int), Value.int .u8 (((s[i + 2]'i11).toNat : Nat) : Int)] 138)).drew := ⟨_, rfl⟩
        rw [← hW0]
        have HTG := Lib.hid (tri_get i9 i10 i11)
        obtain ⟨es, clock, hm⟩ := HI.out.map
        have hbx0 : W0.heap[wr.heap.size]? = some (.cells (triC s i) 138 (0, 0)) := by rw [hW0, ← triC_get i9 i10 i11]; exact heap_alloc_new wr _
        have HI0 : LgI s (w.heap.size + 1) w.heap.size (w.heap.size + 1 + 1) (w.heap.size + 1 + 1 + 1) i f g w W0 := by rw [hW0]; exact (HI.out.alloc _).drewN 1
        obtain ⟨es0, clock0, hm0⟩ := HI0.map
        obtain ⟨v, hlook, hown⟩ := hm0.look
        obtain ⟨ao, cap, rfl, _⟩ := own_form hown
        have HQ : Hid (LgQ s (w.heap.size + 1) w.heap.size (w.heap.size + 1 + 1) (w.heap.size + 1 + 1 + 1) i f g w W0 ao cap wr.heap.size) := ⟨HI0, hown, hbx0, hm.ble⟩
        have HLK := Lib.hid hlook
        have c0 : W0.cell? ⟨wr.heap.size, 0, none⟩ = some (.int .u8 (bt s i)) := row_cell hbx0 0
        have c1 : W0.cell? ⟨wr.heap.size, 1, none⟩ = some (.int .u8 (bt s (i + 1))) := row_cell hbx0 1
        have c2 : W0.cell? ⟨wr.heap.size, 2, none⟩ = some (.int .u8 (bt s (i + 2))) := row_cell hbx0 2
        clear hbx0 hm hm0 HI0 hlook hown hW0
        have HL0 : Hid (LgJ s i 0 (f i)) := by rw [HZ.out i (Nat.le_refl _)]; exact LgJ.zero s i
        generalize wr.heap.size = bx at *
        clear HTG
        go_wp2
        go_step3
        go_wp2_with (refine wpList_lookup_run rfl rfl rfl rfl HLK.out ?_)
        clear HLK
        go_loopw [8, 9, 40] (fun _ _ v40 wq => ∃ (j : Nat) (f2 g2 : Nat → Nat), j ≤ (occ s i i).length ∧ v40 = .int .i64 j ∧ Hid (LgQ s (w.heap.size + 1) w.heap.size (w.heap.size + 1 + 1) (w.heap.size + 1 + 1 + 1) i f2 g2 w wq ao cap bx) ∧ Hid (∀ k, k ≠ i → f2 k = f k) ∧ Hid (LgJ s i j (f2 i))) (fun _ _ v40 _ => (occ s i i).length - (intOf v40).toNat)
        case atStart => exact ⟨0, f, g, Nat.zero_le _, rfl, HQ.out, fun _ _ => rfl, HL0.out⟩
        case round =>
          clear HQ HL0 c0 c1 c2 HI
          obtain ⟨j, f2, g2, hj, rfl, HQ, HE, HJ⟩ := hrel
          by_cases hjl : j < (occ s i i).length
          · have j1 : (j : Int) < ((occ s i i).length : Int) := by omega
            obtain ⟨a, q, rfl, hc, ha, hai, hsa⟩ := HQ.out.at_ hjl
            have hol := occ_len s i i
            have j2 : IntKind.i64.wrap ((j : Int) + 1) = (j : Int) + 1 := by rw [IntKind.wrap_i64]; omega
            have HA := Lib.hid ha
            have HS3 := Lib.hid hsa
            have r0 := row_cell HQ.out.base.long i
            rw [rowV_get _ i9] at r0
            have r1 := row_cold HQ.out.base.long i
            have r2 := row_cold HQ.out.base.dist i
            have r3 := row_cell HQ.out.base.dist i
            rw [rowV_get _ i9] at r3
            clear ha hsa
            go_wp2
            go_loopw [9] (fun v9 wn => ∃ n p : Nat, 3 ≤ n ∧ n ≤ 66 ∧ i + n ≤ s.size ∧ v9 = .int .i64 n ∧ Hid (same s a i n) ∧ wn = wr.drewN p) (fun v9 _ => 66 - (intOf v9).toNat)
            case atStart => exact ⟨3, 0, Nat.le_refl _, by omega, by omega, rfl, HS3.out, rfl⟩
            case round =>
              obtain ⟨n, p, hn3, hn66, hnz, rfl, HS, rfl⟩ := hrel
              by_cases h66 : n < 66
              · have n1 : (n : Int) < 66 := by omega
                have n2 : IntKind.i64.wrap ((i : Int) + (n : Int)) = (i : Int) + (n : Int) := by rw [IntKind.wrap_i64]; omega
                by_cases hz : i + n < s.size
                · have n3 : (i : Int) + (n : Int) < (s.size : Int) := by omega
                  have n4 : IntKind.i64.wrap ((a : Int) + (n : Int)) = (a : Int) + (n : Int) := by rw [IntKind.wrap_i64]; omega
                  have n5 : (0 : Int) ≤ (a : Int) + (n : Int) := by omega
                  have n6 : (0 : Int) ≤ (i : Int) + (n : Int) := by omega
                  have n7 : (a : Int) + (n : Int) < (s.size : Int) := by omega
                  have n8 : ((a : Int) + (n : Int)).toNat = a + n := by omega
                  have n9 : ((i : Int) + (n : Int)).toNat = i + n := by omega
                  have n10 : a + n < s.size := by omega
                  by_cases hb : bt s (a + n) = bt s (i + n)
                  · have HS2 : Hid (same s a i (n + 1)) := fun k hk => by
                      by_cases e : k = n
                      · subst e; exact hb
                      · exact HS.out k (by omega)
                    have e1 : (((s[a + n]'n10).toNat : Nat) : Int) = (((s[i + n]'hz).toNat : Nat) : Int) := by rw [get_bt s (a + n) n10, get_bt s (i + n) hz]; exact hb
                    have n11 : IntKind.i64.wrap ((n : Int) + 1) = (n : Int) + 1 := by rw [IntKind.wrap_i64]; omega
                    clear hb
                    go_wp2
                    go_quiet (fail)
                    go_wp2
                    go_roundw
                    case rel => exact ⟨n + 1, p + nq, by omega, by omega, by omega, by go_num, HS2.out, by first | rfl | exact drewN_two wr p nq⟩
                    case measure => first | omega | (simp [intOf]; try omega)
                  · have HFA := Lib.hid (far_of hn3 hn66 hnz HS.out (.inr (.inr hb)))
                    have e1 : ¬ (((s[a + n]'n10).toNat : Nat) : Int) = (((s[i + n]'hz).toNat : Nat) : Int) := by rw [get_bt s (a + n) n10, get_bt s (i + n) hz]; exact hb
                    clear hb
                    by_cases hl : n < f2 i
                    · have l1 : (n : Int) < (f2 i : Int) := by omega
                      have HN := Lib.hid (HJ.out.old HA.out HFA.out hl)
                      go_wp2
                      go_quiet (fail)
                      go_wp2
                      have HQ2 := Lib.hid (HQ.out.drewN (p + nq))
                      go_roundw
                      case rel => exact ⟨j + 1, f2, g2, by omega, by go_num, HQ2.out, HE.out, HN.out⟩
                      case measure => (simp [intOf]; try omega)
                    · have l1 : ¬ (n : Int) < (f2 i : Int) := by omega
                      have HN := Lib.hid (HJ.out.new HA.out HFA.out hl)
                      have l2 : IntKind.i64.wrap ((i : Int) - (a : Int)) = ((i - a : Nat) : Int) := by rw [IntKind.wrap_i64]; omega
                      go_wp2
                      go_quiet (fail)
                      go_wp2
                      have HQ3 := Lib.hid ((HQ.out.drewN (p + nq)).put n (i - a))
                      go_roundw
                      case rel =>
                        refine ⟨j + 1, updN f2 i n, updN g2 i (i - a), by omega, by go_num, HQ3.out, fun k hk => ?_, ?_⟩
                        · rw [updN_ne _ hk]; exact HE.out k hk
                        · show LgJ s i (j + 1) (updN f2 i n i)
                          rw [updN_at]; exact HN.out
                      case measure => (simp [intOf]; try omega)
                · have n3 : ¬ (i : Int) + (n : Int) < (s.size : Int) := by omega
                  have HFA := Lib.hid (far_of hn3 hn66 hnz HS.out (.inr (.inl (by omega))))
                  by_cases hl : n < f2 i
                  · have l1 : (n : Int) < (f2 i : Int) := by omega
                    have HN := Lib.hid (HJ.out.old HA.out HFA.out hl)
                    go_wp2
                    have HQ2 := Lib.hid (HQ.out.drewN (p))
                    go_roundw
                    case rel => exact ⟨j + 1, f2, g2, by omega, by go_num, HQ2.out, HE.out, HN.out⟩
                    case measure => (simp [intOf]; try omega)
                  · have l1 : ¬ (n : Int) < (f2 i : Int) := by omega
                    have HN := Lib.hid (HJ.out.new HA.out HFA.out hl)
                    have l2 : IntKind.i64.wrap ((i : Int) - (a : Int)) = ((i - a : Nat) : Int) := by rw [IntKind.wrap_i64]; omega
                    go_wp2
                    have HQ3 := Lib.hid ((HQ.out.drewN (p)).put n (i - a))
                    go_roundw
                    case rel =>
                      refine ⟨j + 1, updN f2 i n, updN g2 i (i - a), by omega, by go_num, HQ3.out, fun k hk => ?_, ?_⟩
                      · rw [updN_ne _ hk]; exact HE.out k hk
                      · show LgJ s i (j + 1) (updN f2 i n i)
                        rw [updN_at]; exact HN.out
                    case measure => (simp [intOf]; try omega)
              · have n1 : ¬ (n : Int) < 66 := by omega
                have HFA := Lib.hid (far_of hn3 hn66 hnz HS.out (.inl (by omega)))
                by_cases hl : n < f2 i
                · have l1 : (n : Int) < (f2 i : Int) := by omega
                  have HN := Lib.hid (HJ.out.old HA.out HFA.out hl)
                  go_wp2
                  have HQ2 := Lib.hid (HQ.out.drewN (p))
                  go_roundw
                  case rel => exact ⟨j + 1, f2, g2, by omega, by go_num, HQ2.out, HE.out, HN.out⟩
                  case measure => (simp [intOf]; try omega)
                · have l1 : ¬ (n : Int) < (f2 i : Int) := by omega
                  have HN := Lib.hid (HJ.out.new HA.out HFA.out hl)
                  have l2 : IntKind.i64.wrap ((i : Int) - (a : Int)) = ((i - a : Nat) : Int) := by rw [IntKind.wrap_i64]; omega
                  go_wp2
                  have HQ3 := Lib.hid ((HQ.out.drewN (p)).put n (i - a))
                  go_roundw
                  case rel =>
                    refine ⟨j + 1, updN f2 i n, updN g2 i (i - a), by omega, by go_num, HQ3.out, fun k hk => ?_, ?_⟩
                    · rw [updN_ne _ hk]; exact HE.out k hk
                    · show LgJ s i (j + 1) (updN f2 i n i)
                      rw [updN_at]; exact HN.out
                  case measure => (simp [intOf]; try omega)
          · obtain rfl : j = (occ s i i).length := by omega
            have j1 : ¬ (((occ s i i).length : Nat) : Int) < ((occ s i i).length : Int) := by omega
            have c0 : wr.cell? ⟨bx, 0, none⟩ = some (.int .u8 (bt s i)) := row_cell HQ.out.box 0
            have c1 : wr.cell? ⟨bx, 1, none⟩ = some (.int .u8 (bt s (i + 1))) := row_cell HQ.out.box 1
            have c2 : wr.cell? ⟨bx, 2, none⟩ = some (.int .u8 (bt s (i + 2))) := row_cell HQ.out.box 2
            obtain ⟨es1, clock1, hm1⟩ := HQ.out.base.map
            obtain ⟨v0, st, W2, hrun, hg2, hsz, ho2, hstep⟩ := (hm1.alloc (.cells #[.int .i64 (i : Int)] 3)).step
            have HRUN := Lib.hid hrun
            have HG2 := Lib.hid hg2
            have HO2 := Lib.hid ho2
            have HST0 := Lib.hid hstep
            have HBS : Hid ((w.heap.size + 1 + 1 + 1) ≤ W2.heap.size) := by simp only [Hid]; rw [hsz]; have := hm1.ble; simp; omega
            have HBX : Hid (W2.cell? ⟨wr.heap.size, 0, none⟩ = some (.int .i64 (i : Int))) := by
              have hn : wr.heap.size ≠ (w.heap.size + 1 + 1) := fun e => by have := (Array.getElem?_eq_some_iff.1 hm1.here).1; omega
              exact hg2.cell (row_cell (heap_alloc_new wr (.cells #[.int .i64 (i : Int)] 3)) 0) (fun e => by injection e with e; exact hn e)
            have hol := occ_len s i i
            have HLS : Hid (LgS s i (f2 i)) := HJ.out.lgS
            clear hm1 hrun hg2 hsz ho2 hstep
            go_wp2_with (first
              | (refine wpList_entry_run rfl rfl rfl rfl HRUN.out ?_)
              | (refine wpList_app_at rfl rfl Try.underlying32 info_i64L rfl HO2.out rfl HBS.out rfl HBX.out rfl (by unfold maxLen; omega) (by omega) ?_; intro v' W3 h3 hg3 hb3; obtain ⟨W4, es', clock', hst, hg4, hm4⟩ := HST0.out v' W3 h3 hg3 hb3; have HST := Lib.hid hst; have HFI := Lib.hid (HQ.out.base.fin _ HG2.out HO2.out hg3 hg4 hm4); clear h3 hg3 hb3 hst hg4 hm4)
              | (refine wpList_store_run rfl rfl rfl rfl rfl HST.out rfl ?_))
            go_roundw
            case rel =>
              refine ⟨i + 1, f2, g2, by omega, by go_num, HFI.out, fun k hk => ?_, fun k hk => ?_⟩
              · by_cases e : k = i
                · subst e; exact HLS.out
                · rw [HE.out k e]; exact HF.out k (by omega)
              · rw [HE.out k (by omega)]; exact HZ.out k (by omega)
            case measure => (simp [intOf]; try omega)
      · have i1 : ¬ (i : Int) + 3 ≤ (s.size : Int) := by omega
        have HE : Hid (∀ k, k < s.size → LgS s k (f k)) := fun k hk => by
          by_cases e : k < i
          · exact HF.out k e
          · rw [HZ.out k (by omega)]; exact LgS.end_ (by omega)
        go_wp2
        go_ret2
        exact ⟨_, _, f, g, rfl, HI.out.ad, HI.out.long, HI.out.dist, HE.out, HI.out.lo.1, HI.out.lo.2.1, HI.out.below⟩
end Go.Proofs.Ytnnmiolgffcgkaa
