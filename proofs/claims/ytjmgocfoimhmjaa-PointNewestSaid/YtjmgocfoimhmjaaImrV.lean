/- What imap.Read and its reference answer; imap.Fresh once more. -/
import Derived.Test.YtjmgocfoimhmjaaImrP
import Derived.Test.YtjmgocfoimhmjaaFreshW
import Derived.Test.YtjmgocfoimhmjaaGetW
import Derived.Test.YtjmgocfoimhmjaaApp
import Derived.Test.YtjmgocfoimhmjaaBlk
import Derived.Deep.RegionHeld3
import Derived.BigQuiet
import Derived.Deep.QuietTactic
namespace Go.Proofs.Ytjmgocfoimhmjaa
open Go.RowKit Go.PlainAid

set_option maxRecDepth 20000 in
set_option maxHeartbeats 1000000 in
theorem fresh_at (w : World) :
    Calls Try.prog 99 #[] w fun e w' => ∃ b b', e = .returned (.agg #[.slice (some ⟨b, 0, none⟩) 48 48, .slice (some ⟨b', 0, none⟩) 48 48]) ∧ w'.heap[b]? = some (.cells zeroPlaces 27) ∧ w'.heap[b']? = some (.cells zeroGens 3) ∧ Below w.heap.size w w' ∧ w.heap.size < b ∧ w.heap.size < b' ∧ b ≠ b' := by
  have h1 := mk_places
  have h2 := mk_gens
  go_enter Try.func99, Try.ntmps99
  go_wp2
  go_region_with (fail)
  · clear h1 h2
    go_wp2
    have e0 : ∀ (a b c : Obj), (((w.alloc a).alloc b).alloc c).drew.heap[w.heap.size]? = some a := fun a b c => by
      show (((w.alloc a).alloc b).alloc c).heap[w.heap.size]? = some a
      rw [heap_alloc_old _ _ (by simp; omega), heap_alloc_old _ _ (by simp)]
      exact heap_alloc_new w a
    refine bodyPost_ret (results_cell_row rfl _ _ w.heap.size _ _ (0, 0) _ rfl (e0 _ _ _) Try.underlying25 rfl info_imap) rfl ?_
    have e1 : ∀ (a b c : Obj), (((w.alloc a).alloc b).alloc c).drew.heap[w.heap.size + 1]? = some b := fun a b c => by
      show (((w.alloc a).alloc b).alloc c).heap[w.heap.size + 1]? = some b
      rw [heap_alloc_old _ _ (by simp)]
      have := heap_alloc_new (w.alloc a) b
      simpa using this
    have e2 : ∀ (a b c : Obj), (((w.alloc a).alloc b).alloc c).drew.heap[w.heap.size + 1 + 1]? = some c := fun a b c => by
      show (((w.alloc a).alloc b).alloc c).heap[w.heap.size + 1 + 1]? = some c
      have := heap_alloc_new ((w.alloc a).alloc b) c
      simpa using this
    exact ⟨_, _, rfl, e1 _ _ _, e2 _ _ _, ((((Below.refl _ _).alloc (Nat.le_refl _) _).alloc (by simp) _).alloc (by simp; omega) _).drew, by omega, by omega, by omega⟩
  · clear h1 h2
    go_wp2
    have e0 : ∀ (a b c : Obj), (((w.alloc a).alloc b).alloc c).drew.heap[w.heap.size]? = some a := fun a b c => by
      show (((w.alloc a).alloc b).alloc c).heap[w.heap.size]? = some a
      rw [heap_alloc_old _ _ (by simp; omega), heap_alloc_old _ _ (by simp)]
      exact heap_alloc_new w a
    refine bodyPost_ret (results_cell_row rfl _ _ w.heap.size _ _ (0, 0) _ rfl (e0 _ _ _) Try.underlying25 rfl info_imap) rfl ?_
    have e1 : ∀ (a b c : Obj), (((w.alloc a).alloc b).alloc c).drew.heap[w.heap.size + 1]? = some b := fun a b c => by
      show (((w.alloc a).alloc b).alloc c).heap[w.heap.size + 1]? = some b
      rw [heap_alloc_old _ _ (by simp)]
      have := heap_alloc_new (w.alloc a) b
      simpa using this
    have e2 : ∀ (a b c : Obj), (((w.alloc a).alloc b).alloc c).drew.heap[w.heap.size + 1 + 1]? = some c := fun a b c => by
      show (((w.alloc a).alloc b).alloc c).heap[w.heap.size + 1 + 1]? = some c
      have := heap_alloc_new ((w.alloc a).alloc b) c
      simpa using this
    exact ⟨_, _, rfl, e2 _ _ _, e1 _ _ _, ((((Below.refl _ _).alloc (Nat.le_refl _) _).alloc (by simp) _).alloc (by simp; omega) _).drew, by omega, by omega, by omega⟩


abbrev zeroImap : Array Value := #[.slice none 0 0, .slice none 0 0]
abbrev imCells (b b' : Nat) : Array Value := #[.slice (some ⟨b, 0, none⟩) 48 48, .slice (some ⟨b', 0, none⟩) 48 48]
theorem place_two2 : ∀ x : PlaceD, x.cells.length = 2 := fun _ => rfl
theorem own_of_row {W : World} {base size n b : Nat} {t : TypeId} {cs : Array Value} {xs : List Value} (h : W.heap[b]? = some (.cells cs t (0, 0))) (hx : cs.toList = xs) (hn : cs.size = n * size) (hb : base ≤ b) (hm : n ≤ maxLen) : Owns W base size (.slice (some ⟨b, 0, none⟩) n n) n xs := by
  subst hx
  refine ⟨by simpa using hn, .inr ⟨b, 0, n, rfl, hb, row_lt h, Nat.le_refl _, hm, fun j u hu => ?_, fun j hj => ⟨?_, ?_⟩⟩⟩
  · rw [Nat.zero_add, row_cell h]; simpa using hu
  · rw [Nat.zero_add, row_cell h]
    have : j < cs.size := by omega
    simp [this]
  · rw [Nat.zero_add]; exact row_cold h j
theorem Owns.here {W : World} {base size n c b o j : Nat} {xs : List Value} {u : Value} (h : Owns W base size (.slice (some ⟨b, o, none⟩) n c) n xs) (hu : xs[j]? = some u) : W.cell? ⟨b, o + j, none⟩ = some u ∧ W.frozen? ⟨b, o + j, none⟩ = false := by
  obtain ⟨_, _, _, e1, _, _, c1, f1⟩ := h.at_ hu
  injection e1 with e1 _ _; injection e1 with e1; injection e1 with e1 e2 _
  subst e1; subst e2
  exact ⟨c1, f1⟩
/-- The places and the numbers as they are filled. -/
def plF (s : ByteArray) (i : Nat) : List PlaceD := jPl s i ++ List.replicate (48 - i) ⟨0, 0⟩
def gnF (s : ByteArray) (i : Nat) : List Int := jGs s i ++ List.replicate (48 - i) 0
theorem plF_len (s : ByteArray) {i : Nat} (h : i ≤ 48) : (plF s i).length = 48 := by simp [plF, jPl_length]; omega
theorem flat_pl_len : ∀ l : List PlaceD, (l.flatMap PlaceD.cells).length = 2 * l.length
  | [] => rfl
  | x :: r => by rw [List.flatMap_cons, List.length_append, flat_pl_len r]; simp [PlaceD.cells]; omega
theorem plF_set (s : ByteArray) {i : Nat} (h : i < 48) : (((plF s i).flatMap PlaceD.cells).set (i * 2) (.int .i64 (jpl s (jpos s i)).Cell)).set (i * 2 + 1) (.int .i64 (jpl s (jpos s i)).Nth) = (plF s (i + 1)).flatMap PlaceD.cells := by
  unfold plF
  rw [show 48 - i = (48 - (i + 1)) + 1 by omega, List.replicate_succ, jPl_succ, List.flatMap_append, List.flatMap_append, List.flatMap_append, List.flatMap_cons]
  have hl : ((jPl s i).flatMap PlaceD.cells).length = i * 2 := by rw [flat_pl_len, jPl_length]; omega
  generalize (jPl s i).flatMap PlaceD.cells = U at *
  rw [List.set_append_right _ _ (by omega), List.set_append_right _ _ (by omega), show i * 2 - U.length = 0 by omega, show i * 2 + 1 - U.length = 1 by omega]
  simp [PlaceD.cells]
theorem gnF_set (s : ByteArray) {i : Nat} (h : i < 48) : ((gnF s i).map (Value.int .i64)).set i (.int .i64 (jV s (jpos s i))) = (gnF s (i + 1)).map (Value.int .i64) := by
  unfold gnF
  rw [show 48 - i = (48 - (i + 1)) + 1 by omega, List.replicate_succ, jGs_succ, List.map_append, List.map_append, List.map_append, List.map_cons]
  have hl : ((jGs s i).map (Value.int .i64)).length = i := by rw [List.length_map, jGs_length]
  generalize (jGs s i).map (Value.int .i64) = U at *
  rw [List.set_append_right _ _ (by omega), show i - U.length = 0 by omega]
  simp
theorem plF_get (s : ByteArray) {i : Nat} (h : i < 48) : ((plF s i).flatMap PlaceD.cells)[i * 2]? = some (.int .i64 0) ∧ ((plF s i).flatMap PlaceD.cells)[i * 2 + 1]? = some (.int .i64 0) := by
  unfold plF
  rw [show 48 - i = (48 - (i + 1)) + 1 by omega, List.replicate_succ, List.flatMap_append, List.flatMap_cons]
  have hl : ((jPl s i).flatMap PlaceD.cells).length = i * 2 := by rw [flat_pl_len, jPl_length]; omega
  generalize (jPl s i).flatMap PlaceD.cells = U at *
  generalize List.flatMap PlaceD.cells (List.replicate (48 - (i + 1)) ⟨0, 0⟩) = V at *
  rw [show PlaceD.cells ⟨0, 0⟩ = [.int .i64 0, .int .i64 0] from rfl, List.getElem?_append_right (by omega), List.getElem?_append_right (l₁ := U) (by omega), show i * 2 - U.length = 0 by omega, show i * 2 + 1 - U.length = 1 by omega]
  exact ⟨rfl, rfl⟩
theorem gnF_get (s : ByteArray) {i : Nat} (h : i < 48) : ((gnF s i).map (Value.int .i64))[i]? = some (.int .i64 0) := by
  unfold gnF
  rw [show 48 - i = (48 - (i + 1)) + 1 by omega, List.replicate_succ, List.map_append]
  have hl : ((jGs s i).map (Value.int .i64)).length = i := by rw [List.length_map, jGs_length]
  generalize (jGs s i).map (Value.int .i64) = U at *
  rw [List.getElem?_append_right (by omega), show i - U.length = 0 by omega]; rfl
theorem plF_end (s : ByteArray) : plF s 48 = jPl s 48 ∧ gnF s 48 = jGs s 48 := by simp [plF, gnF]
theorem zeroPlaces_list (s : ByteArray) : zeroPlaces.toList = (plF s 0).flatMap PlaceD.cells := by
  unfold zeroPlaces plF; simp [jPl]; rfl
theorem zeroGens_list (s : ByteArray) : zeroGens.toList = (gnF s 0).map (Value.int .i64) := by
  unfold zeroGens gnF; simp [jGs]
theorem flat_intsI (xs : List Int) : xs.flatMap (fun z => [Value.int .i64 z]) = xs.map (Value.int .i64) := by
  induction xs with
  | nil => rfl
  | cons x r ih => simp [List.flatMap_cons, ih]
theorem own_intsI {w : World} {base n c : Nat} {A : Option Addr} {xs : List Int} (h : Owns w base 1 (.slice A n c) n (xs.map (Value.int .i64))) : RowsIn w w.heap.size A n c (fun z => [.int .i64 z]) 1 xs := by
  rw [← flat_intsI] at h
  exact h.rows (enc := fun z => [Value.int .i64 z]) (k := 1) (fun _ => rfl) Nat.one_pos
theorem no_places (w : World) (B : Nat) : RowsIn w B none 0 0 PlaceD.cells 2 ([] : List PlaceD) := ⟨rfl, Nat.le_refl _, Nat.zero_le _, fun i x h => by simp at h⟩
theorem no_intsI (w : World) (B : Nat) : RowsIn w B none 0 0 (fun z => [.int .i64 z]) 1 ([] : List Int) := ⟨rfl, Nat.le_refl _, Nat.zero_le _, fun i x h => by simp at h⟩

def ImrPost (s : ByteArray) (w : World) (e : Ending) (w' : World) : Prop := ∃ A n c A' n' c', e = .returned (.tuple #[.agg #[.slice A n c, .slice A' n' c'], .int .i64 (imrE s)]) ∧ RowsIn w' w'.heap.size A n c PlaceD.cells 2 (imrP s) ∧ RowsIn w' w'.heap.size A' n' c' (fun z => [.int .i64 z]) 1 (imrG s) ∧ Below w.heap.size w w'
theorem imrPost_bad {s : ByteArray} {w w' : World} (h : ¬ ImrOk s) (hb : Below w.heap.size w w') : ImrPost s w (.returned (.tuple #[.agg zeroImap, .int .i64 4])) w' := by
  obtain ⟨a, b, c⟩ := imr_bad h
  exact ⟨none, 0, 0, none, 0, 0, by rw [a], by rw [b]; exact no_places _ _, by rw [c]; exact no_intsI _ _, hb⟩
structure ImrI (s : ByteArray) (w wr : World) (b b' M i : Nat) : Prop where
  all : ∀ j, j < i → JOk s (jpos s j)
  ats : Owns wr (w.heap.size + 1) 2 (.slice (some ⟨b, 0, none⟩) 48 48) 48 ((plF s i).flatMap PlaceD.cells)
  gens : Owns wr (w.heap.size + 1) 1 (.slice (some ⟨b', 0, none⟩) 48 48) 48 ((gnF s i).map (Value.int .i64))
  ne : b ≠ b' ∧ b ≠ M ∧ b' ≠ M
  gt : w.heap.size < b ∧ w.heap.size < b' ∧ w.heap.size < M
  m : wr.heap[M]? = some (.cells (imCells b b') 25 (0, 0))
  res : wr.heap[w.heap.size]? = some (.cells zeroImap 25 (0, 0))
  bel : Below w.heap.size w wr
theorem Owns.set0 {W : World} {base size n c b : Nat} {xs : List Value} (h : Owns W base size (.slice (some ⟨b, 0, none⟩) n c) n xs) (j : Nat) (u : Value) : Owns (W.setCell ⟨b, j, none⟩ u) base size (.slice (some ⟨b, 0, none⟩) n c) n (xs.set j u) := by
  have := h.set j u
  rw [Nat.zero_add] at this; exact this
theorem ImrI.stepA {s : ByteArray} {w wr : World} {b b' M i : Nat} {B1 B2 V : Int} (h : ImrI s w wr b b' M i) (hok : JOk s (jpos s i))
    (hp : (((plF s i).flatMap PlaceD.cells).set (i * 2) (.int .i64 B1)).set (i * 2 + 1) (.int .i64 B2) = (plF s (i + 1)).flatMap PlaceD.cells)
    (hg : ((gnF s i).map (Value.int .i64)).set i (.int .i64 V) = (gnF s (i + 1)).map (Value.int .i64)) :
    ImrI s w (((wr.setCell ⟨b', i, none⟩ (.int .i64 V)).setCell ⟨b, i * 2, none⟩ (.int .i64 B1)).setCell ⟨b, i * 2 + 1, none⟩ (.int .i64 B2)) b b' M (i + 1) := by
  obtain ⟨n1, n2, n3⟩ := h.ne
  obtain ⟨g1, g2, g3⟩ := h.gt
  have o1 : Value.ownBlock (.slice (some ⟨b, 0, none⟩) 48 48) ≠ some b' := fun e => n1 (by simpa [Value.ownBlock] using e)
  have o2 : Value.ownBlock (.slice (some ⟨b', 0, none⟩) 48 48) ≠ some b := fun e => n1 ((by simpa [Value.ownBlock] using e : b' = b)).symm
  refine ⟨fun j hj => ?_, ?_, ?_, h.ne, h.gt, ?_, ?_, ?_⟩
  · by_cases e : j = i
    · subst e; exact hok
    · exact h.all j (by omega)
  · rw [← hp]; exact ((h.ats.setOther o1 _).set0 _ _).set0 _ _
  · rw [← hg]; exact ((h.gens.set0 _ _).setOther o2 _).setOther o2 _
  · exact row_other (row_other (row_other h.m (fun e => n3 e.symm)) (fun e => n2 e.symm)) (fun e => n2 e.symm)
  · exact row_other (row_other (row_other h.res (show w.heap.size ≠ b' by omega)) (show w.heap.size ≠ b by omega)) (show w.heap.size ≠ b by omega)
  · exact ((h.bel.setCell (show w.heap.size ≤ b' by omega) _).setCell (show w.heap.size ≤ b by omega) _).setCell (show w.heap.size ≤ b by omega) _
theorem ImrI.stepB {s : ByteArray} {w wr : World} {b b' M i : Nat} {B1 B2 V : Int} (h : ImrI s w wr b b' M i) (hok : JOk s (jpos s i))
    (hp : (((plF s i).flatMap PlaceD.cells).set (i * 2) (.int .i64 B1)).set (i * 2 + 1) (.int .i64 B2) = (plF s (i + 1)).flatMap PlaceD.cells)
    (hg : ((gnF s i).map (Value.int .i64)).set i (.int .i64 V) = (gnF s (i + 1)).map (Value.int .i64)) :
    ImrI s w (((wr.setCell ⟨b, i * 2, none⟩ (.int .i64 B1)).setCell ⟨b, i * 2 + 1, none⟩ (.int .i64 B2)).setCell ⟨b', i, none⟩ (.int .i64 V)) b b' M (i + 1) := by
  obtain ⟨n1, n2, n3⟩ := h.ne
  obtain ⟨g1, g2, g3⟩ := h.gt
  have o1 : Value.ownBlock (.slice (some ⟨b, 0, none⟩) 48 48) ≠ some b' := fun e => n1 (by simpa [Value.ownBlock] using e)
  have o2 : Value.ownBlock (.slice (some ⟨b', 0, none⟩) 48 48) ≠ some b := fun e => n1 ((by simpa [Value.ownBlock] using e : b' = b)).symm
  refine ⟨fun j hj => ?_, ?_, ?_, h.ne, h.gt, ?_, ?_, ?_⟩
  · by_cases e : j = i
    · subst e; exact hok
    · exact h.all j (by omega)
  · rw [← hp]; exact ((h.ats.set0 _ _).set0 _ _).setOther o1 _
  · rw [← hg]; exact ((h.gens.setOther o2 _).setOther o2 _).set0 _ _
  · exact row_other (row_other (row_other h.m (fun e => n2 e.symm)) (fun e => n2 e.symm)) (fun e => n3 e.symm)
  · exact row_other (row_other (row_other h.res (show w.heap.size ≠ b by omega)) (show w.heap.size ≠ b by omega)) (show w.heap.size ≠ b' by omega)
  · exact ((h.bel.setCell (show w.heap.size ≤ b by omega) _).setCell (show w.heap.size ≤ b by omega) _).setCell (show w.heap.size ≤ b' by omega) _
theorem ImrI.drew {s : ByteArray} {w wr : World} {b b' M i : Nat} (h : ImrI s w wr b b' M i) : ImrI s w wr.drew b b' M i := ⟨h.all, h.ats, h.gens, h.ne, h.gt, h.m, h.res, h.bel.drew⟩
theorem toList_nil : (⟨#[]⟩ : ByteArray).toList = [] := by
  unfold ByteArray.toList ByteArray.toList.loop
  rw [if_neg (by decide)]
  rfl
theorem toList_ne {T : ByteArray} (h : 0 < T.size) : T.toList ≠ [] := by
  intro (e : T.toList = [])
  have e2 : T = ⟨#[]⟩ := str_inj (e.trans toList_nil.symm)
  rw [e2] at h
  exact absurd h (by decide)
theorem tl_zero (s : ByteArray) : tl s 0 = s := by unfold tl; simp

theorem keepM {W : World} {M : Nat} {u v : Value} (h : W.cell? ⟨M, 0, none⟩ = some u ∧ W.cell? ⟨M, 1, none⟩ = some v) : W.drew.cell? ⟨M, 0, none⟩ = some u ∧ W.drew.cell? ⟨M, 1, none⟩ = some v := h
theorem keepM1 {W : World} {M b k : Nat} {u v x : Value} (hb : M ≠ b) (h : W.cell? ⟨M, 0, none⟩ = some u ∧ W.cell? ⟨M, 1, none⟩ = some v) : (W.setCell ⟨b, k, none⟩ x).cell? ⟨M, 0, none⟩ = some u ∧ (W.setCell ⟨b, k, none⟩ x).cell? ⟨M, 1, none⟩ = some v :=
  ⟨(World.cell?_setCell_other _ _ _ _ (fun e => hb (by injection e with e; exact e.symm))).trans h.1, (World.cell?_setCell_other _ _ _ _ (fun e => hb (by injection e with e; exact e.symm))).trans h.2⟩
theorem keepM2 {W : World} {M b k k' : Nat} {u v x y : Value} (hb : M ≠ b) (h : W.cell? ⟨M, 0, none⟩ = some u ∧ W.cell? ⟨M, 1, none⟩ = some v) : ((W.setCell ⟨b, k, none⟩ x).setCell ⟨b, k', none⟩ y).cell? ⟨M, 0, none⟩ = some u ∧ ((W.setCell ⟨b, k, none⟩ x).setCell ⟨b, k', none⟩ y).cell? ⟨M, 1, none⟩ = some v := keepM1 hb (keepM1 hb h)

end Go.Proofs.Ytjmgocfoimhmjaa
