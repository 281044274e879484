/- The newest checkpoint: plain; a point in a box of its own. -/
import Derived.Test.YtjmgocfoimhmjaaPreadW
import Derived.Test.YtjmgocfoimhmjaaDnowP
import Derived.Test.YtjmgocfoimhmjaaDiskP
namespace Go.Proofs.Ytjmgocfoimhmjaa
open Go.RowKit

theorem pr_iff {s : ByteArray} : prE s = 0 ↔ PrOk s := by
  constructor
  · intro h
    by_cases hk : PrOk s
    · exact hk
    · by_cases ho : openE s = 0
      · rw [pr_form ho hk] at h; cases h
      · rw [(pr_open ho).2] at h; exact absurd h ho
  · intro h; exact (pr_ok h).1
theorem pr_zero {s : ByteArray} (h : prE s ≠ 0) : prN s = 0 ∧ prS s = 0 ∧ prP s = [] ∧ prG s = [] := pr_bad (fun k => h (pr_iff.2 k))
theorem prG_one (s : ByteArray) : (prG s).length ≠ 1 := by
  unfold prG
  split
  · exact imrG_one _
  · simp
open Classical in
noncomputable def nstep (T t : ByteArray) : ByteArray := if prE t = 0 ∧ (prE T ≠ 0 ∨ prN T < prN t) then t else T
noncomputable def pnT (cs : List ByteArray) (ws : List PutD) : Nat → ByteArray
  | 0 => ⟨#[]⟩
  | i + 1 => nstep (pnT cs ws i) (nowS cs ws i)
noncomputable def nwT (cs : List ByteArray) (ws : List PutD) : ByteArray := if 1 < cs.length then nstep (nowS cs ws 0) (nowS cs ws 1) else nowS cs ws 0
theorem pr_empty : prE ⟨#[]⟩ ≠ 0 := fun h => by
  have := (pr_iff.1 h).1
  unfold openE at this
  rw [if_pos (by decide)] at this
  cases this
theorem nstep_yes {T t : ByteArray} (h : prE t = 0) (h2 : prE T ≠ 0 ∨ prN T < prN t) : nstep T t = t := if_pos ⟨h, h2⟩
theorem nstep_bad {T t : ByteArray} (h : prE t ≠ 0) : nstep T t = T := if_neg (fun k => h k.1)
theorem nstep_old {T t : ByteArray} (h : prE T = 0) (h2 : ¬ prN T < prN t) : nstep T t = T := if_neg (fun k => by rcases k.2 with k | k; exact k h; exact h2 k)
def SameP (T t : ByteArray) : Prop := prN T = prN t ∧ prS T = prS t ∧ prP T = prP t ∧ prG T = prG t ∧ (prE T = 0 ↔ prE t = 0)
theorem same_refl (T : ByteArray) : SameP T T := ⟨rfl, rfl, rfl, rfl, Iff.rfl⟩
theorem same_bad {T t : ByteArray} (h : prE T ≠ 0) (h2 : prE t ≠ 0) : SameP T t := by
  obtain ⟨a, b, c, d⟩ := pr_zero h
  obtain ⟨a', b', c', d'⟩ := pr_zero h2
  exact ⟨a.trans a'.symm, b.trans b'.symm, c.trans c'.symm, d.trans d'.symm, ⟨fun k => absurd k h, fun k => absurd k h2⟩⟩
theorem pn_one (cs : List ByteArray) (ws : List PutD) : SameP (pnT cs ws 1) (nowS cs ws 0) := by
  show SameP (nstep ⟨#[]⟩ (nowS cs ws 0)) _
  by_cases h : prE (nowS cs ws 0) = 0
  · rw [nstep_yes h (.inl pr_empty)]; exact same_refl _
  · rw [nstep_bad h]; exact same_bad pr_empty h
theorem nstep_same {T T' t : ByteArray} (h : SameP T T') : SameP (nstep T t) (nstep T' t) := by
  obtain ⟨a, b, c, d, e⟩ := h
  by_cases h1 : prE t = 0
  · by_cases h2 : prE T ≠ 0 ∨ prN T < prN t
    · rw [nstep_yes h1 h2, nstep_yes h1 (by rw [← a]; rcases h2 with h2 | h2; exact .inl (fun k => h2 (e.2 k)); exact .inr h2)]; exact same_refl _
    · have h3 : prE T = 0 := by
        by_cases k : prE T = 0
        · exact k
        · exact absurd (.inl k) h2
      rw [nstep_old h3 (fun k => h2 (.inr k)), nstep_old (e.1 h3) (by rw [← a]; exact fun k => h2 (.inr k))]; exact ⟨a, b, c, d, e⟩
  · rw [nstep_bad h1, nstep_bad h1]; exact ⟨a, b, c, d, e⟩
theorem pn_end {cs : List ByteArray} {ws : List PutD} {m : Nat} (hm : (1 < cs.length → m = 2) ∧ (¬ 1 < cs.length → m = 1)) : SameP (pnT cs ws m) (nwT cs ws) := by
  unfold nwT
  by_cases h : 1 < cs.length
  · rw [hm.1 h, if_pos h]
    exact nstep_same (pn_one cs ws)
  · rw [hm.2 h, if_neg h]; exact pn_one cs ws
noncomputable def nwE (cs : List ByteArray) (ws : List PutD) : Int := if dskE cs ws ≠ 0 then dskE cs ws else if prE (nwT cs ws) = 0 then 0 else 18
noncomputable def nwU (cs : List ByteArray) (ws : List PutD) : ByteArray := if dskE cs ws ≠ 0 then ⟨#[]⟩ else nwT cs ws
theorem nw_bad {cs : List ByteArray} {ws : List PutD} (h : dskE cs ws ≠ 0) : nwE cs ws = dskE cs ws ∧ prE (nwU cs ws) ≠ 0 := by unfold nwE nwU; rw [if_pos h, if_pos h]; exact ⟨rfl, pr_empty⟩
theorem nw_corrupt {cs : List ByteArray} {ws : List PutD} (h : dskE cs ws = 0) (h2 : prE (nwT cs ws) ≠ 0) : nwE cs ws = 18 ∧ prE (nwU cs ws) ≠ 0 := by
  have e : ¬ (dskE cs ws ≠ 0) := fun g => g h
  unfold nwE nwU; rw [if_neg e, if_neg e, if_neg h2]; exact ⟨rfl, h2⟩
theorem nw_ok {cs : List ByteArray} {ws : List PutD} (h : dskE cs ws = 0) (h2 : prE (nwT cs ws) = 0) : nwE cs ws = 0 ∧ nwU cs ws = nwT cs ws := by
  have e : ¬ (dskE cs ws ≠ 0) := fun g => g h
  unfold nwE nwU; rw [if_neg e, if_neg e, if_pos h2]; exact ⟨rfl, rfl⟩

theorem ptr_int {x z : Int} {s1 s2 : Option Addr} {n1 c1 n2 c2 k : Nat} (h : (#[.int .i64 x, .slice s1 n1 c1, .slice s2 n2 c2] : Array Value)[k]? = some (.int .i64 z)) : k = 0 := by
  match k, h with
  | 0, _ => rfl
  | 1, h => simp at h
  | 2, h => simp at h
  | k + 3, h => simp at h
theorem ptr_ne_places {w : World} {B n c M : Nat} {A : Option Addr} {xs : List PlaceD} {t : TypeId} {x : Int} {s1 s2 : Option Addr} {n1 c1 n2 c2 : Nat} (r : RowsIn w B A n c PlaceD.cells 2 xs) (hM : w.heap[M]? = some (.cells #[.int .i64 x, .slice s1 n1 c1, .slice s2 n2 c2] t (0, 0))) : ∀ b o, A = some ⟨b, o, none⟩ → 0 < n → b ≠ M := fun b o e h0 e2 => by
  subst e2
  have hl := r.len
  obtain ⟨b', o', e', _, hc⟩ := r.at_ 0 (xs[0]'(by omega)) (List.getElem?_eq_getElem (by omega))
  rw [e] at e'; injection e' with e'; injection e' with e1 e2 _
  subst e1; subst e2
  have h1 := hc 1 _ rfl
  rw [row_cell hM] at h1
  have := ptr_int h1
  omega
theorem ptr_ne_ints {w : World} {B n c M : Nat} {A : Option Addr} {xs : List Int} {t : TypeId} {x : Int} {s1 s2 : Option Addr} {n1 c1 n2 c2 : Nat} (r : RowsIn w B A n c (fun z => [.int .i64 z]) 1 xs) (hn : xs.length ≠ 1) (hM : w.heap[M]? = some (.cells #[.int .i64 x, .slice s1 n1 c1, .slice s2 n2 c2] t (0, 0))) : ∀ b o, A = some ⟨b, o, none⟩ → 0 < n → b ≠ M := fun b o e h0 e2 => by
  subst e2
  have hl := r.len
  obtain ⟨b', o', e', _, hc⟩ := r.at_ 1 (xs[1]'(by omega)) (List.getElem?_eq_getElem (by omega))
  rw [e] at e'; injection e' with e'; injection e' with e1 e2 _
  subst e1; subst e2
  have h1 := hc 0 _ rfl
  rw [row_cell hM] at h1
  have := ptr_int h1
  omega
/-- A point's lists at a world. -/
structure PtR (D : Option Addr) (q d : Nat) (D' : Option Addr) (q' d' : Nat) (X : List PlaceD) (Y : List Int) (W : World) : Prop where
  a1 : RowsIn W W.heap.size D q d PlaceD.cells 2 X
  a2 : RowsIn W W.heap.size D' q' d' (fun z => [.int .i64 z]) 1 Y
  one : Y.length ≠ 1
section
variable {D D' : Option Addr} {q d q' d' M : Nat} {X : List PlaceD} {Y : List Int} {W W' : World} {t : TypeId} {x : Int} {s1 s2 : Option Addr} {n1 c1 n2 c2 : Nat}
theorem PtR.go (h : PtR D q d D' q' d' X Y W) (hb : Below W.heap.size W W') : PtR D q d D' q' d' X Y W' := ⟨(h.a1.below hb).more hb.size, (h.a2.below hb).more hb.size, h.one⟩
theorem PtR.new (h : PtR D q d D' q' d' X Y W) (o : Obj) : PtR D q d D' q' d' X Y (W.alloc o) := h.go ((Below.refl _ _).alloc (Nat.le_refl _) o)
theorem PtR.set3 (h : PtR D q d D' q' d' X Y W) (hM : W.heap[M]? = some (.cells #[.int .i64 x, .slice s1 n1 c1, .slice s2 n2 c2] t (0, 0))) (u v z : Value) : PtR D q d D' q' d' X Y (((W.setCell ⟨M, 0, none⟩ u).setCell ⟨M, 1, none⟩ v).setCell ⟨M, 2, none⟩ z).drew :=
  have h1 := ptr_ne_places h.a1 hM
  have h2 := ptr_ne_ints h.a2 h.one hM
  ⟨((aside_cell (z := 2) (aside_cell (z := 1) (aside_cell (z := 0) h.a1 h1 u) h1 v) h1 z).more (by simp [World.setCell])).drew, ((aside_cell (z := 2) (aside_cell (z := 1) (aside_cell (z := 0) h.a2 h2 u) h2 v) h2 z).more (by simp [World.setCell])).drew, h.one⟩
theorem PtR.nil (W : World) : PtR none 0 0 none 0 0 [] [] W := ⟨no_places _ _, no_intsI _ _, by simp⟩
theorem ptrow_set {cs : Array Value} {x' : Int} {G G' : Option Addr} {g h g' h' : Nat} (hc : cs.size = 3) (hM : W.heap[M]? = some (.cells cs t (0, 0))) : (((W.setCell ⟨M, 0, none⟩ (.int .i64 x')).setCell ⟨M, 1, none⟩ (.slice G g h)).setCell ⟨M, 2, none⟩ (.slice G' g' h')).drew.heap[M]? = some (.cells #[.int .i64 x', .slice G g h, .slice G' g' h'] t (0, 0)) := by
  have hm := row_store (j := 2) (v := .slice G' g' h') (row_store (j := 1) (v := .slice G g h) (row_store (j := 0) (v := .int .i64 x') hM))
  have e : ((cs.setIfInBounds 0 (.int .i64 x')).setIfInBounds 1 (.slice G g h)).setIfInBounds 2 (.slice G' g' h') = #[.int .i64 x', .slice G g h, .slice G' g' h'] := by
    obtain ⟨l⟩ := cs
    match l, hc with
    | [a, b, c], _ => rfl
  rw [e] at hm
  exact hm
theorem row_set3 {b : Nat} {o : Obj} {u v z : Value} (h : W.heap[b]? = some o) (hne : b ≠ M) : (((W.setCell ⟨M, 0, none⟩ u).setCell ⟨M, 1, none⟩ v).setCell ⟨M, 2, none⟩ z).drew.heap[b]? = some o := row_other (row_other (row_other h hne) hne) hne
theorem below_set3 {B : Nat} {w0 : World} {u v z : Value} (h : Below B w0 W) (hM : B ≤ M) : Below B w0 (((W.setCell ⟨M, 0, none⟩ u).setCell ⟨M, 1, none⟩ v).setCell ⟨M, 2, none⟩ z).drew := (((h.setCell (p := ⟨M, 0, none⟩) hM _).setCell (p := ⟨M, 1, none⟩) hM _).setCell (p := ⟨M, 2, none⟩) hM _).drew
end
def NwPost (cs : List ByteArray) (ws : List PutD) (w : World) (e : Ending) (w' : World) : Prop := ∃ A n c A' n' c', e = .returned (.tuple #[.int .i64 (prN (nwU cs ws)), .agg #[.int .i64 (prS (nwU cs ws)), .slice A n c, .slice A' n' c'], .int .i64 (nwE cs ws)]) ∧ RowsIn w' w'.heap.size A n c PlaceD.cells 2 (prP (nwU cs ws)) ∧ RowsIn w' w'.heap.size A' n' c' (fun z => [.int .i64 z]) 1 (prG (nwU cs ws)) ∧ Below w.heap.size w w'
theorem nwPost_bad {cs : List ByteArray} {ws : List PutD} {w w' : World} {k : Int} (h : nwE cs ws = k) (h2 : prE (nwU cs ws) ≠ 0) (hb : Below w.heap.size w w') : NwPost cs ws w (.returned (.tuple #[.int .i64 0, .agg zeroPt, .int .i64 k])) w' := by
  obtain ⟨a, b, c, d⟩ := pr_zero h2
  exact ⟨none, 0, 0, none, 0, 0, by rw [a, b, h], by rw [c]; exact no_places _ _, by rw [d]; exact no_intsI _ _, hb⟩
end Go.Proofs.Ytjmgocfoimhmjaa
