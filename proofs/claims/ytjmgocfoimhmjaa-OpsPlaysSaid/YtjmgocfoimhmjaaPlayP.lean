/- What a list of operations does to a disk: plain. -/
import Derived.Test.YtjmgocfoimhmjaaDnowP
import Derived.Test.YtjmgocfoimhmjaaDiskP
namespace Go.Proofs.Ytjmgocfoimhmjaa
open Go.RowKit

def wrE (cs : List ByteArray) (ws : List PutD) (a : Int) (t : ByteArray) : Int :=
  if dskE cs ws ≠ 0 then dskE cs ws else if putE cs.length a t.size ≠ 0 then putE cs.length a t.size else if ws.length = 400 then 9 else 0
def wrX (cs : List ByteArray) (ws : List PutD) (a : Int) (t : ByteArray) : List ByteArray := if wrE cs ws a t = 0 then cs else []
def wrY (cs : List ByteArray) (ws : List PutD) (a : Int) (t : ByteArray) : List PutD := if wrE cs ws a t = 0 then ws ++ [⟨a, t⟩] else []
theorem wrE_dsk {cs : List ByteArray} {ws : List PutD} {a : Int} {t : ByteArray} (h : dskE cs ws ≠ 0) : wrE cs ws a t = dskE cs ws := if_pos h
theorem wrE_put {cs : List ByteArray} {ws : List PutD} {a : Int} {t : ByteArray} (h : dskE cs ws = 0) (h2 : putE cs.length a t.size ≠ 0) : wrE cs ws a t = putE cs.length a t.size := by unfold wrE; rw [if_neg (by simp [h]), if_pos h2]
theorem wrE_full {cs : List ByteArray} {ws : List PutD} {a : Int} {t : ByteArray} (h : dskE cs ws = 0) (h2 : putE cs.length a t.size = 0) (h3 : ws.length = 400) : wrE cs ws a t = 9 := by unfold wrE; rw [if_neg (by simp [h]), if_neg (by simp [h2]), if_pos h3]
theorem wrE_ok {cs : List ByteArray} {ws : List PutD} {a : Int} {t : ByteArray} (h : dskE cs ws = 0) (h2 : putE cs.length a t.size = 0) (h3 : ws.length ≠ 400) : wrE cs ws a t = 0 := by unfold wrE; rw [if_neg (by simp [h]), if_neg (by simp [h2]), if_neg h3]
theorem wr_bad {cs : List ByteArray} {ws : List PutD} {a : Int} {t : ByteArray} {e : Int} (h : wrE cs ws a t = e) (he : e ≠ 0) : wrX cs ws a t = [] ∧ wrY cs ws a t = [] := by
  unfold wrX wrY; rw [h, if_neg he, if_neg he]; exact ⟨rfl, rfl⟩
theorem wr_good {cs : List ByteArray} {ws : List PutD} {a : Int} {t : ByteArray} (h : wrE cs ws a t = 0) : wrX cs ws a t = cs ∧ wrY cs ws a t = ws ++ [⟨a, t⟩] := by
  unfold wrX wrY; rw [h, if_pos rfl, if_pos rfl]; exact ⟨rfl, rfl⟩

theorem cells_small : ∀ {l : List ByteArray}, cellsE l = 0 → ∀ s ∈ l, s.size ≤ 1024
  | [], _, s, hs => by simp at hs
  | x :: r, h, s, hs => by
    unfold cellsE at h
    split at h
    · cases h
    · rcases List.mem_cons.1 hs with rfl | hs
      · omega
      · exact cells_small h s hs
theorem cells_of : ∀ {l : List ByteArray}, (∀ s ∈ l, s.size ≤ 1024) → cellsE l = 0
  | [], _ => rfl
  | x :: r, h => by
    unfold cellsE
    rw [if_neg (by have := h x (by simp); omega)]
    exact cells_of fun s hs => h s (List.mem_cons_of_mem _ hs)
theorem wait_of {n : Int} : ∀ {l : List PutD}, (∀ p ∈ l, putE n p.At p.Text.size = 0) → waitE n l = 0
  | [], _ => rfl
  | x :: r, h => by
    unfold waitE
    rw [if_neg (by simp [h x (by simp)])]
    exact wait_of fun s hs => h s (List.mem_cons_of_mem _ hs)
theorem dsk_mk {cs : List ByteArray} {ws : List PutD} (h0 : 0 < cs.length) (h1 : cs.length ≤ 128) (h2 : ∀ s ∈ cs, s.size ≤ 1024) (h3 : ∀ p ∈ ws, putE cs.length p.At p.Text.size = 0) (h4 : ws.length ≤ 400) : dskE cs ws = 0 :=
  dskE_ok (by omega) (cells_of h2) (wait_of h3) (by omega)
theorem lastP_size (a : Int) (K : Nat → Bool) : ∀ (l : List PutD) (i : Nat) (d : ByteArray), (∀ p ∈ l, p.Text.size ≤ 1024) → d.size ≤ 1024 → (lastP a K i l d).size ≤ 1024
  | [], _, _, _, h => h
  | p :: r, i, d, hp, h => by
    unfold lastP
    exact lastP_size a K r (i + 1) _ (fun q hq => hp q (List.mem_cons_of_mem _ hq)) (by split; exact hp p (by simp); exact h)
theorem dsk_land {K : Nat → Bool} {cs : List ByteArray} {ws : List PutD} (h : dskE cs ws = 0) : dskE (landL K cs ws) [] = 0 := by
  obtain ⟨h0, h1, h2, h3, h4⟩ := dsk_zero h
  refine dsk_mk (by rw [landL_length]; exact h0) (by rw [landL_length]; exact h1) (fun s hs => ?_) (fun p hp => by simp at hp) (by simp)
  unfold landL at hs
  obtain ⟨i, hi, rfl⟩ := List.mem_map.1 hs
  refine lastP_size _ _ _ _ _ (fun p hp => (wait_all h3 p hp).2.2) ?_
  rw [List.mem_range] at hi
  rw [List.getD_eq_getElem?_getD, List.getElem?_eq_getElem hi]
  exact cells_small h2 _ (by simp)
theorem dsk_add {cs : List ByteArray} {ws : List PutD} {a : Int} {t : ByteArray} (h : dskE cs ws = 0) (h2 : putE cs.length a t.size = 0) (h3 : ws.length ≠ 400) : dskE cs (ws ++ [⟨a, t⟩]) = 0 := by
  obtain ⟨g0, g1, g2, g3, g4⟩ := dsk_zero h
  refine dsk_mk g0 g1 (cells_small g2) (fun p hp => ?_) (by simp; omega)
  rcases List.mem_append.1 hp with hp | hp
  · obtain ⟨q0, q1, q2⟩ := wait_all g3 p hp
    exact putE_ok q0 q1 (by omega)
  · rw [List.mem_singleton] at hp; subst hp; exact h2
theorem put_zero {n a : Int} {z : Nat} (h : putE n a z = 0) : 0 ≤ a ∧ a < n ∧ z ≤ 1024 := by
  unfold putE at h
  split at h
  · cases h
  · split at h
    · cases h
    · omega

/-- A list of operations, done to a right disk. -/
def pl : List ByteArray → List PutD → List OpD → Int × List ByteArray × List PutD
  | C, W, [] => (0, C, W)
  | C, W, o :: r =>
    if o.Kind = 2 ∧ o.At = 0 ∧ o.Text.size = 0 then pl (landL allB C W) [] r
    else if o.Kind ≠ 1 then (4, [], [])
    else if putE C.length o.At o.Text.size ≠ 0 then (putE C.length o.At o.Text.size, [], [])
    else if W.length = 400 then (9, [], [])
    else pl C (W ++ [⟨o.At, o.Text⟩]) r
def plE (cs : List ByteArray) (ws : List PutD) (l : List OpD) : Int := if dskE cs ws ≠ 0 then dskE cs ws else (pl cs ws l).1
def plX (cs : List ByteArray) (ws : List PutD) (l : List OpD) : List ByteArray := if dskE cs ws ≠ 0 then [] else (pl cs ws l).2.1
def plY (cs : List ByteArray) (ws : List PutD) (l : List OpD) : List PutD := if dskE cs ws ≠ 0 then [] else (pl cs ws l).2.2
/-- After k operations that were done the disk is C, W. -/
structure PlI (cs : List ByteArray) (ws : List PutD) (l : List OpD) (k : Nat) (C : List ByteArray) (W : List PutD) : Prop where
  same : pl cs ws l = pl C W (l.drop k)
  right : dskE C W = 0
  len : C.length = cs.length
section
variable {cs C : List ByteArray} {ws W : List PutD} {l : List OpD} {k : Nat} {o : OpD}
theorem pl_bad (h : dskE cs ws ≠ 0) : plE cs ws l = dskE cs ws ∧ plX cs ws l = [] ∧ plY cs ws l = [] := by
  unfold plE plX plY; rw [if_pos h, if_pos h, if_pos h]; exact ⟨rfl, rfl, rfl⟩
theorem pl_ok (h : dskE cs ws = 0) : plE cs ws l = (pl cs ws l).1 ∧ plX cs ws l = (pl cs ws l).2.1 ∧ plY cs ws l = (pl cs ws l).2.2 := by
  unfold plE plX plY; rw [if_neg (by simp [h]), if_neg (by simp [h]), if_neg (by simp [h])]; exact ⟨rfl, rfl, rfl⟩
theorem PlI.start (h : dskE cs ws = 0) : PlI cs ws l 0 cs ws := ⟨rfl, h, rfl⟩
theorem PlI.sync (h : PlI cs ws l k C W) (ho : l[k]? = some o) (h1 : o.Kind = 2) (h2 : o.At = 0) (h3 : o.Text.size = 0) : PlI cs ws l (k + 1) (landL allB C W) [] :=
  ⟨by rw [h.same, drop_at ho, pl, if_pos ⟨h1, h2, h3⟩], dsk_land h.right, by rw [landL_length]; exact h.len⟩
theorem PlI.add (h : PlI cs ws l k C W) (ho : l[k]? = some o) (h1 : o.Kind = 1) (h2 : putE C.length o.At o.Text.size = 0) (h3 : W.length ≠ 400) : PlI cs ws l (k + 1) C (W ++ [⟨o.At, o.Text⟩]) :=
  ⟨by rw [h.same, drop_at ho, pl, if_neg (by omega), if_neg (by omega), if_neg (by simp [h2]), if_neg h3], dsk_add h.right h2 h3, h.len⟩
theorem PlI.form (h : PlI cs ws l k C W) (ho : l[k]? = some o) (h0 : ¬ (o.Kind = 2 ∧ o.At = 0 ∧ o.Text.size = 0)) (h1 : o.Kind ≠ 1) : pl cs ws l = (4, [], []) := by
  rw [h.same, drop_at ho, pl, if_neg h0, if_pos h1]
theorem PlI.put (h : PlI cs ws l k C W) (ho : l[k]? = some o) (h1 : o.Kind = 1) (h2 : putE C.length o.At o.Text.size ≠ 0) : pl cs ws l = (putE C.length o.At o.Text.size, [], []) := by
  rw [h.same, drop_at ho, pl, if_neg (by omega), if_neg (by omega), if_pos h2]
theorem PlI.full (h : PlI cs ws l k C W) (ho : l[k]? = some o) (h1 : o.Kind = 1) (h2 : putE C.length o.At o.Text.size = 0) (h3 : W.length = 400) : pl cs ws l = (9, [], []) := by
  rw [h.same, drop_at ho, pl, if_neg (by omega), if_neg (by omega), if_neg (by simp [h2]), if_pos h3]
theorem PlI.end_ (h : PlI cs ws l k C W) (hk : l.length ≤ k) : pl cs ws l = (0, C, W) := by
  rw [h.same, List.drop_eq_nil_of_le hk, pl]
end
end Go.Proofs.Ytjmgocfoimhmjaa
