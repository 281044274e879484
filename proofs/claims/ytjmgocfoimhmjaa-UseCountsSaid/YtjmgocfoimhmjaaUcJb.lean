/- What of each cell is in use: plain. -/
import Derived.Test.YtjmgocfoimhmjaaDiskP
import Derived.Test.YtjmgocfoimhmjaaDiskW
import Derived.Test.YtjmgocfoimhmjaaOpenP
import Derived.Test.YtjmgocfoimhmjaaBreadP
import Derived.Test.YtjmgocfoimhmjaaOpenW
import Derived.Test.YtjmgocfoimhmjaaBreadW
import Derived.Test.YtjmgocfoimhmjaaBreadR
import Derived.Deep.DeepCutAuto
import Derived.Test.YtjmgocfoimhmjaaUcJc
/- What a cell reads as; what has landed: plain lists. -/
namespace Go.Proofs.Ytjmgocfoimhmjaa
open Go.RowKit

/-- The last write to a that is kept, or what was there. -/
def lastP (a : Int) (K : Nat → Bool) : Nat → List PutD → ByteArray → ByteArray
  | _, [], d => d
  | i, p :: r, d => lastP a K (i + 1) r (if p.At = a ∧ K i = true then p.Text else d)
theorem lastP_snoc (a : Int) (K : Nat → Bool) (p : PutD) : ∀ (l : List PutD) (i : Nat) (d : ByteArray), lastP a K i (l ++ [p]) d = if p.At = a ∧ K (i + l.length) = true then p.Text else lastP a K i l d
  | [], i, d => by simp [lastP]
  | x :: r, i, d => by
    simp only [List.cons_append, lastP]
    rw [lastP_snoc a K p r (i + 1)]
    rw [show i + 1 + r.length = i + (x :: r).length by simp; omega]
theorem lastP_take {a : Int} {K : Nat → Bool} {l : List PutD} {k : Nat} {p : PutD} {d : ByteArray} (h : l[k]? = some p) : lastP a K 0 (l.take (k + 1)) d = if p.At = a ∧ K k = true then p.Text else lastP a K 0 (l.take k) d := by
  have hk := (List.getElem?_eq_some_iff.1 h).1
  rw [List.take_add_one, h]
  show lastP a K 0 (l.take k ++ [p]) d = _
  rw [lastP_snoc, List.length_take, show 0 + min k l.length = k by omega]
def allB : Nat → Bool := fun _ => true
/-- What a cell of a disk reads as. -/
def nowS (cs : List ByteArray) (ws : List PutD) (a : Int) : ByteArray := lastP a allB 0 ws (cs.getD a.toNat ⟨#[]⟩)
/-- What has landed. -/
def landL (K : Nat → Bool) (cs : List ByteArray) (ws : List PutD) : List ByteArray := (List.range cs.length).map fun (i : Nat) => lastP (i : Int) K 0 ws (cs.getD i ⟨#[]⟩)
theorem landL_length (K : Nat → Bool) (cs : List ByteArray) (ws : List PutD) : (landL K cs ws).length = cs.length := by simp [landL]
/-- A right disk's writes go to its cells. -/
theorem wait_all {n : Int} : ∀ {l : List PutD}, waitE n l = 0 → ∀ p ∈ l, 0 ≤ p.At ∧ p.At < n ∧ p.Text.size ≤ 1024
  | [], _, p, hp => by simp at hp
  | x :: r, h, p, hp => by
    simp only [waitE] at h
    by_cases h1 : putE n x.At x.Text.size = 0
    · rw [if_neg (by simp [h1])] at h
      rcases List.mem_cons.1 hp with rfl | hp
      · unfold putE at h1
        split at h1
        · cases h1
        · split at h1
          · cases h1
          · omega
      · exact wait_all h p hp
    · rw [if_pos h1] at h; exact absurd h h1
theorem dsk_zero {cs : List ByteArray} {ws : List PutD} (h : dskE cs ws = 0) : 0 < cs.length ∧ cs.length ≤ 128 ∧ cellsE cs = 0 ∧ waitE cs.length ws = 0 ∧ ws.length ≤ 400 := by
  unfold dskE at h
  split at h
  · cases h
  · rename_i h1
    split at h
    · cases h
    · rename_i h2
      split at h
      · rename_i h3; exact absurd h h3
      · rename_i h3
        split at h
        · cases h
        · exact ⟨by omega, by omega, Classical.byContradiction fun k => h2 k, Classical.byContradiction fun k => h3 k, by omega⟩
/-- The writes landed one by one. -/
def landTo (K : Nat → Bool) (cs : List ByteArray) (ws : List PutD) (k : Nat) : List ByteArray := landL K cs (ws.take k)
theorem landTo_zero (K : Nat → Bool) (cs : List ByteArray) (ws : List PutD) : landTo K cs ws 0 = cs := by
  unfold landTo landL
  apply List.ext_getElem?
  intro i
  by_cases hi : i < cs.length
  · rw [List.getElem?_map, List.getElem?_range hi]
    simp [lastP, List.getD_eq_getElem?_getD, List.getElem?_eq_getElem hi]
  · rw [List.getElem?_eq_none (by simp; omega), List.getElem?_eq_none (by omega)]
theorem landTo_no {K : Nat → Bool} {cs : List ByteArray} {ws : List PutD} {k : Nat} {p : PutD} (h : ws[k]? = some p) (hK : K k = false) : landTo K cs ws (k + 1) = landTo K cs ws k := by
  unfold landTo landL
  apply List.map_congr_left
  intro i _
  rw [lastP_take h, if_neg (by rw [hK]; simp)]
theorem landTo_yes {K : Nat → Bool} {cs : List ByteArray} {ws : List PutD} {k j : Nat} {p : PutD} (h : ws[k]? = some p) (hK : K k = true) (hj : p.At = (j : Int)) (hjl : j < cs.length) : landTo K cs ws (k + 1) = (landTo K cs ws k).set j p.Text := by
  unfold landTo landL
  apply List.ext_getElem?
  intro i
  rw [List.getElem?_set, List.length_map, List.length_range]
  by_cases hi : i < cs.length
  · rw [List.getElem?_map, List.getElem?_range hi, List.getElem?_map, List.getElem?_range hi, Option.map_some, Option.map_some]
    rw [lastP_take h]
    by_cases e : j = i
    · subst e; rw [if_pos ⟨hj, hK⟩, if_pos rfl, if_pos hjl]
    · rw [if_neg (by omega), if_neg e]
  · rw [List.getElem?_eq_none (by simp; omega), if_neg (by omega), List.getElem?_eq_none (by simp; omega)]
theorem landTo_end (K : Nat → Bool) (cs : List ByteArray) (ws : List PutD) : landTo K cs ws ws.length = landL K cs ws := by unfold landTo; rw [List.take_length]
end Go.Proofs.Ytjmgocfoimhmjaa

/- What a list of operations does to a disk: plain. -/
namespace Go.Proofs.Ytjmgocfoimhmjaa
open Go.RowKit

def wrE (cs : List ByteArray) (ws : List PutD) (a : Int) (t : ByteArray) : Int :=
  if dskE cs ws ≠ 0 then dskE cs ws else if putE cs.length a t.size ≠ 0 then putE cs.length a t.size else if ws.length = 400 then 9 else 0
def wrX (cs : List ByteArray) (ws : List PutD) (a : Int) (t : ByteArray) : List ByteArray := if wrE cs ws a t = 0 then cs else []
def wrY (cs : List ByteArray) (ws : List PutD) (a : Int) (t : ByteArray) : List PutD := if wrE cs ws a t = 0 then ws ++ [⟨a, t⟩] else []
theorem wrE_dsk {cs : List ByteArray} {ws : List PutD} {a : Int} {t : ByteArray} (h : dskE cs ws ≠ 0) : wrE cs ws a t = dskE cs ws := if_pos h
theorem wrE_put {cs : List ByteArray} {ws : List PutD} {a : Int} {t : ByteArray} (h : dskE cs ws = 0) (h2 : putE cs.length a t.size ≠ 0) : wrE cs ws a t = putE cs.length a t.size := by unfold wrE; rw [if_neg (by simp [h]), if_pos h2]
theorem wrE_full {cs : List ByteArray} {ws : List PutD} {a : Int} {t : ByteArray} (h : dskE cs ws = 0) (h2 : putE cs.length a t.size = 0) (h3 : ws.length = 400) : wrE cs ws a t = 9 := by unfold wrE; rw [if_neg (by simp [h]), if_neg (by simp [h2]), if_pos h3]
theorem wrE_ok {cs : List ByteArray} {ws : List PutD} {a : Int} {t : ByteArray} (h : dskE cs ws = 0) (h2 : putE cs.length a t.size = 0) (h3 : ws.length ≠ 400) : wrE cs ws a t = 0 := by unfold wrE; rw [if_neg (by simp [h]), if_neg (by simp [h2]), if_neg h3]
theorem wr_bad {cs : List ByteArray} {ws : List PutD} {a : Int} {t : ByteArray} {e : Int} (h : wrE cs ws a t = e) (he : e ≠ 0) : wrX cs ws a t = [] ∧ wrY cs ws a t = [] := by
  unfold wrX wrY; rw [h, if_neg he, if_neg he]; exact ⟨rfl, rfl⟩
theorem wr_good {cs : List ByteArray} {ws : List PutD} {a : Int} {t : ByteArray} (h : wrE cs ws a t = 0) : wrX cs ws a t = cs ∧ wrY cs ws a t = ws ++ [⟨a, t⟩] := by
  unfold wrX wrY; rw [h, if_pos rfl, if_pos rfl]; exact ⟨rfl, rfl⟩

theorem cells_small : ∀ {l : List ByteArray}, cellsE l = 0 → ∀ s ∈ l, s.size ≤ 1024
  | [], _, s, hs => by simp at hs
  | x :: r, h, s, hs => by
    unfold cellsE at h
    split at h
    · cases h
    · rcases List.mem_cons.1 hs with rfl | hs
      · omega
      · exact cells_small h s hs
theorem cells_of : ∀ {l : List ByteArray}, (∀ s ∈ l, s.size ≤ 1024) → cellsE l = 0
  | [], _ => rfl
  | x :: r, h => by
    unfold cellsE
    rw [if_neg (by have := h x (by simp); omega)]
    exact cells_of fun s hs => h s (List.mem_cons_of_mem _ hs)
theorem wait_of {n : Int} : ∀ {l : List PutD}, (∀ p ∈ l, putE n p.At p.Text.size = 0) → waitE n l = 0
  | [], _ => rfl
  | x :: r, h => by
    unfold waitE
    rw [if_neg (by simp [h x (by simp)])]
    exact wait_of fun s hs => h s (List.mem_cons_of_mem _ hs)
theorem dsk_mk {cs : List ByteArray} {ws : List PutD} (h0 : 0 < cs.length) (h1 : cs.length ≤ 128) (h2 : ∀ s ∈ cs, s.size ≤ 1024) (h3 : ∀ p ∈ ws, putE cs.length p.At p.Text.size = 0) (h4 : ws.length ≤ 400) : dskE cs ws = 0 :=
  dskE_ok (by omega) (cells_of h2) (wait_of h3) (by omega)
theorem lastP_size (a : Int) (K : Nat → Bool) : ∀ (l : List PutD) (i : Nat) (d : ByteArray), (∀ p ∈ l, p.Text.size ≤ 1024) → d.size ≤ 1024 → (lastP a K i l d).size ≤ 1024
  | [], _, _, _, h => h
  | p :: r, i, d, hp, h => by
    unfold lastP
    exact lastP_size a K r (i + 1) _ (fun q hq => hp q (List.mem_cons_of_mem _ hq)) (by split; exact hp p (by simp); exact h)
theorem dsk_land {K : Nat → Bool} {cs : List ByteArray} {ws : List PutD} (h : dskE cs ws = 0) : dskE (landL K cs ws) [] = 0 := by
  obtain ⟨h0, h1, h2, h3, h4⟩ := dsk_zero h
  refine dsk_mk (by rw [landL_length]; exact h0) (by rw [landL_length]; exact h1) (fun s hs => ?_) (fun p hp => by simp at hp) (by simp)
  unfold landL at hs
  obtain ⟨i, hi, rfl⟩ := List.mem_map.1 hs
  refine lastP_size _ _ _ _ _ (fun p hp => (wait_all h3 p hp).2.2) ?_
  rw [List.mem_range] at hi
  rw [List.getD_eq_getElem?_getD, List.getElem?_eq_getElem hi]
  exact cells_small h2 _ (by simp)
theorem dsk_add {cs : List ByteArray} {ws : List PutD} {a : Int} {t : ByteArray} (h : dskE cs ws = 0) (h2 : putE cs.length a t.size = 0) (h3 : ws.length ≠ 400) : dskE cs (ws ++ [⟨a, t⟩]) = 0 := by
  obtain ⟨g0, g1, g2, g3, g4⟩ := dsk_zero h
  refine dsk_mk g0 g1 (cells_small g2) (fun p hp => ?_) (by simp; omega)
  rcases List.mem_append.1 hp with hp | hp
  · obtain ⟨q0, q1, q2⟩ := wait_all g3 p hp
    exact putE_ok q0 q1 (by omega)
  · rw [List.mem_singleton] at hp; subst hp; exact h2
theorem put_zero {n a : Int} {z : Nat} (h : putE n a z = 0) : 0 ≤ a ∧ a < n ∧ z ≤ 1024 := by
  unfold putE at h
  split at h
  · cases h
  · split at h
    · cases h
    · omega

/-- A list of operations, done to a right disk. -/
def pl : List ByteArray → List PutD → List OpD → Int × List ByteArray × List PutD
  | C, W, [] => (0, C, W)
  | C, W, o :: r =>
    if o.Kind = 2 ∧ o.At = 0 ∧ o.Text.size = 0 then pl (landL allB C W) [] r
    else if o.Kind ≠ 1 then (4, [], [])
    else if putE C.length o.At o.Text.size ≠ 0 then (putE C.length o.At o.Text.size, [], [])
    else if W.length = 400 then (9, [], [])
    else pl C (W ++ [⟨o.At, o.Text⟩]) r
def plE (cs : List ByteArray) (ws : List PutD) (l : List OpD) : Int := if dskE cs ws ≠ 0 then dskE cs ws else (pl cs ws l).1
def plX (cs : List ByteArray) (ws : List PutD) (l : List OpD) : List ByteArray := if dskE cs ws ≠ 0 then [] else (pl cs ws l).2.1
def plY (cs : List ByteArray) (ws : List PutD) (l : List OpD) : List PutD := if dskE cs ws ≠ 0 then [] else (pl cs ws l).2.2
/-- After k operations that were done the disk is C, W. -/
structure PlI (cs : List ByteArray) (ws : List PutD) (l : List OpD) (k : Nat) (C : List ByteArray) (W : List PutD) : Prop where
  same : pl cs ws l = pl C W (l.drop k)
  right : dskE C W = 0
  len : C.length = cs.length
section
variable {cs C : List ByteArray} {ws W : List PutD} {l : List OpD} {k : Nat} {o : OpD}
theorem pl_bad (h : dskE cs ws ≠ 0) : plE cs ws l = dskE cs ws ∧ plX cs ws l = [] ∧ plY cs ws l = [] := by
  unfold plE plX plY; rw [if_pos h, if_pos h, if_pos h]; exact ⟨rfl, rfl, rfl⟩
theorem pl_ok (h : dskE cs ws = 0) : plE cs ws l = (pl cs ws l).1 ∧ plX cs ws l = (pl cs ws l).2.1 ∧ plY cs ws l = (pl cs ws l).2.2 := by
  unfold plE plX plY; rw [if_neg (by simp [h]), if_neg (by simp [h]), if_neg (by simp [h])]; exact ⟨rfl, rfl, rfl⟩
theorem PlI.start (h : dskE cs ws = 0) : PlI cs ws l 0 cs ws := ⟨rfl, h, rfl⟩
theorem PlI.sync (h : PlI cs ws l k C W) (ho : l[k]? = some o) (h1 : o.Kind = 2) (h2 : o.At = 0) (h3 : o.Text.size = 0) : PlI cs ws l (k + 1) (landL allB C W) [] :=
  ⟨by rw [h.same, drop_at ho, pl, if_pos ⟨h1, h2, h3⟩], dsk_land h.right, by rw [landL_length]; exact h.len⟩
theorem PlI.add (h : PlI cs ws l k C W) (ho : l[k]? = some o) (h1 : o.Kind = 1) (h2 : putE C.length o.At o.Text.size = 0) (h3 : W.length ≠ 400) : PlI cs ws l (k + 1) C (W ++ [⟨o.At, o.Text⟩]) :=
  ⟨by rw [h.same, drop_at ho, pl, if_neg (by omega), if_neg (by omega), if_neg (by simp [h2]), if_neg h3], dsk_add h.right h2 h3, h.len⟩
theorem PlI.form (h : PlI cs ws l k C W) (ho : l[k]? = some o) (h0 : ¬ (o.Kind = 2 ∧ o.At = 0 ∧ o.Text.size = 0)) (h1 : o.Kind ≠ 1) : pl cs ws l = (4, [], []) := by
  rw [h.same, drop_at ho, pl, if_neg h0, if_pos h1]
theorem PlI.put (h : PlI cs ws l k C W) (ho : l[k]? = some o) (h1 : o.Kind = 1) (h2 : putE C.length o.At o.Text.size ≠ 0) : pl cs ws l = (putE C.length o.At o.Text.size, [], []) := by
  rw [h.same, drop_at ho, pl, if_neg (by omega), if_neg (by omega), if_pos h2]
theorem PlI.full (h : PlI cs ws l k C W) (ho : l[k]? = some o) (h1 : o.Kind = 1) (h2 : putE C.length o.At o.Text.size = 0) (h3 : W.length = 400) : pl cs ws l = (9, [], []) := by
  rw [h.same, drop_at ho, pl, if_neg (by omega), if_neg (by omega), if_neg (by simp [h2]), if_pos h3]
theorem PlI.end_ (h : PlI cs ws l k C W) (hk : l.length ≤ k) : pl cs ws l = (0, C, W) := by
  rw [h.same, List.drop_eq_nil_of_le hk, pl]
end
end Go.Proofs.Ytjmgocfoimhmjaa

/- disk.Now and disk.Read, walked. -/
namespace Go.Proofs.Ytjmgocfoimhmjaa
open Go.RowKit

theorem putCells {w : World} {B n c : Nat} {A : Option Addr} {ws : List PutD} (r : RowsIn w B A n c PutD.cells 2 ws) {i : Nat} {p : PutD} (h : ws[i]? = some p) : ∃ b o, A = some ⟨b, o, none⟩ ∧ b < B ∧ w.cell? ⟨b, o + i * 2, none⟩ = some (.int .i64 p.At) ∧ w.cell? ⟨b, o + i * 2 + 1, none⟩ = some (.string p.Text) := by
  obtain ⟨b, o, e, hb, hc⟩ := r.at_ i p h
  exact ⟨b, o, e, hb, hc 0 _ rfl, hc 1 _ rfl⟩

set_option maxRecDepth 20000 in
set_option maxHeartbeats 1000000 in
theorem now_any (A : Option Addr) (n c : Nat) (cs : List ByteArray) (A' : Option Addr) (n' c' : Nat) (ws : List PutD) (a : Nat) (w : World) (r : RowsIn w w.heap.size A n c (fun z => [.string z]) 1 cs) (r' : RowsIn w w.heap.size A' n' c' PutD.cells 2 ws) (ha : a < cs.length) (hws : ws.length ≤ 400) :
    Calls Try.prog 65 #[.agg #[.slice A n c, .slice A' n' c'], .int .i64 a] w fun e w' => e = .returned (.string (nowS cs ws a)) ∧ Below w.heap.size w w' := by
  have hlen := r.len
  obtain rfl := hlen
  have hlen' := r'.len
  obtain rfl := hlen'
  obtain ⟨p0, p1⟩ := dbox2 w (.slice A cs.length c) (.slice A' ws.length c') 41
  have hwb : Below w.heap.size w (w.alloc (.cells #[.slice A cs.length c, .slice A' ws.length c'] 41)) := (Below.refl _ _).alloc (Nat.le_refl _) _
  have r1 := r.below hwb
  have r2 := r'.below hwb
  have e0 := List.getElem?_eq_getElem ha
  obtain ⟨b0, o0, rfl, hb0, hc0⟩ := r1.one e0
  have hd : nowS cs ws a = lastP a allB 0 ws cs[a] := by unfold nowS; rw [Int.toNat_natCast]; simp [List.getD_eq_getElem?_getD, e0]
  have HD := Lib.hid hd
  obtain ⟨wa, hwa⟩ : ∃ wa, wa = w.alloc (.cells #[.slice (some ⟨b0, o0, none⟩) cs.length c, .slice A' ws.length c'] 41) := ⟨_, rfl⟩
  rw [← hwa] at p0 p1 hwb r1 r2 hc0
  have HWA := Lib.hid hwa
  generalize cs[a] = d at *
  clear hd e0 hwa
  have i2 : (a : Int) < (cs.length : Int) := by omega
  go_enter Try.func65, Try.ntmps65
  go_wp2
  rw [← HWA.out]
  go_loop [5] (fun v5 => ∃ i : Int, -1 ≤ i ∧ i < ws.length ∧ v5 = .int .i64 i ∧ Hid (nowS cs ws a = lastP a allB 0 (ws.take (i + 1).toNat) d)) (fun v5 => (intOf v5 + 1).toNat)
  case atStart => exact ⟨(ws.length : Int) - 1, by omega, by omega, by go_num, by simp only [Hid]; rw [show ((ws.length : Int) - 1 + 1).toNat = ws.length by omega, List.take_length]; exact HD.out⟩
  case round =>
    obtain ⟨i, hi0, hi1, rfl, hN⟩ := hrel
    by_cases hi : 0 ≤ i
    · obtain ⟨k, rfl⟩ : ∃ k : Nat, i = k := ⟨i.toNat, by omega⟩
      have hk : k < ws.length := by omega
      obtain ⟨pa, pt, e1⟩ : ∃ pa pt, ws[k]? = some (⟨pa, pt⟩ : PutD) := ⟨ws[k].At, ws[k].Text, List.getElem?_eq_getElem hk⟩
      obtain ⟨b, o, rfl, hbB, hp0, hp1⟩ := putCells r2 e1
      simp only at hp0 hp1
      have hl := lastP_take (a := a) (K := allB) (d := d) e1
      rw [show ((k : Int) + 1).toNat = k + 1 by omega] at hN
      by_cases he : pa = a
      · subst he
        have F : Hid (nowS cs ws a = pt) := by simp only [Hid]; rw [hN.out, hl, if_pos ⟨rfl, rfl⟩]
        have g : ((a : Int) == (a : Int)) = true := beq_iff_eq.2 rfl
        clear hl hN e1 HD
        go_wp2
        go_ret
        exact ⟨by rw [F.out]; rfl, hwb⟩
      · have F : Hid (nowS cs ws a = lastP a allB 0 (ws.take k) d) := by simp only [Hid]; rw [hN.out, hl, if_neg (fun h => he h.1)]
        have g : (pa == (a : Int)) = false := beq_eq_false_iff_ne.2 he
        clear hl hN e1 HD he
        go_wp2
        go_round
        case rel => exact ⟨(k : Int) - 1, by omega, by omega, by go_num, by simp only [Hid]; rw [show ((k : Int) - 1 + 1).toNat = k by omega]; exact F.out⟩
        case measure => (simp [intOf]; try omega)
    · have F : Hid (nowS cs ws a = d) := by simp only [Hid]; rw [hN.out, show (i + 1).toNat = 0 by omega]; rfl
      clear hN HD
      go_wp2
      go_ret
      exact ⟨by rw [F.out]; rfl, hwb⟩
end Go.Proofs.Ytjmgocfoimhmjaa

/- linenref.Cell, walked, for whatever function says which writes land. -/
namespace Go.Proofs.Ytjmgocfoimhmjaa
open Go.RowKit

/-- A function value that says K, in each world in which what lies below B is as it was. -/
def Keeps (f : FuncId) (caps : Array Value) (B : Nat) (w : World) (N : Nat) (K : Nat → Bool) : Prop :=
  ∀ (i : Nat) (W : World), i < N → Below B w W → Calls Try.prog f (#[.int .i64 (i : Int)] ++ caps) W fun e w' => e = .returned (.bool (K i)) ∧ Below W.heap.size W w'

set_option maxRecDepth 20000 in
set_option maxHeartbeats 1000000 in
theorem cell_any (f : FuncId) (caps : Array Value) (K : Nat → Bool) (A : Option Addr) (n c : Nat) (cs : List ByteArray) (A' : Option Addr) (n' c' : Nat) (ws : List PutD) (a : Nat) (w : World) (r : RowsIn w w.heap.size A n c (fun z => [.string z]) 1 cs) (r' : RowsIn w w.heap.size A' n' c' PutD.cells 2 ws) (ha : a < cs.length) (hws : ws.length ≤ 400) (hK : Keeps f caps w.heap.size w ws.length K) (hcf : ∀ args W, (callFunc f args).run Try.prog W = .ok (.enter f args) W) :
    Calls Try.prog 27 #[.agg #[.slice A n c, .slice A' n' c'], .int .i64 a, .func (.func f) #[] caps] w fun e w' => e = .returned (.string (lastP a K 0 ws (cs.getD a ⟨#[]⟩))) ∧ Below w.heap.size w w' := by
  have hlen := r.len
  obtain rfl := hlen
  have hlen' := r'.len
  obtain rfl := hlen'
  obtain ⟨p0, p1⟩ := dbox2 w (.slice A cs.length c) (.slice A' ws.length c') 41
  have hwb : Below w.heap.size w (w.alloc (.cells #[.slice A cs.length c, .slice A' ws.length c'] 41)) := (Below.refl _ _).alloc (Nat.le_refl _) _
  have e0 := List.getElem?_eq_getElem ha
  obtain ⟨b0, o0, rfl, hb0, hc0⟩ := (r.below hwb).one e0
  have hc0l := hc0
  have hd : cs.getD a ⟨#[]⟩ = cs[a] := by simp [List.getD_eq_getElem?_getD, e0]
  rw [hd]
  have HK := Lib.hid hK
  obtain ⟨wa, hwa⟩ : ∃ wa, wa = w.alloc (.cells #[.slice (some ⟨b0, o0, none⟩) cs.length c, .slice A' ws.length c'] 41) := ⟨_, rfl⟩
  have hz : w.heap.size < wa.heap.size := by rw [hwa]; simp
  rw [← hwa] at p0 p1 hwb hc0
  have r2 := r'.below hwb
  have HWA := Lib.hid hwa
  generalize cs[a] = d at *
  clear hd e0 hwa hK
  have i2 : (a : Int) < (cs.length : Int) := by omega
  go_enter Try.func27, Try.ntmps27
  go_wp2
  rw [← HWA.out]
  clear hc0l
  go_loopw [7, 8, 9, 18] (fun v7 _ _ v18 wr => ∃ i : Nat, i ≤ ws.length ∧ v18 = .int .i64 i ∧ v7 = .string (lastP a K 0 (ws.take i) d) ∧ Below wa.heap.size wa wr) (fun _ _ _ v18 _ => ws.length - (intOf v18).toNat)
  case atStart => exact ⟨0, Nat.zero_le _, rfl, rfl, Below.refl _ _⟩
  case round =>
    obtain ⟨i, hi, rfl, rfl, hb⟩ := hrel
    have hsz := hb.size
    have hbw : Below w.heap.size w wr := hwb.trans (hb.mono (by omega))
    by_cases hlt : i < ws.length
    · obtain ⟨pa, pt, e1⟩ : ∃ pa pt, ws[i]? = some (⟨pa, pt⟩ : PutD) := ⟨ws[i].At, ws[i].Text, List.getElem?_eq_getElem hlt⟩
      obtain ⟨b, o, rfl, hbB, hp0, hp1⟩ := putCells (r'.below hbw) e1
      simp only at hp0 hp1
      have hl := lastP_take (a := a) (K := K) (d := d) e1
      have HL := Lib.hid hl
      generalize lastP a K 0 (ws.take i) d = L at *
      have i1 : (i : Int) < (ws.length : Int) := by omega
      have HB := Lib.hid hb
      have HC := Lib.hid (HK.out i)
      clear hl e1 hb
      by_cases he : pa = a
      · subst he
        have g : ((a : Int) == (a : Int)) = true := beq_iff_eq.2 rfl
        have HC2 : Hid (Calls Try.prog f (#[.int .i64 (i : Int)] ++ caps) (wr.alloc (.cells #[.int .i64 (a : Int), .string pt] 100)) fun e w' => e = .returned (.bool (K i)) ∧ Below (wr.alloc (.cells #[.int .i64 (a : Int), .string pt] 100)).heap.size (wr.alloc (.cells #[.int .i64 (a : Int), .string pt] 100)) w') := HC.out _ hlt (hbw.alloc hbw.size _)
        have HL2 : Hid (∀ x, x = K i → lastP a K 0 (ws.take (i + 1)) d = if x = true then pt else L) := fun x hx => by rw [HL.out, hx]; by_cases h : K i = true <;> simp [h]
        generalize K i = x at *
        cases x
        all_goals
          go_wp2_with (refine HC2.out.mono ?_; rintro e w2 ⟨rfl, hb2⟩; obtain ⟨k0, k1, kz⟩ := kept2 hb2; have HB2 := Lib.hid (HB.out.trans (((Below.refl _ _).alloc (Nat.le_refl _) _ |>.trans (hb2.mono (by simp))).mono hsz)); clear hb2)
          go_roundw
          case rel => exact ⟨i + 1, by omega, by go_num, by rw [HL2.out _ rfl]; rfl, HB2.out⟩
          case measure => (simp [intOf]; try omega)
      · have g : (pa == (a : Int)) = false := beq_eq_false_iff_ne.2 he
        have HL2 : Hid (lastP a K 0 (ws.take (i + 1)) d = L) := by simp only [Hid]; rw [HL.out, if_neg (fun h => he h.1)]
        have HB2 := Lib.hid (HB.out.alloc (show wa.heap.size ≤ wr.heap.size from hsz) (.cells #[.int .i64 pa, .string pt] 100))
        clear he
        go_wp2
        go_roundw
        case rel => exact ⟨i + 1, by omega, by go_num, by rw [HL2.out], HB2.out⟩
        case measure => (simp [intOf]; try omega)
    · obtain rfl : i = ws.length := by omega
      have i1 : ¬ (ws.length : Int) < (ws.length : Int) := by omega
      have F : Hid (lastP a K 0 (ws.take ws.length) d = lastP a K 0 ws d) := by simp only [Hid]; rw [List.take_length]
      rw [F.out]
      generalize hLL : lastP a K 0 ws d = L at *
      have HLL := Lib.hid hLL
      clear F hb hLL
      go_wp2
      go_ret
      exact ⟨by rw [HLL.out]; rfl, hbw⟩
end Go.Proofs.Ytjmgocfoimhmjaa

/- A cell of the log, and a blob in it: plain. -/
namespace Go.Proofs.Ytjmgocfoimhmjaa
open Go.RowKit

def scOk (t : ByteArray) : Prop := openE t = 0 ∧ openK t = 1
open Classical in
noncomputable def scN (t : ByteArray) : Int := if scOk t then openN t else 0
open Classical in
noncomputable def scL (t : ByteArray) : List BlobD := if scOk t then brL (openT t) else []
open Classical in
noncomputable def scB (t : ByteArray) : Bool := if scOk t then brB (openT t) else false
open Classical in
noncomputable def scO (t : ByteArray) : Bool := if scOk t then decide (brE (openT t) = 0) else false
theorem sc_bad {t : ByteArray} (h : ¬ scOk t) : scN t = 0 ∧ scL t = [] ∧ scB t = false ∧ scO t = false := by
  unfold scN scL scB scO; rw [if_neg h, if_neg h, if_neg h, if_neg h]; exact ⟨rfl, rfl, rfl, rfl⟩
theorem sc_ok {t : ByteArray} (h : scOk t) : scN t = openN t ∧ scL t = brL (openT t) ∧ scB t = brB (openT t) ∧ scO t = decide (brE (openT t) = 0) := by
  unfold scN scL scB scO; rw [if_pos h, if_pos h, if_pos h, if_pos h]; exact ⟨rfl, rfl, rfl, rfl⟩
noncomputable def ubE (cs : List ByteArray) (ws : List PutD) (pc pn : Int) : Int :=
  if pc < 2 ∨ (cs.length : Int) ≤ pc ∨ pn < 0 then 12 else if scO (nowS cs ws pc) = false then 18 else if ((scL (nowS cs ws pc)).length : Int) ≤ pn then 12 else 0
def zeroBlob : BlobD := ⟨0, 0, 0, ⟨#[]⟩⟩
noncomputable def ubB (cs : List ByteArray) (ws : List PutD) (pc pn : Int) : BlobD := if ubE cs ws pc pn = 0 then (scL (nowS cs ws pc)).getD pn.toNat zeroBlob else zeroBlob
section
variable {cs : List ByteArray} {ws : List PutD} {pc pn : Int}
theorem ub_zero {e : Int} (h : ubE cs ws pc pn = e) (h0 : e ≠ 0) : ubB cs ws pc pn = zeroBlob := by unfold ubB; rw [if_neg (by rw [h]; exact h0)]
theorem ub_out (h : pc < 2 ∨ (cs.length : Int) ≤ pc ∨ pn < 0) : ubE cs ws pc pn = 12 := if_pos h
theorem ub_corrupt (h : ¬ (pc < 2 ∨ (cs.length : Int) ≤ pc ∨ pn < 0)) (h2 : scO (nowS cs ws pc) = false) : ubE cs ws pc pn = 18 := by unfold ubE; rw [if_neg h, if_pos h2]
theorem ub_none (h : ¬ (pc < 2 ∨ (cs.length : Int) ≤ pc ∨ pn < 0)) (h2 : scO (nowS cs ws pc) = true) (h3 : ((scL (nowS cs ws pc)).length : Int) ≤ pn) : ubE cs ws pc pn = 12 := by unfold ubE; rw [if_neg h, if_neg (by rw [h2]; decide), if_pos h3]
theorem ub_ok (h : ¬ (pc < 2 ∨ (cs.length : Int) ≤ pc ∨ pn < 0)) (h2 : scO (nowS cs ws pc) = true) (h3 : ¬ ((scL (nowS cs ws pc)).length : Int) ≤ pn) : ubE cs ws pc pn = 0 ∧ ubB cs ws pc pn = (scL (nowS cs ws pc)).getD pn.toNat zeroBlob := by
  have e : ubE cs ws pc pn = 0 := by unfold ubE; rw [if_neg h, if_neg (by rw [h2]; decide), if_neg h3]
  exact ⟨e, by unfold ubB; rw [if_pos e]⟩
end
end Go.Proofs.Ytjmgocfoimhmjaa

/- scan.Cell and linenref.LogCell, walked. -/
namespace Go.Proofs.Ytjmgocfoimhmjaa
open Go.RowKit

def ScPost (t : ByteArray) (w : World) (e : Ending) (w' : World) : Prop := ∃ D q d, e = .returned (.tuple #[.int .i64 (scN t), .slice D q d, .bool (scB t), .bool (scO t)]) ∧ RowsIn w' w'.heap.size D q d BlobD.cells 4 (scL t) ∧ Below w.heap.size w w'
theorem no_blobsC (w : World) (B : Nat) : RowsIn w B none 0 0 BlobD.cells 4 ([] : List BlobD) := ⟨rfl, Nat.le_refl _, Nat.zero_le _, fun i x h => by simp at h⟩
theorem scPost_bad {t : ByteArray} {w w' : World} (h : ¬ scOk t) (hb : Below w.heap.size w w') : ScPost t w (.returned (.tuple #[.int .i64 0, .slice none 0 0, .bool false, .bool false])) w' := by
  obtain ⟨a, b, c, d⟩ := sc_bad h
  exact ⟨none, 0, 0, by rw [a, c, d], by rw [b]; exact no_blobsC _ _, hb⟩
theorem results_ttt4 {P : Program} {fn : Func} {p q r u : Tmp} (h : fn.results = #[.tmp p, .tmp q, .tmp r, .tmp u]) (tmps : Array Value) (w : World) : (results fn tmps).run P w = .ok (.tuple #[tmps.getD p undef, tmps.getD q undef, tmps.getD r undef, tmps.getD u undef]) w := by
  simp [results, h]
theorem cf_everyS : ∀ (args : Array Value) (W : World), (callFunc 28 args).run Try.prog W = .ok (.enter 28 args) W := fun args W => by kernel_rfl
set_option maxHeartbeats 400000 in
theorem keeps_everyS (B : Nat) (w : World) (N : Nat) : Keeps 28 #[] B w N allB := fun i W _ _ => by
  show Calls Try.prog 28 #[.int .i64 (i : Int)] W _
  go_enter Try.func28, Try.ntmps28
  go_wp2
  go_ret
  exact ⟨rfl, Below.refl _ _⟩

set_option maxRecDepth 20000 in
set_option maxHeartbeats 1000000 in
theorem scell_any (A : Option Addr) (n c : Nat) (cs : List ByteArray) (A' : Option Addr) (n' c' : Nat) (ws : List PutD) (k : Nat) (w : World) (r : RowsIn w w.heap.size A n c (fun z => [.string z]) 1 cs) (r' : RowsIn w w.heap.size A' n' c' PutD.cells 2 ws) (hk : k < cs.length) (hws : ws.length ≤ 400) :
    Calls Try.prog 79 #[.agg #[.slice A n c, .slice A' n' c'], .int .i64 k] w (ScPost (nowS cs ws k) w) := by
  have hlen := r.len
  subst hlen
  have hlen' := r'.len
  subst hlen'
  obtain ⟨wa, hwa⟩ : ∃ wa, wa = w.alloc (.cells #[.slice A cs.length c, .slice A' ws.length c'] 41) := ⟨_, rfl⟩
  have hba : Below w.heap.size w wa := by rw [hwa]; exact (Below.refl _ _).alloc (Nat.le_refl _) _
  have hrb : wa.heap[w.heap.size]? = some (.cells #[.slice A cs.length c, .slice A' ws.length c'] 41 (0, 0)) := by rw [hwa]; exact heap_alloc_new w _
  have hle := hba.size
  have RA := Lib.hid ((r.below hba).more hle)
  have RA' := Lib.hid ((r'.below hba).more hle)
  have HN : Hid (∀ W, Below wa.heap.size wa W → Calls Try.prog 65 #[.agg #[.slice A cs.length c, .slice A' ws.length c'], .int .i64 k] W fun e w' => e = .returned (.string (nowS cs ws k)) ∧ Below W.heap.size W w') := fun W h => now_any A _ c cs A' _ c' ws k W ((RA.out.below h).more h.size) ((RA'.out.below h).more h.size) hk hws
  have HO : Hid (∀ t W, Calls Try.prog 51 #[.string t] W fun e w' => e = .returned (.tuple #[.int .i64 (openK t), .int .i64 (openN t), .string (openT t), .int .i64 (openE t)]) ∧ Below W.heap.size W w') := fun t W => open_any t W
  have HR : Hid (∀ t W, Calls Try.prog 53 #[.string t] W (BrPost t W)) := fun t W => bread_any t W
  unfold BrPost at HR
  have q0 : wa.cell? ⟨w.heap.size, 0, none⟩ = some (.slice A cs.length c) := row_cell hrb 0
  have q1 : wa.cell? ⟨w.heap.size, 1, none⟩ = some (.slice A' ws.length c') := row_cell hrb 1
  have i1 : (k : Int) < (cs.length : Int) := by omega
  have HWA := Lib.hid hwa
  have HBA := Lib.hid hba
  clear r r' hwa hba hle hk hrb
  generalize nowS cs ws k = t at *
  have HOt := Lib.hid (HO.out t)
  have HRt := Lib.hid (HR.out (openT t))
  by_cases hc : scOk t
  · obtain ⟨e1, e2, e3, e4⟩ := sc_ok hc
    have F1 := Lib.hid e1
    have F2 := Lib.hid e2
    have F3 := Lib.hid e3
    have F4 := Lib.hid e4
    rw [hc.1, hc.2] at HOt
    clear hc e1 e2 e3 e4 HO HR
    generalize openN t = N at *
    generalize openT t = T at *
    generalize brL T = BL at *
    generalize brB T = BB at *
    generalize hbe : brE T = BE at *
    have g1 : (BE == 0) = decide (BE = 0) := rfl
    go_enter Try.func79, Try.ntmps79
    go_wp2_with (first
      | (go_at_call 65; rw [← HWA.out]; refine (HN.out _ (Below.refl _ _)).mono ?_; rintro e w1 ⟨rfl, hb1⟩)
      | (go_at_call 51; refine (HOt.out _).mono ?_; rintro e w2 ⟨rfl, hb2⟩)
      | (go_at_call 53; refine (HRt.out _).mono ?_; rintro e w3 ⟨D, q, d, rfl, r3, hb3⟩))
    refine bodyPost_ret (results_ttt4 rfl _ _) rfl ?_
    exact ⟨D, q, d, by rw [F1.out, F3.out, F4.out]; rfl, by rw [F2.out]; exact r3, HBA.out.trans ((hb1.trans ((hb2.trans (hb3.mono hb2.size)).mono hb1.size)).mono HBA.out.size)⟩
  · have HC := Lib.hid hc
    by_cases he : openE t = 0
    · have hk1 : openK t ≠ 1 := fun h => hc ⟨he, h⟩
      have g1 : (openK t != 1) = true := bne_iff_ne.2 hk1
      rw [he] at HOt
      clear he hk1 hc HO HR HRt
      generalize openK t = K at *
      generalize openN t = N at *
      generalize openT t = T at *
      go_enter Try.func79, Try.ntmps79
      go_wp2_with (first
        | (go_at_call 65; rw [← HWA.out]; refine (HN.out _ (Below.refl _ _)).mono ?_; rintro e w1 ⟨rfl, hb1⟩)
        | (go_at_call 51; refine (HOt.out _).mono ?_; rintro e w2 ⟨rfl, hb2⟩))
      refine bodyPost_ret (results_ttt4 rfl _ _) rfl ?_
      exact scPost_bad HC.out (HBA.out.trans ((hb1.trans (hb2.mono hb1.size)).mono HBA.out.size))
    · have g1 : (openE t != 0) = true := bne_iff_ne.2 he
      clear he hc HO HR HRt
      generalize openE t = E at *
      generalize openK t = K at *
      generalize openN t = N at *
      generalize openT t = T at *
      go_enter Try.func79, Try.ntmps79
      go_wp2_with (first
        | (go_at_call 65; rw [← HWA.out]; refine (HN.out _ (Below.refl _ _)).mono ?_; rintro e w1 ⟨rfl, hb1⟩)
        | (go_at_call 51; refine (HOt.out _).mono ?_; rintro e w2 ⟨rfl, hb2⟩))
      refine bodyPost_ret (results_ttt4 rfl _ _) rfl ?_
      exact scPost_bad HC.out (HBA.out.trans ((hb1.trans (hb2.mono hb1.size)).mono HBA.out.size))

set_option maxRecDepth 20000 in
set_option maxHeartbeats 1000000 in
theorem rlog_any (A : Option Addr) (n c : Nat) (cs : List ByteArray) (A' : Option Addr) (n' c' : Nat) (ws : List PutD) (k : Nat) (w : World) (r : RowsIn w w.heap.size A n c (fun z => [.string z]) 1 cs) (r' : RowsIn w w.heap.size A' n' c' PutD.cells 2 ws) (hk : k < cs.length) (hws : ws.length ≤ 400) (hk2 : 2 ≤ k) :
    Calls Try.prog 75 #[.agg #[.slice A n c, .slice A' n' c'], .int .i64 k] w (ScPost (nowS cs ws k) w) := by
  have hlen := r.len
  subst hlen
  have hlen' := r'.len
  subst hlen'
  obtain ⟨wa, hwa⟩ : ∃ wa, wa = w.alloc (.cells #[.slice A cs.length c, .slice A' ws.length c'] 41) := ⟨_, rfl⟩
  have hba : Below w.heap.size w wa := by rw [hwa]; exact (Below.refl _ _).alloc (Nat.le_refl _) _
  have hrb : wa.heap[w.heap.size]? = some (.cells #[.slice A cs.length c, .slice A' ws.length c'] 41 (0, 0)) := by rw [hwa]; exact heap_alloc_new w _
  have hle := hba.size
  have RA := Lib.hid ((r.below hba).more hle)
  have RA' := Lib.hid ((r'.below hba).more hle)
  have HN : Hid (∀ W, Below wa.heap.size wa W → Calls Try.prog 27 #[.agg #[.slice A cs.length c, .slice A' ws.length c'], .int .i64 k, .func (.func 28) #[] #[]] W fun e w' => e = .returned (.string (nowS cs ws k)) ∧ Below W.heap.size W w') := fun W h => cell_any 28 #[] allB A _ c cs A' _ c' ws k W ((RA.out.below h).more h.size) ((RA'.out.below h).more h.size) hk hws (keeps_everyS _ _ _) cf_everyS
  have HO : Hid (∀ t W, Calls Try.prog 52 #[.string t] W fun e w' => e = .returned (.tuple #[.int .i64 (openK t), .int .i64 (openN t), .string (openT t), .int .i64 (openE t)]) ∧ Below W.heap.size W w') := fun t W => unseal_any t W
  have HR : Hid (∀ t W, Calls Try.prog 54 #[.string t] W (BrPost t W)) := fun t W => breadr_any t W
  unfold BrPost at HR
  have q0 : wa.cell? ⟨w.heap.size, 0, none⟩ = some (.slice A cs.length c) := row_cell hrb 0
  have q1 : wa.cell? ⟨w.heap.size, 1, none⟩ = some (.slice A' ws.length c') := row_cell hrb 1
  have i1 : (k : Int) < (cs.length : Int) := by omega
  have i2 : ¬ (k : Int) < 2 := by omega
  have i3 : (2 : Int) ≤ (k : Int) := by omega
  have HWA := Lib.hid hwa
  have HBA := Lib.hid hba
  clear r r' hwa hba hle hk hrb hk2
  generalize nowS cs ws k = t at *
  have HOt := Lib.hid (HO.out t)
  have HRt := Lib.hid (HR.out (openT t))
  by_cases hc : scOk t
  · obtain ⟨e1, e2, e3, e4⟩ := sc_ok hc
    have F1 := Lib.hid e1
    have F2 := Lib.hid e2
    have F3 := Lib.hid e3
    have F4 := Lib.hid e4
    rw [hc.1, hc.2] at HOt
    clear hc e1 e2 e3 e4 HO HR
    generalize openN t = N at *
    generalize openT t = T at *
    generalize brL T = BL at *
    generalize brB T = BB at *
    generalize hbe : brE T = BE at *
    have g1 : (BE == 0) = decide (BE = 0) := rfl
    go_enter Try.func75, Try.ntmps75
    go_wp2_with (first
      | (go_at_call 27; rw [← HWA.out]; refine (HN.out _ (Below.refl _ _)).mono ?_; rintro e w1 ⟨rfl, hb1⟩)
      | (go_at_call 52; refine (HOt.out _).mono ?_; rintro e w2 ⟨rfl, hb2⟩)
      | (go_at_call 54; refine (HRt.out _).mono ?_; rintro e w3 ⟨D, q, d, rfl, r3, hb3⟩))
    refine bodyPost_ret (results_ttt4 rfl _ _) rfl ?_
    exact ⟨D, q, d, by rw [F1.out, F3.out, F4.out]; rfl, by rw [F2.out]; exact r3, HBA.out.trans ((hb1.trans ((hb2.trans (hb3.mono hb2.size)).mono hb1.size)).mono HBA.out.size)⟩
  · have HC := Lib.hid hc
    by_cases he : openE t = 0
    · have hk1 : openK t ≠ 1 := fun h => hc ⟨he, h⟩
      have g1 : (openK t != 1) = true := bne_iff_ne.2 hk1
      rw [he] at HOt
      clear he hk1 hc HO HR HRt
      generalize openK t = K at *
      generalize openN t = N at *
      generalize openT t = T at *
      go_enter Try.func75, Try.ntmps75
      go_wp2_with (first
        | (go_at_call 27; rw [← HWA.out]; refine (HN.out _ (Below.refl _ _)).mono ?_; rintro e w1 ⟨rfl, hb1⟩)
        | (go_at_call 52; refine (HOt.out _).mono ?_; rintro e w2 ⟨rfl, hb2⟩))
      refine bodyPost_ret (results_ttt4 rfl _ _) rfl ?_
      exact scPost_bad HC.out (HBA.out.trans ((hb1.trans (hb2.mono hb1.size)).mono HBA.out.size))
    · have g1 : (openE t != 0) = true := bne_iff_ne.2 he
      clear he hc HO HR HRt
      generalize openE t = E at *
      generalize openK t = K at *
      generalize openN t = N at *
      generalize openT t = T at *
      go_enter Try.func75, Try.ntmps75
      go_wp2_with (first
        | (go_at_call 27; rw [← HWA.out]; refine (HN.out _ (Below.refl _ _)).mono ?_; rintro e w1 ⟨rfl, hb1⟩)
        | (go_at_call 52; refine (HOt.out _).mono ?_; rintro e w2 ⟨rfl, hb2⟩))
      refine bodyPost_ret (results_ttt4 rfl _ _) rfl ?_
      exact scPost_bad HC.out (HBA.out.trans ((hb1.trans (hb2.mono hb1.size)).mono HBA.out.size))
end Go.Proofs.Ytjmgocfoimhmjaa

/- use.Blob, linenref.At and use.At, walked. -/
namespace Go.Proofs.Ytjmgocfoimhmjaa
open Go.RowKit

abbrev zeroBlR : Array Value := #[.int .i64 0, .int .i64 0, .int .i64 0, .string ⟨#[]⟩]
theorem info_blU : (Try.prog.info? 71).map (·.size) = some 4 := by kernel_rfl
def BlobD.row (b : BlobD) : Array Value := #[.int .i64 b.Kind, .int .i64 b.Ino, .int .i64 b.Nth, .string b.Text]
def UbPost (E : Int) (b : BlobD) (w : World) (e : Ending) (w' : World) : Prop := e = .returned (.tuple #[.agg #[.int .i64 b.Kind, .int .i64 b.Ino, .int .i64 b.Nth, .string b.Text], .int .i64 E]) ∧ Below w.heap.size w w'
theorem ubPost_bad {E k : Int} {b : BlobD} {w w' : World} (h : E = k) (hb : b = zeroBlob) (hw : Below w.heap.size w w') : UbPost E b w (.returned (.tuple #[.agg zeroBlR, .int .i64 k])) w' := ⟨by rw [h, hb]; rfl, hw⟩
theorem blobCells {w : World} {B n c : Nat} {A : Option Addr} {l : List BlobD} (r : RowsIn w B A n c BlobD.cells 4 l) {i : Nat} {p : BlobD} (h : l[i]? = some p) : ∃ b o, A = some ⟨b, o, none⟩ ∧ b < B ∧ w.cell? ⟨b, o + i * 4, none⟩ = some (.int .i64 p.Kind) ∧ w.cell? ⟨b, o + i * 4 + 1, none⟩ = some (.int .i64 p.Ino) ∧ w.cell? ⟨b, o + i * 4 + 2, none⟩ = some (.int .i64 p.Nth) ∧ w.cell? ⟨b, o + i * 4 + 3, none⟩ = some (.string p.Text) := by
  obtain ⟨b, o, e, hb, hc⟩ := r.at_ i p h
  exact ⟨b, o, e, hb, hc 0 _ rfl, hc 1 _ rfl, hc 2 _ rfl, hc 3 _ rfl⟩
theorem new3 (w : World) (o1 o2 o3 : Obj) : (((w.alloc o1).alloc o2).alloc o3).heap[w.heap.size]? = some o1 ∧ (((w.alloc o1).alloc o2).alloc o3).heap[w.heap.size + 1]? = some o2 ∧ (((w.alloc o1).alloc o2).alloc o3).heap[w.heap.size + 2]? = some o3 := by
  refine ⟨(heap_alloc_old _ _ (by simp; omega)).trans ((heap_alloc_old _ _ (by simp)).trans (heap_alloc_new w _)), ?_, ?_⟩
  · have := heap_alloc_new (w.alloc o1) o2
    rw [show (w.alloc o1).heap.size = w.heap.size + 1 by simp] at this
    exact (heap_alloc_old _ _ (by simp)).trans this
  · have := heap_alloc_new ((w.alloc o1).alloc o2) o3
    rw [show ((w.alloc o1).alloc o2).heap.size = w.heap.size + 2 by simp] at this
    exact this

set_option maxRecDepth 20000 in
set_option maxHeartbeats 2000000 in
theorem useb_any (A : Option Addr) (n c : Nat) (cs : List ByteArray) (A' : Option Addr) (n' c' : Nat) (ws : List PutD) (pc pn : Int) (w : World) (r : RowsIn w w.heap.size A n c (fun z => [.string z]) 1 cs) (r' : RowsIn w w.heap.size A' n' c' PutD.cells 2 ws) (hws : ws.length ≤ 400) :
    Calls Try.prog 74 #[.agg #[.slice A n c, .slice A' n' c'], .agg #[.int .i64 pc, .int .i64 pn]] w (UbPost (ubE cs ws pc pn) (ubB cs ws pc pn) w) := by
  have hlen := r.len
  subst hlen
  have hlen' := r'.len
  subst hlen'
  obtain ⟨wa, hwa⟩ : ∃ wa, wa = ((w.alloc (.cells #[.slice A cs.length c, .slice A' ws.length c'] 41)).alloc (.cells #[.int .i64 pc, .int .i64 pn] 27)).alloc (.cells zeroBlR 71) := ⟨_, rfl⟩
  have hza : wa.heap.size = w.heap.size + 3 := by rw [hwa]; simp
  have hba : Below w.heap.size w wa := by rw [hwa]; exact (((Below.refl _ _).alloc (Nat.le_refl _) _).alloc (by simp) _).alloc (by simp; omega) _
  obtain ⟨hrb, hrp, hra⟩ := new3 w (.cells #[.slice A cs.length c, .slice A' ws.length c'] 41) (.cells #[.int .i64 pc, .int .i64 pn] 27) (.cells zeroBlR 71)
  rw [← hwa] at hrb hrp hra
  have hle : w.heap.size ≤ wa.heap.size := by omega
  have RA := Lib.hid ((r.below hba).more hle)
  have RA' := Lib.hid ((r'.below hba).more hle)
  have hone0 : Hid ((zeroBlR : Array Value).all (·.oneCell') = true) := by simp [Hid, Value.oneCell']
  have HC : Hid (∀ W, Below wa.heap.size wa W → W.cell? ⟨w.heap.size, 0, none⟩ = some (.slice A cs.length c) ∧ W.cell? ⟨w.heap.size, 1, none⟩ = some (.slice A' ws.length c') ∧ W.cell? ⟨w.heap.size + 1, 0, none⟩ = some (.int .i64 pc) ∧ W.cell? ⟨w.heap.size + 1, 1, none⟩ = some (.int .i64 pn) ∧ Hid (W.heap[w.heap.size + 1 + 1]? = some (.cells zeroBlR 71 (0, 0)))) := fun W h => by
    have q0 := row_below hrb (row_lt hrb) h
    have q1 := row_below hrp (row_lt hrp) h
    exact ⟨row_cell q0 0, row_cell q0 1, row_cell q1 0, row_cell q1 1, row_below hra (row_lt hra) h⟩
  have HWA := Lib.hid hwa
  have HBA := Lib.hid hba
  have HZA := Lib.hid hza
  clear r r' hwa hba hra hrp hrb hza hle
  by_cases ho : pc < 2 ∨ (cs.length : Int) ≤ pc ∨ pn < 0
  · have F := Lib.hid (ub_out (ws := ws) ho)
    have F2 := Lib.hid (ub_zero F.out (by decide))
    obtain ⟨u0, u1, u2, u3, u4⟩ := HC.out wa (Below.refl _ _)
    rcases (show pc < 2 ∨ (2 ≤ pc ∧ (cs.length : Int) ≤ pc) ∨ (2 ≤ pc ∧ pc < (cs.length : Int) ∧ pn < 0) by omega) with h | ⟨h, h'⟩ | ⟨h, h', h2⟩ <;> clear ho
    all_goals
      go_enter Try.func74, Try.ntmps74
      go_upto_region 1 with fail
      rw [← HWA.out]
      go_wp2_with (refine wpList_store_rowTo rfl _ _ _ rfl rfl (w.heap.size + 1 + 1) zeroBlR rfl rfl 71 zeroBlR u4.out info_blU rfl hone0.out ?_)
      refine bodyPost_ret (results_cell_tmp_row rfl _ _ (w.heap.size + 1 + 1) _ zeroBlR (0, 0) _ rfl (row_set u4.out) Try.underlying71 rfl info_blU) rfl ?_
      exact ubPost_bad F.out F2.out (below_setRow HBA.out (by omega) _)
  · obtain ⟨k, rfl⟩ : ∃ k : Nat, pc = k := ⟨pc.toNat, by omega⟩
    obtain ⟨j, rfl⟩ : ∃ j : Nat, pn = j := ⟨pn.toNat, by omega⟩
    have hk : k < cs.length := by omega
    have hk2 : 2 ≤ k := by omega
    have HSC : Hid (∀ W, Below wa.heap.size wa W → Calls Try.prog 79 #[.agg #[.slice A cs.length c, .slice A' ws.length c'], .int .i64 k] W (ScPost (nowS cs ws k) W)) := fun W h => scell_any A _ c cs A' _ c' ws k W ((RA.out.below h).more h.size) ((RA'.out.below h).more h.size) hk hws
    unfold ScPost at HSC
    have hcase : (scO (nowS cs ws k) = false ∧ ubE cs ws k j = 18) ∨ (scO (nowS cs ws k) = true ∧ (scL (nowS cs ws k)).length ≤ j ∧ ubE cs ws k j = 12) ∨ (scO (nowS cs ws k) = true ∧ j < (scL (nowS cs ws k)).length ∧ ubE cs ws k j = 0 ∧ ubB cs ws k j = (scL (nowS cs ws k)).getD j zeroBlob) := by
      by_cases h1 : scO (nowS cs ws k) = true
      · by_cases h2 : (scL (nowS cs ws k)).length ≤ j
        · exact .inr (.inl ⟨h1, h2, ub_none ho h1 (by omega)⟩)
        · have := ub_ok ho h1 (by omega)
          rw [Int.toNat_natCast] at this
          exact .inr (.inr ⟨h1, by omega, this⟩)
      · have h1' : scO (nowS cs ws k) = false := by cases h : scO (nowS cs ws k); rfl; exact absurd h h1
        exact .inl ⟨h1', ub_corrupt ho h1'⟩
    have HUZ := Lib.hid (fun (e : Int) h h0 => ub_zero (cs := cs) (ws := ws) (pc := (k : Int)) (pn := (j : Int)) (e := e) h h0)
    generalize scO (nowS cs ws k) = so at *
    generalize scN (nowS cs ws k) = sn at *
    generalize scB (nowS cs ws k) = sb at *
    generalize scL (nowS cs ws k) = l at *
    generalize ubE cs ws k j = UE at *
    generalize ubB cs ws k j = UB at *
    have i1 : (k : Int) < (cs.length : Int) := by omega
    have i2 : ¬ (k : Int) < 2 := by omega
    have i3 : (2 : Int) ≤ (k : Int) := by omega
    obtain ⟨u0, u1, u2, u3, u4⟩ := HC.out wa (Below.refl _ _)
    clear ho hk hk2
    rcases hcase with ⟨rfl, e1⟩ | ⟨rfl, h2, e1⟩ | ⟨rfl, h2, e1, e2⟩
    · have F := Lib.hid e1
      have F2 := Lib.hid (HUZ.out _ e1 (by decide))
      clear e1 HUZ
      go_enter Try.func74, Try.ntmps74
      go_upto_region 1 with fail
      rw [← HWA.out]
      go_wp2_with (first
        | (go_at_call 79; refine (HSC.out _ (Below.refl _ _)).mono ?_; rintro e w1 ⟨D, q, d, rfl, r1, hb1⟩; obtain ⟨v0, v1, v2, v3, v4⟩ := HC.out w1 hb1; have HB1 := Lib.hid hb1; clear hb1)
        | (refine wpList_store_rowTo rfl _ _ _ rfl rfl (w.heap.size + 1 + 1) zeroBlR rfl rfl 71 zeroBlR v4.out info_blU rfl hone0.out ?_))
      refine bodyPost_ret (results_cell_tmp_row rfl _ _ (w.heap.size + 1 + 1) _ zeroBlR (0, 0) _ rfl (row_set v4.out) Try.underlying71 rfl info_blU) rfl ?_
      exact ubPost_bad F.out F2.out (below_setRow (HBA.out.trans (HB1.out.mono HBA.out.size)) (by omega) _)
    · have F := Lib.hid e1
      have F2 := Lib.hid (HUZ.out _ e1 (by decide))
      have i4 : (l.length : Int) ≤ (j : Int) := by omega
      clear e1 HUZ
      go_enter Try.func74, Try.ntmps74
      go_upto_region 1 with fail
      rw [← HWA.out]
      go_wp2_with (first
        | (go_at_call 79; refine (HSC.out _ (Below.refl _ _)).mono ?_; rintro e w1 ⟨D, q, d, rfl, r1, hb1⟩; obtain ⟨v0, v1, v2, v3, v4⟩ := HC.out w1 hb1; have HB1 := Lib.hid hb1; have hq := r1.len; subst hq; clear hb1)
        | (refine wpList_store_rowTo rfl _ _ _ rfl rfl (w.heap.size + 1 + 1) zeroBlR rfl rfl 71 zeroBlR v4.out info_blU rfl hone0.out ?_))
      refine bodyPost_ret (results_cell_tmp_row rfl _ _ (w.heap.size + 1 + 1) _ zeroBlR (0, 0) _ rfl (row_set v4.out) Try.underlying71 rfl info_blU) rfl ?_
      exact ubPost_bad F.out F2.out (below_setRow (HBA.out.trans (HB1.out.mono HBA.out.size)) (by omega) _)
    · obtain ⟨x, hx⟩ : ∃ x, l[j]? = some x := ⟨_, List.getElem?_eq_getElem h2⟩
      have e3 : l.getD j zeroBlob = x := by rw [List.getD_eq_getElem?_getD, hx]; rfl
      have F := Lib.hid e1
      have F2 := Lib.hid (e2.trans e3)
      have HX := Lib.hid hx
      have i4 : (j : Int) < (l.length : Int) := by omega
      have hone : Hid ((#[.int .i64 x.Kind, .int .i64 x.Ino, .int .i64 x.Nth, .string x.Text] : Array Value).all (·.oneCell') = true) := by simp [Hid, Value.oneCell']
      clear e1 e2 e3 HUZ hx h2
      go_enter Try.func74, Try.ntmps74
      go_upto_region 1 with fail
      rw [← HWA.out]
      go_wp2_with (first
        | (go_at_call 79; refine (HSC.out _ (Below.refl _ _)).mono ?_; rintro e w1 ⟨D, q, d, rfl, r1, hb1⟩; obtain ⟨v0, v1, v2, v3, v4⟩ := HC.out w1 hb1; have HB1 := Lib.hid hb1; have hq := r1.len; subst hq; obtain ⟨b, o, rfl, hbB, k0, k1, k2, k3⟩ := blobCells r1 HX.out; clear hb1)
        | (refine wpList_store_rowTo rfl _ _ _ rfl rfl (w.heap.size + 1 + 1) #[.int .i64 x.Kind, .int .i64 x.Ino, .int .i64 x.Nth, .string x.Text] rfl rfl 71 zeroBlR v4.out info_blU rfl hone.out ?_))
      refine bodyPost_ret (results_cell_tmp_row rfl _ _ (w.heap.size + 1 + 1) _ #[.int .i64 x.Kind, .int .i64 x.Ino, .int .i64 x.Nth, .string x.Text] (0, 0) _ rfl (row_set v4.out) Try.underlying71 rfl info_blU) rfl ?_
      exact ⟨by rw [F.out, F2.out] <;> rfl, below_setRow (HBA.out.trans (HB1.out.mono HBA.out.size)) (by omega) _⟩

set_option maxRecDepth 20000 in
set_option maxHeartbeats 2000000 in
theorem atr_any (A : Option Addr) (n c : Nat) (cs : List ByteArray) (A' : Option Addr) (n' c' : Nat) (ws : List PutD) (pc pn : Int) (w : World) (r : RowsIn w w.heap.size A n c (fun z => [.string z]) 1 cs) (r' : RowsIn w w.heap.size A' n' c' PutD.cells 2 ws) (hws : ws.length ≤ 400) :
    Calls Try.prog 41 #[.agg #[.slice A n c, .slice A' n' c'], .agg #[.int .i64 pc, .int .i64 pn]] w (UbPost (ubE cs ws pc pn) (ubB cs ws pc pn) w) := by
  have hlen := r.len
  subst hlen
  have hlen' := r'.len
  subst hlen'
  obtain ⟨wa, hwa⟩ : ∃ wa, wa = ((w.alloc (.cells #[.slice A cs.length c, .slice A' ws.length c'] 41)).alloc (.cells #[.int .i64 pc, .int .i64 pn] 27)).alloc (.cells zeroBlR 71) := ⟨_, rfl⟩
  have hza : wa.heap.size = w.heap.size + 3 := by rw [hwa]; simp
  have hba : Below w.heap.size w wa := by rw [hwa]; exact (((Below.refl _ _).alloc (Nat.le_refl _) _).alloc (by simp) _).alloc (by simp; omega) _
  obtain ⟨hrb, hrp, hra⟩ := new3 w (.cells #[.slice A cs.length c, .slice A' ws.length c'] 41) (.cells #[.int .i64 pc, .int .i64 pn] 27) (.cells zeroBlR 71)
  rw [← hwa] at hrb hrp hra
  have hle : w.heap.size ≤ wa.heap.size := by omega
  have RA := Lib.hid ((r.below hba).more hle)
  have RA' := Lib.hid ((r'.below hba).more hle)
  have hone0 : Hid ((zeroBlR : Array Value).all (·.oneCell') = true) := by simp [Hid, Value.oneCell']
  have HC : Hid (∀ W, Below wa.heap.size wa W → W.cell? ⟨w.heap.size, 0, none⟩ = some (.slice A cs.length c) ∧ W.cell? ⟨w.heap.size, 1, none⟩ = some (.slice A' ws.length c') ∧ W.cell? ⟨w.heap.size + 1, 0, none⟩ = some (.int .i64 pc) ∧ W.cell? ⟨w.heap.size + 1, 1, none⟩ = some (.int .i64 pn) ∧ Hid (W.heap[w.heap.size + 1 + 1]? = some (.cells zeroBlR 71 (0, 0)))) := fun W h => by
    have q0 := row_below hrb (row_lt hrb) h
    have q1 := row_below hrp (row_lt hrp) h
    exact ⟨row_cell q0 0, row_cell q0 1, row_cell q1 0, row_cell q1 1, row_below hra (row_lt hra) h⟩
  have HWA := Lib.hid hwa
  have HBA := Lib.hid hba
  have HZA := Lib.hid hza
  clear r r' hwa hba hra hrp hrb hza hle
  by_cases ho : pc < 2 ∨ (cs.length : Int) ≤ pc ∨ pn < 0
  · have F := Lib.hid (ub_out (ws := ws) ho)
    have F2 := Lib.hid (ub_zero F.out (by decide))
    obtain ⟨u0, u1, u2, u3, u4⟩ := HC.out wa (Below.refl _ _)
    rcases (show pc < 2 ∨ (2 ≤ pc ∧ (cs.length : Int) ≤ pc) ∨ (2 ≤ pc ∧ pc < (cs.length : Int) ∧ pn < 0) by omega) with h | ⟨h, h'⟩ | ⟨h, h', h2⟩ <;> clear ho
    all_goals
      go_enter Try.func41, Try.ntmps41
      go_upto_region 1 with fail
      rw [← HWA.out]
      go_wp2_with (refine wpList_store_rowTo rfl _ _ _ rfl rfl (w.heap.size + 1 + 1) zeroBlR rfl rfl 71 zeroBlR u4.out info_blU rfl hone0.out ?_)
      refine bodyPost_ret (results_cell_tmp_row rfl _ _ (w.heap.size + 1 + 1) _ zeroBlR (0, 0) _ rfl (row_set u4.out) Try.underlying71 rfl info_blU) rfl ?_
      exact ubPost_bad F.out F2.out (below_setRow HBA.out (by omega) _)
  · obtain ⟨k, rfl⟩ : ∃ k : Nat, pc = k := ⟨pc.toNat, by omega⟩
    obtain ⟨j, rfl⟩ : ∃ j : Nat, pn = j := ⟨pn.toNat, by omega⟩
    have hk : k < cs.length := by omega
    have hk2 : 2 ≤ k := by omega
    have HSC : Hid (∀ W, Below wa.heap.size wa W → Calls Try.prog 75 #[.agg #[.slice A cs.length c, .slice A' ws.length c'], .int .i64 k] W (ScPost (nowS cs ws k) W)) := fun W h => rlog_any A _ c cs A' _ c' ws k W ((RA.out.below h).more h.size) ((RA'.out.below h).more h.size) hk hws hk2
    unfold ScPost at HSC
    have hcase : (scO (nowS cs ws k) = false ∧ ubE cs ws k j = 18) ∨ (scO (nowS cs ws k) = true ∧ (scL (nowS cs ws k)).length ≤ j ∧ ubE cs ws k j = 12) ∨ (scO (nowS cs ws k) = true ∧ j < (scL (nowS cs ws k)).length ∧ ubE cs ws k j = 0 ∧ ubB cs ws k j = (scL (nowS cs ws k)).getD j zeroBlob) := by
      by_cases h1 : scO (nowS cs ws k) = true
      · by_cases h2 : (scL (nowS cs ws k)).length ≤ j
        · exact .inr (.inl ⟨h1, h2, ub_none ho h1 (by omega)⟩)
        · have := ub_ok ho h1 (by omega)
          rw [Int.toNat_natCast] at this
          exact .inr (.inr ⟨h1, by omega, this⟩)
      · have h1' : scO (nowS cs ws k) = false := by cases h : scO (nowS cs ws k); rfl; exact absurd h h1
        exact .inl ⟨h1', ub_corrupt ho h1'⟩
    have HUZ := Lib.hid (fun (e : Int) h h0 => ub_zero (cs := cs) (ws := ws) (pc := (k : Int)) (pn := (j : Int)) (e := e) h h0)
    generalize scO (nowS cs ws k) = so at *
    generalize scN (nowS cs ws k) = sn at *
    generalize scB (nowS cs ws k) = sb at *
    generalize scL (nowS cs ws k) = l at *
    generalize ubE cs ws k j = UE at *
    generalize ubB cs ws k j = UB at *
    have i1 : (k : Int) < (cs.length : Int) := by omega
    have i2 : ¬ (k : Int) < 2 := by omega
    have i3 : (2 : Int) ≤ (k : Int) := by omega
    obtain ⟨u0, u1, u2, u3, u4⟩ := HC.out wa (Below.refl _ _)
    clear ho hk hk2
    rcases hcase with ⟨rfl, e1⟩ | ⟨rfl, h2, e1⟩ | ⟨rfl, h2, e1, e2⟩
    · have F := Lib.hid e1
      have F2 := Lib.hid (HUZ.out _ e1 (by decide))
      clear e1 HUZ
      go_enter Try.func41, Try.ntmps41
      go_upto_region 1 with fail
      rw [← HWA.out]
      go_wp2_with (first
        | (go_at_call 75; refine (HSC.out _ (Below.refl _ _)).mono ?_; rintro e w1 ⟨D, q, d, rfl, r1, hb1⟩; obtain ⟨v0, v1, v2, v3, v4⟩ := HC.out w1 hb1; have HB1 := Lib.hid hb1; clear hb1)
        | (refine wpList_store_rowTo rfl _ _ _ rfl rfl (w.heap.size + 1 + 1) zeroBlR rfl rfl 71 zeroBlR v4.out info_blU rfl hone0.out ?_))
      refine bodyPost_ret (results_cell_tmp_row rfl _ _ (w.heap.size + 1 + 1) _ zeroBlR (0, 0) _ rfl (row_set v4.out) Try.underlying71 rfl info_blU) rfl ?_
      exact ubPost_bad F.out F2.out (below_setRow (HBA.out.trans (HB1.out.mono HBA.out.size)) (by omega) _)
    · have F := Lib.hid e1
      have F2 := Lib.hid (HUZ.out _ e1 (by decide))
      have i4 : (l.length : Int) ≤ (j : Int) := by omega
      clear e1 HUZ
      go_enter Try.func41, Try.ntmps41
      go_upto_region 1 with fail
      rw [← HWA.out]
      go_wp2_with (first
        | (go_at_call 75; refine (HSC.out _ (Below.refl _ _)).mono ?_; rintro e w1 ⟨D, q, d, rfl, r1, hb1⟩; obtain ⟨v0, v1, v2, v3, v4⟩ := HC.out w1 hb1; have HB1 := Lib.hid hb1; have hq := r1.len; subst hq; clear hb1)
        | (refine wpList_store_rowTo rfl _ _ _ rfl rfl (w.heap.size + 1 + 1) zeroBlR rfl rfl 71 zeroBlR v4.out info_blU rfl hone0.out ?_))
      refine bodyPost_ret (results_cell_tmp_row rfl _ _ (w.heap.size + 1 + 1) _ zeroBlR (0, 0) _ rfl (row_set v4.out) Try.underlying71 rfl info_blU) rfl ?_
      exact ubPost_bad F.out F2.out (below_setRow (HBA.out.trans (HB1.out.mono HBA.out.size)) (by omega) _)
    · obtain ⟨x, hx⟩ : ∃ x, l[j]? = some x := ⟨_, List.getElem?_eq_getElem h2⟩
      have e3 : l.getD j zeroBlob = x := by rw [List.getD_eq_getElem?_getD, hx]; rfl
      have F := Lib.hid e1
      have F2 := Lib.hid (e2.trans e3)
      have HX := Lib.hid hx
      have i4 : (j : Int) < (l.length : Int) := by omega
      have hone : Hid ((#[.int .i64 x.Kind, .int .i64 x.Ino, .int .i64 x.Nth, .string x.Text] : Array Value).all (·.oneCell') = true) := by simp [Hid, Value.oneCell']
      clear e1 e2 e3 HUZ hx h2
      go_enter Try.func41, Try.ntmps41
      go_upto_region 1 with fail
      rw [← HWA.out]
      go_wp2_with (first
        | (go_at_call 75; refine (HSC.out _ (Below.refl _ _)).mono ?_; rintro e w1 ⟨D, q, d, rfl, r1, hb1⟩; obtain ⟨v0, v1, v2, v3, v4⟩ := HC.out w1 hb1; have HB1 := Lib.hid hb1; have hq := r1.len; subst hq; obtain ⟨b, o, rfl, hbB, k0, k1, k2, k3⟩ := blobCells r1 HX.out; clear hb1)
        | (refine wpList_store_rowTo rfl _ _ _ rfl rfl (w.heap.size + 1 + 1) #[.int .i64 x.Kind, .int .i64 x.Ino, .int .i64 x.Nth, .string x.Text] rfl rfl 71 zeroBlR v4.out info_blU rfl hone.out ?_))
      refine bodyPost_ret (results_cell_tmp_row rfl _ _ (w.heap.size + 1 + 1) _ #[.int .i64 x.Kind, .int .i64 x.Ino, .int .i64 x.Nth, .string x.Text] (0, 0) _ rfl (row_set v4.out) Try.underlying71 rfl info_blU) rfl ?_
      exact ⟨by rw [F.out, F2.out] <;> rfl, below_setRow (HBA.out.trans (HB1.out.mono HBA.out.size)) (by omega) _⟩

noncomputable def uaE (cs : List ByteArray) (ws : List PutD) (pc pn : Int) : Int := if dskE cs ws ≠ 0 then dskE cs ws else ubE cs ws pc pn
noncomputable def uaB (cs : List ByteArray) (ws : List PutD) (pc pn : Int) : BlobD := if dskE cs ws ≠ 0 then zeroBlob else ubB cs ws pc pn
theorem ua_bad {cs : List ByteArray} {ws : List PutD} {pc pn : Int} (h : dskE cs ws ≠ 0) : uaE cs ws pc pn = dskE cs ws ∧ uaB cs ws pc pn = zeroBlob := by unfold uaE uaB; rw [if_pos h, if_pos h]; exact ⟨rfl, rfl⟩
theorem ua_ok {cs : List ByteArray} {ws : List PutD} {pc pn : Int} (h : dskE cs ws = 0) : uaE cs ws pc pn = ubE cs ws pc pn ∧ uaB cs ws pc pn = ubB cs ws pc pn := by
  have e : ¬ (dskE cs ws ≠ 0) := fun g => g h
  unfold uaE uaB; rw [if_neg e, if_neg e]; exact ⟨rfl, rfl⟩

set_option maxRecDepth 20000 in
set_option maxHeartbeats 2000000 in
theorem usea_any (A : Option Addr) (n c : Nat) (cs : List ByteArray) (A' : Option Addr) (n' c' : Nat) (ws : List PutD) (pc pn : Int) (w : World) (r : RowsIn w w.heap.size A n c (fun z => [.string z]) 1 cs) (r' : RowsIn w w.heap.size A' n' c' PutD.cells 2 ws) :
    Calls Try.prog 40 #[.agg #[.slice A n c, .slice A' n' c'], .agg #[.int .i64 pc, .int .i64 pn]] w (UbPost (uaE cs ws pc pn) (uaB cs ws pc pn) w) := by
  have hlen := r.len
  subst hlen
  have hlen' := r'.len
  subst hlen'
  obtain ⟨wa, hwa⟩ : ∃ wa, wa = ((w.alloc (.cells #[.slice A cs.length c, .slice A' ws.length c'] 41)).alloc (.cells #[.int .i64 pc, .int .i64 pn] 27)).alloc (.cells zeroBlR 71) := ⟨_, rfl⟩
  have hza : wa.heap.size = w.heap.size + 3 := by rw [hwa]; simp
  have hba : Below w.heap.size w wa := by rw [hwa]; exact (((Below.refl _ _).alloc (Nat.le_refl _) _).alloc (by simp) _).alloc (by simp; omega) _
  obtain ⟨hrb, hrp, hra⟩ := new3 w (.cells #[.slice A cs.length c, .slice A' ws.length c'] 41) (.cells #[.int .i64 pc, .int .i64 pn] 27) (.cells zeroBlR 71)
  rw [← hwa] at hrb hrp hra
  have hle : w.heap.size ≤ wa.heap.size := by omega
  have RA := Lib.hid ((r.below hba).more hle)
  have RA' := Lib.hid ((r'.below hba).more hle)
  have hone0 : Hid ((zeroBlR : Array Value).all (·.oneCell') = true) := by simp [Hid, Value.oneCell']
  have HC : Hid (∀ W, Below wa.heap.size wa W → W.cell? ⟨w.heap.size, 0, none⟩ = some (.slice A cs.length c) ∧ W.cell? ⟨w.heap.size, 1, none⟩ = some (.slice A' ws.length c') ∧ W.cell? ⟨w.heap.size + 1, 0, none⟩ = some (.int .i64 pc) ∧ W.cell? ⟨w.heap.size + 1, 1, none⟩ = some (.int .i64 pn) ∧ Hid (W.heap[w.heap.size + 1 + 1]? = some (.cells zeroBlR 71 (0, 0)))) := fun W h => by
    have q0 := row_below hrb (row_lt hrb) h
    have q1 := row_below hrp (row_lt hrp) h
    exact ⟨row_cell q0 0, row_cell q0 1, row_cell q1 0, row_cell q1 1, row_below hra (row_lt hra) h⟩
  have HWA := Lib.hid hwa
  have HBA := Lib.hid hba
  have HZA := Lib.hid hza
  clear r r' hwa hba hra hrp hrb hza hle
  have HCK := Lib.hid (dchk_any A _ c cs A' _ c' ws wa RA.out RA'.out)
  by_cases hd : dskE cs ws = 0
  · obtain ⟨e1, e2⟩ := ua_ok (pc := pc) (pn := pn) hd
    have h400 := (dsk_zero hd).2.2.2.2
    have HUB : Hid (∀ W, Below wa.heap.size wa W → Calls Try.prog 74 #[.agg #[.slice A cs.length c, .slice A' ws.length c'], .agg #[.int .i64 pc, .int .i64 pn]] W (UbPost (ubE cs ws pc pn) (ubB cs ws pc pn) W)) := fun W h => useb_any A _ c cs A' _ c' ws pc pn W ((RA.out.below h).more h.size) ((RA'.out.below h).more h.size) h400
    unfold UbPost at HUB
    have F := Lib.hid e1
    have F2 := Lib.hid e2
    rw [hd] at HCK
    clear e1 e2 h400 hd
    generalize ubE cs ws pc pn = UE at *
    generalize ubB cs ws pc pn = x at *
    have hone : Hid ((#[.int .i64 x.Kind, .int .i64 x.Ino, .int .i64 x.Nth, .string x.Text] : Array Value).all (·.oneCell') = true) := by simp [Hid, Value.oneCell']
    go_enter Try.func40, Try.ntmps40
    go_wp2_with (first
      | (go_at_call 60; rw [← HWA.out]; refine HCK.out.mono ?_; rintro e w1 ⟨rfl, hb1⟩; obtain ⟨v0, v1, v2, v3, v4⟩ := HC.out w1 hb1; have HB1 := Lib.hid hb1; clear hb1)
      | (go_at_call 74; refine (HUB.out _ HB1.out).mono ?_; rintro e w2 ⟨rfl, hb2⟩; have HB2 := Lib.hid (HB1.out.trans (hb2.mono HB1.out.size)); obtain ⟨y0, y1, y2, y3, y4⟩ := HC.out w2 HB2.out; clear hb2)
      | (refine wpList_store_rowTo rfl _ _ _ rfl rfl (w.heap.size + 1 + 1) #[.int .i64 x.Kind, .int .i64 x.Ino, .int .i64 x.Nth, .string x.Text] rfl rfl 71 zeroBlR y4.out info_blU rfl hone.out ?_))
    refine bodyPost_ret (results_cell_tmp_row rfl _ _ (w.heap.size + 1 + 1) _ #[.int .i64 x.Kind, .int .i64 x.Ino, .int .i64 x.Nth, .string x.Text] (0, 0) _ rfl (row_set y4.out) Try.underlying71 rfl info_blU) rfl ?_
    exact ⟨by rw [F.out, F2.out] <;> rfl, below_setRow (HBA.out.trans (HB2.out.mono HBA.out.size)) (by omega) _⟩
  · obtain ⟨e1, e2⟩ := ua_bad (pc := pc) (pn := pn) hd
    have F := Lib.hid e1
    have F2 := Lib.hid e2
    have i4 : (dskE cs ws != 0) = true := bne_iff_ne.2 hd
    generalize dskE cs ws = de at *
    clear hd e1 e2
    go_enter Try.func40, Try.ntmps40
    go_wp2_with (first
      | (go_at_call 60; rw [← HWA.out]; refine HCK.out.mono ?_; rintro e w1 ⟨rfl, hb1⟩; obtain ⟨v0, v1, v2, v3, v4⟩ := HC.out w1 hb1; have HB1 := Lib.hid hb1; clear hb1)
      | (refine wpList_store_rowTo rfl _ _ _ rfl rfl (w.heap.size + 1 + 1) zeroBlR rfl rfl 71 zeroBlR v4.out info_blU rfl hone0.out ?_))
    refine bodyPost_ret (results_cell_tmp_row rfl _ _ (w.heap.size + 1 + 1) _ zeroBlR (0, 0) _ rfl (row_set v4.out) Try.underlying71 rfl info_blU) rfl ?_
    exact ubPost_bad F.out F2.out (below_setRow (HBA.out.trans (HB1.out.mono HBA.out.size)) (by omega) _)
end Go.Proofs.Ytjmgocfoimhmjaa

namespace Go.Proofs.Ytjmgocfoimhmjaa
open Go.RowKit

def inOk (cs : List ByteArray) (ws : List PutD) (n : Int) (p : PlaceD) (g : Int) : Prop := ubE cs ws p.Cell p.Nth = 0 ∧ (ubB cs ws p.Cell p.Nth).Kind = 2 ∧ (ubB cs ws p.Cell p.Nth).Ino = n ∧ irE (ubB cs ws p.Cell p.Nth).Text = 0 ∧ irG (ubB cs ws p.Cell p.Nth).Text = g
def ptOk (cs : List ByteArray) (ws : List PutD) (n k : Int) (q : PlaceD) : Prop := ubE cs ws q.Cell q.Nth = 0 ∧ (ubB cs ws q.Cell q.Nth).Kind = 1 ∧ (ubB cs ws q.Cell q.Nth).Ino = n ∧ (ubB cs ws q.Cell q.Nth).Nth = k
noncomputable def pts (cs : List ByteArray) (ws : List PutD) (p : PlaceD) : List PlaceD := irP (ubB cs ws p.Cell p.Nth).Text
def okTo (cs : List ByteArray) (ws : List PutD) (n : Int) (l : List PlaceD) (i : Nat) : Prop := ∀ (j : Nat) (q : PlaceD), j < i → l[j]? = some q → q.Cell = 0 ∨ ptOk cs ws n j q
def ptL (l : List PlaceD) (i : Nat) : List PlaceD := (l.take i).filter (fun q => decide (q.Cell ≠ 0))
def inGood (cs : List ByteArray) (ws : List PutD) (n : Nat) (p : PlaceD) (g : Int) : Prop := p.Cell = 0 ∨ (inOk cs ws n p g ∧ okTo cs ws n (pts cs ws p) (pts cs ws p).length)
noncomputable def inL (cs : List ByteArray) (ws : List PutD) (p : PlaceD) : List PlaceD := if p.Cell = 0 then [] else p :: ptL (pts cs ws p) (pts cs ws p).length
def alGood (cs : List ByteArray) (ws : List PutD) (xs : List PlaceD) (gs : List Int) (i : Nat) : Prop := ∀ (n : Nat) (p : PlaceD) (g : Int), n < i → xs[n]? = some p → gs[n]? = some g → inGood cs ws n p g
noncomputable def alL (cs : List ByteArray) (ws : List PutD) (xs : List PlaceD) (i : Nat) : List PlaceD := (xs.take i).flatMap (inL cs ws)
noncomputable def cnt (cs : List ByteArray) (ws : List PutD) (l : List PlaceD) : List Int := l.foldl (fun acc p => acc.set p.Cell.toNat (acc.getD p.Cell.toNat 0 + ((ubB cs ws p.Cell p.Nth).Text.size : Int))) (List.replicate cs.length 0)
section
variable {cs : List ByteArray} {ws : List PutD} {xs : List PlaceD} {gs : List Int}
theorem ptL_skip {l : List PlaceD} {i : Nat} {q : PlaceD} (h : l[i]? = some q) (h0 : q.Cell = 0) : ptL l (i + 1) = ptL l i := by
  unfold ptL; rw [List.take_add_one, h, List.filter_append]; simp [h0]
theorem ptL_add {l : List PlaceD} {i : Nat} {q : PlaceD} (h : l[i]? = some q) (h0 : q.Cell ≠ 0) : ptL l (i + 1) = ptL l i ++ [q] := by
  unfold ptL; rw [List.take_add_one, h, List.filter_append]; simp [h0]
theorem ptL_len (l : List PlaceD) (i : Nat) : (ptL l i).length ≤ i := by
  unfold ptL
  have h1 := List.length_filter_le (fun q : PlaceD => decide (q.Cell ≠ 0)) (l.take i)
  have h2 := List.length_take_le i l
  omega
theorem okTo_succ {n : Int} {l : List PlaceD} {i : Nat} {q : PlaceD} (h : okTo cs ws n l i) (hq : l[i]? = some q) (h1 : q.Cell = 0 ∨ ptOk cs ws n i q) : okTo cs ws n l (i + 1) := fun j r hj hr => by
  rcases Nat.lt_succ_iff_lt_or_eq.1 hj with hj | rfl
  · exact h j r hj hr
  · rw [hq] at hr; injection hr with hr; subst hr; exact h1
theorem okTo_not {n : Int} {l : List PlaceD} {i : Nat} {q : PlaceD} (hq : l[i]? = some q) (h0 : q.Cell ≠ 0) (h1 : ¬ ptOk cs ws n i q) : ¬ okTo cs ws n l l.length := fun h => by
  rcases h i q (List.getElem?_eq_some_iff.1 hq).1 hq with h | h
  · exact h0 h
  · exact h1 h
theorem alGood_zero : alGood cs ws xs gs 0 := fun n p g h => by omega
theorem alGood_succ {i : Nat} {p : PlaceD} {g : Int} (h : alGood cs ws xs gs i) (hp : xs[i]? = some p) (hg : gs[i]? = some g) (h1 : inGood cs ws i p g) : alGood cs ws xs gs (i + 1) := fun n p' g' hn hp' hg' => by
  rcases Nat.lt_succ_iff_lt_or_eq.1 hn with hn | rfl
  · exact h n p' g' hn hp' hg'
  · rw [hp] at hp'; rw [hg] at hg'
    injection hp' with hp'; injection hg' with hg'
    subst hp'; subst hg'; exact h1
theorem alGood_not {i m : Nat} {p : PlaceD} {g : Int} (hi : i < m) (hp : xs[i]? = some p) (hg : gs[i]? = some g) (h1 : ¬ inGood cs ws i p g) : ¬ alGood cs ws xs gs m := fun h => h1 (h i p g hi hp hg)
theorem alL_succ {i : Nat} {p : PlaceD} (hp : xs[i]? = some p) : alL cs ws xs (i + 1) = alL cs ws xs i ++ inL cs ws p := by
  unfold alL; rw [List.take_add_one, hp, List.flatMap_append]; simp
theorem inL_skip {p : PlaceD} (h : p.Cell = 0) : inL cs ws p = [] := if_pos h
theorem inL_add {p : PlaceD} (h : p.Cell ≠ 0) : inL cs ws p = p :: ptL (pts cs ws p) (pts cs ws p).length := if_neg h
theorem irP_len (t : ByteArray) : (irP t).length ≤ 8 := by
  by_cases h : IrOk t
  · rw [(ir_ok h).2.2.2.2]
    obtain ⟨_, _, _, _, h4, h5, _⟩ := inoE_zero h.2.2
    rw [iP_length] at *
    omega
  · rw [(ir_bad h).2.2.2.2]; simp
theorem irP_right {t : ByteArray} {q : PlaceD} (h : q ∈ irP t) : rightB q.Cell q.Nth = true := by
  by_cases hk : IrOk t
  · rw [(ir_ok hk).2.2.2.2] at h
    obtain ⟨i, hi, e⟩ := List.mem_iff_getElem.1 h
    obtain ⟨p, hp, hr⟩ := (inoE_zero hk.2.2).2.2.2.2.2.2 i hi
    rw [List.getElem?_eq_getElem hi] at hp
    injection hp with hp
    rw [← e, hp]; exact hr
  · rw [(ir_bad hk).2.2.2.2] at h; simp at h
theorem inL_len (p : PlaceD) : (inL cs ws p).length ≤ 9 := by
  unfold inL
  split
  · simp
  · have h1 := ptL_len (pts cs ws p) (pts cs ws p).length
    have h2 : (pts cs ws p).length ≤ 8 := irP_len _
    simp; omega
theorem alL_len (i : Nat) : (alL cs ws xs i).length ≤ 9 * i := by
  unfold alL
  have : ∀ l : List PlaceD, (l.flatMap (inL cs ws)).length ≤ 9 * l.length := fun l => by
    induction l with
    | nil => simp
    | cons p r ih => have := inL_len (cs := cs) (ws := ws) p; simp [List.flatMap_cons] at *; omega
  have h1 := this (xs.take i)
  have h2 := List.length_take_le i xs
  omega
theorem cnt_snoc (l : List PlaceD) (p : PlaceD) : cnt cs ws (l ++ [p]) = (cnt cs ws l).set p.Cell.toNat ((cnt cs ws l).getD p.Cell.toNat 0 + ((ubB cs ws p.Cell p.Nth).Text.size : Int)) := by
  unfold cnt; rw [List.foldl_append]; rfl
theorem cnt_len (l : List PlaceD) : (cnt cs ws l).length = cs.length := by
  unfold cnt
  suffices h : ∀ (l : List PlaceD) (acc : List Int), (l.foldl (fun acc p => acc.set p.Cell.toNat (acc.getD p.Cell.toNat 0 + ((ubB cs ws p.Cell p.Nth).Text.size : Int))) acc).length = acc.length by rw [h]; simp
  intro l
  induction l with
  | nil => intro acc; rfl
  | cons p r ih => intro acc; rw [List.foldl_cons, ih]; simp
theorem cnt_bd (hz : ∀ p : PlaceD, (ubB cs ws p.Cell p.Nth).Text.size ≤ 1024) (l : List PlaceD) (j : Nat) (v : Int) (h : (cnt cs ws l)[j]? = some v) : 0 ≤ v ∧ v ≤ 1024 * (l.length : Int) := by
  unfold cnt at h
  suffices hh : ∀ (l : List PlaceD) (acc : List Int) (K : Nat), (∀ (j : Nat) (v : Int), acc[j]? = some v → 0 ≤ v ∧ v ≤ 1024 * (K : Int)) → ∀ (j : Nat) (v : Int), (l.foldl (fun acc p => acc.set p.Cell.toNat (acc.getD p.Cell.toNat 0 + ((ubB cs ws p.Cell p.Nth).Text.size : Int))) acc)[j]? = some v → 0 ≤ v ∧ v ≤ 1024 * ((K + l.length : Nat) : Int) by
    have := hh l (List.replicate cs.length 0) 0 (fun j v hv => by
      have := List.mem_of_getElem? hv
      have := List.eq_of_mem_replicate this
      subst this; simp) j v h
    simpa using this
  intro l
  induction l with
  | nil => intro acc K ha j v hv; simpa using ha j v hv
  | cons p r ih =>
    intro acc K ha j v hv
    rw [List.foldl_cons] at hv
    have := ih _ (K + 1) (fun j v hv => by
      rw [List.getElem?_set] at hv
      split at hv
      · split at hv
        · injection hv with hv
          subst hv
          have h1 := hz p
          have h2 : 0 ≤ acc.getD p.Cell.toNat 0 ∧ acc.getD p.Cell.toNat 0 ≤ 1024 * (K : Int) := by
            rw [List.getD_eq_getElem?_getD]
            cases hc : acc[p.Cell.toNat]? with
            | none => exact ⟨Int.le_refl _, by show (0 : Int) ≤ 1024 * (K : Int); omega⟩
            | some u => exact ha _ u hc
          constructor
          · omega
          · push_cast; omega
        · cases hv
      · have := ha j v hv
        constructor
        · exact this.1
        · push_cast; omega) j v hv
    rw [show (K + 1 + r.length : Nat) = K + (p :: r).length by simp; omega] at this
    exact this
theorem ents_size (s : ByteArray) (j : Nat) : ∀ b ∈ bents s j, b.Text.size ≤ s.size := fun b hb => by
  unfold bents at hb
  obtain ⟨i, _, rfl⟩ := List.mem_map.1 hb
  unfold ent
  simp [ByteArray.size_extract]; omega
theorem openT_size (s : ByteArray) : (openT s).size ≤ s.size := by
  unfold openT
  split
  · simp [ByteArray.size_extract]; omega
  · exact Nat.zero_le _
theorem scL_size (t : ByteArray) : ∀ b ∈ scL t, b.Text.size ≤ t.size := fun b hb => by
  unfold scL at hb
  split at hb
  · unfold brL at hb
    split at hb
    · exact Nat.le_trans (ents_size _ _ b hb) (openT_size t)
    · simp at hb
  · simp at hb
theorem now_size {k : Nat} (hk : k < cs.length) (h : dskE cs ws = 0) : (nowS cs ws k).size ≤ 1024 := by
  obtain ⟨_, _, h2, h3, _⟩ := dsk_zero h
  refine lastP_size _ _ _ _ _ (fun p hp => (wait_all h3 p hp).2.2) ?_
  rw [Int.toNat_natCast, List.getD_eq_getElem?_getD, List.getElem?_eq_getElem hk]
  exact cells_small h2 _ (by simp)
theorem ubE_zero {pc pn : Int} (h : ubE cs ws pc pn = 0) : 2 ≤ pc ∧ pc < cs.length ∧ 0 ≤ pn := by
  by_cases ho : pc < 2 ∨ (cs.length : Int) ≤ pc ∨ pn < 0
  · rw [ub_out ho] at h; cases h
  · omega
theorem ubB_size (h : dskE cs ws = 0) (pc pn : Int) : (ubB cs ws pc pn).Text.size ≤ 1024 := by
  unfold ubB
  split
  · rename_i he
    obtain ⟨h1, h2, h3⟩ := ubE_zero he
    obtain ⟨k, rfl⟩ : ∃ k : Nat, pc = k := ⟨pc.toNat, by omega⟩
    rw [List.getD_eq_getElem?_getD]
    cases hc : (scL (nowS cs ws k))[pn.toNat]? with
    | none => exact Nat.zero_le _
    | some b => exact Nat.le_trans (scL_size _ b (List.mem_of_getElem? hc)) (now_size (by omega) h)
  · exact Nat.zero_le _
open Classical in
noncomputable def ucE (cs : List ByteArray) (ws : List PutD) (xs : List PlaceD) (gs : List Int) : Int := if dskE cs ws ≠ 0 then dskE cs ws else if impE xs gs ≠ 0 then impE xs gs else if alGood cs ws xs gs 48 then 0 else 18
noncomputable def ucL (cs : List ByteArray) (ws : List PutD) (xs : List PlaceD) (gs : List Int) : List Int := if ucE cs ws xs gs = 0 then cnt cs ws (alL cs ws xs 48) else []
theorem uc_dsk (h : dskE cs ws ≠ 0) : ucE cs ws xs gs = dskE cs ws := if_pos h
theorem uc_imp (h : dskE cs ws = 0) (h2 : impE xs gs ≠ 0) : ucE cs ws xs gs = impE xs gs := by unfold ucE; rw [if_neg (fun g => g h), if_pos h2]
theorem uc_no (h : dskE cs ws = 0) (h2 : impE xs gs = 0) (h3 : ¬ alGood cs ws xs gs 48) : ucE cs ws xs gs = 18 := by unfold ucE; rw [if_neg (fun g => g h), if_neg (fun g => g h2), if_neg h3]
theorem uc_ok (h : dskE cs ws = 0) (h2 : impE xs gs = 0) (h3 : alGood cs ws xs gs 48) : ucE cs ws xs gs = 0 ∧ ucL cs ws xs gs = cnt cs ws (alL cs ws xs 48) := by
  have e : ucE cs ws xs gs = 0 := by unfold ucE; rw [if_neg (fun g => g h), if_neg (fun g => g h2), if_pos h3]
  exact ⟨e, by unfold ucL; rw [if_pos e]⟩
theorem uc_bad {e : Int} (h : ucE cs ws xs gs = e) (h0 : e ≠ 0) : ucL cs ws xs gs = [] := by unfold ucL; rw [if_neg (by rw [h]; exact h0)]
end
end Go.Proofs.Ytjmgocfoimhmjaa
