/- The law OpsPlays, walked: it returns true for every disk, list of operations, number and list of what is kept. -/
import Derived.Test.YtjmgocfoimhmjaaPlayR
import Derived.Test.YtjmgocfoimhmjaaUntilW
import Derived.Test.YtjmgocfoimhmjaaLandR
import Derived.Test.YtjmgocfoimhmjaaSameD
namespace Go.Proofs.Ytjmgocfoimhmjaa.lOpsPlays
open Go.RowKit

theorem cf_law : ∀ (args : Array Value) (W : World), (callFunc 32 args).run Try.prog W = .ok (.enter 32 args) W := fun args W => by kernel_rfl
set_option maxRecDepth 20000 in
set_option maxHeartbeats 400000 in
theorem law1_any (i : Nat) (p : Nat) (A : Option Addr) (n c : Nat) (ks : List Bool) (B : Nat) (W : World) (hp : W.cell? ⟨p, 0, none⟩ = some (.slice A n c)) (r : RowsIn W B A n c (fun z => [.bool z]) 1 ks) :
    Calls Try.prog 32 #[.int .i64 (i : Int), .pointer (some ⟨p, 0, none⟩)] W fun e w' => e = .returned (.bool (keepB ks i)) ∧ Below W.heap.size W w' := by
  have hlen := r.len
  obtain rfl := hlen
  have htop := r.top
  have hle := r.le
  unfold maxLen at htop
  by_cases hlt : i < ks.length
  · have e1 := List.getElem?_eq_getElem hlt
    obtain ⟨b, o, rfl, hb, hc⟩ := r.one e1
    have F : Hid (keepB ks i = ks[i]) := by simp only [Hid]; unfold keepB; simp [List.getD_eq_getElem?_getD, e1]
    have i1 : (i : Int) < (ks.length : Int) := by omega
    generalize ks[i] = x at *
    clear e1
    cases x
    all_goals
      go_enter Try.func32, Try.ntmps32
      go_wp2
      go_ret
      exact ⟨by rw [F.out]; rfl, Below.refl _ _⟩
  · have F : Hid (keepB ks i = false) := by simp only [Hid]; unfold keepB; simp [List.getD_eq_getElem?_getD, List.getElem?_eq_none (show ks.length ≤ i by omega)]
    have i1 : decide ((i : Int) < (ks.length : Int)) = false := by simp; omega
    have i2 : ¬ (i : Int) < (ks.length : Int) := by omega
    go_enter Try.func32, Try.ntmps32
    go_wp2
    go_ret
    exact ⟨by rw [F.out]; rfl, Below.refl _ _⟩
theorem keeps_law (p : Nat) (A : Option Addr) (n c : Nat) (ks : List Bool) (B N : Nat) (w : World) (hp : w.cell? ⟨p, 0, none⟩ = some (.slice A n c)) (hpB : p < B) (r : RowsIn w B A n c (fun z => [.bool z]) 1 ks) : Keeps 32 #[.pointer (some ⟨p, 0, none⟩)] B w N (keepB ks) := fun i W _ hb =>
  law1_any i p A n c ks B W ((hb.cell (p := ⟨p, 0, none⟩) hpB).trans hp) (r.below hb)

/-- The two disks that the law holds, in blocks na and nb. -/
structure AbI (t : TypeId) (na nb : Nat) (wa : World) (D : Option Addr) (q d : Nat) (D' : Option Addr) (q' d' : Nat) (X : List ByteArray) (Y : List PutD) (E : Option Addr) (p f : Nat) (E' : Option Addr) (p' f' : Nat) (X2 : List ByteArray) (Y2 : List PutD) (W : World) : Prop where
  rowA : W.heap[na]? = some (.cells #[.slice D q d, .slice D' q' d'] t (0, 0))
  rowB : W.heap[nb]? = some (.cells #[.slice E p f, .slice E' p' f'] t (0, 0))
  a1 : RowsIn W W.heap.size D q d (fun z => [.string z]) 1 X
  a2 : RowsIn W W.heap.size D' q' d' PutD.cells 2 Y
  b1 : RowsIn W W.heap.size E p f (fun z => [.string z]) 1 X2
  b2 : RowsIn W W.heap.size E' p' f' PutD.cells 2 Y2
  ne : na ≠ nb
  below : Below wa.heap.size wa W
  la : wa.heap.size ≤ na
  lb : wa.heap.size ≤ nb
section
variable {t : TypeId} {na nb : Nat} {wa W W' : World} {D E D' E' G G' : Option Addr} {q d q' d' p f p' f' g h g' h' : Nat} {X X2 X3 : List ByteArray} {Y Y2 Y3 : List PutD}
theorem AbI.go (i : AbI t na nb wa D q d D' q' d' X Y E p f E' p' f' X2 Y2 W) (hb : Below W.heap.size W W') : AbI t na nb wa D q d D' q' d' X Y E p f E' p' f' X2 Y2 W' :=
  { rowA := row_below i.rowA (row_lt i.rowA) hb, rowB := row_below i.rowB (row_lt i.rowB) hb, a1 := (i.a1.below hb).more hb.size, a2 := (i.a2.below hb).more hb.size, b1 := (i.b1.below hb).more hb.size, b2 := (i.b2.below hb).more hb.size, ne := i.ne, below := i.below.trans (hb.mono i.below.size), la := i.la, lb := i.lb }
theorem AbI.setA (i : AbI t na nb wa D q d D' q' d' X Y E p f E' p' f' X2 Y2 W) (r : RowsIn W W.heap.size G g h (fun z => [.string z]) 1 X3) (r' : RowsIn W W.heap.size G' g' h' PutD.cells 2 Y3) : AbI t na nb wa G g h G' g' h' X3 Y3 E p f E' p' f' X2 Y2 (W.setRow na #[.slice G g h, .slice G' g' h']) :=
  { rowA := row_set i.rowA, rowB := (setRow_other W na nb _ (Ne.symm i.ne)).trans i.rowB, a1 := (r.aside i.rowA str_no _).more (by simp), a2 := (r'.aside i.rowA put_no _).more (by simp), b1 := (i.b1.aside i.rowA str_no _).more (by simp), b2 := (i.b2.aside i.rowA put_no _).more (by simp), ne := i.ne, below := below_setRow i.below i.la _, la := i.la, lb := i.lb }
theorem AbI.setB (i : AbI t na nb wa D q d D' q' d' X Y E p f E' p' f' X2 Y2 W) (r : RowsIn W W.heap.size G g h (fun z => [.string z]) 1 X3) (r' : RowsIn W W.heap.size G' g' h' PutD.cells 2 Y3) : AbI t na nb wa D q d D' q' d' X Y G g h G' g' h' X3 Y3 (W.setRow nb #[.slice G g h, .slice G' g' h']) :=
  { rowB := row_set i.rowB, rowA := (setRow_other W nb na _ i.ne).trans i.rowA, b1 := (r.aside i.rowB str_no _).more (by simp), b2 := (r'.aside i.rowB put_no _).more (by simp), a1 := (i.a1.aside i.rowB str_no _).more (by simp), a2 := (i.a2.aside i.rowB put_no _).more (by simp), ne := i.ne, below := below_setRow i.below i.lb _, la := i.la, lb := i.lb }
theorem AbI.setC (i : AbI t na nb wa D q d D' q' d' X Y E p f E' p' f' X2 Y2 W) (r : RowsIn W W.heap.size G g h (fun z => [.string z]) 1 X3) (r' : RowsIn W W.heap.size G' g' h' PutD.cells 2 Y3) : AbI t na nb wa D q d D' q' d' X Y G g h G' g' h' X3 Y3 ((W.setCell ⟨nb, 0, none⟩ (.slice G g h)).setCell ⟨nb, 1, none⟩ (.slice G' g' h')) :=
  have m1 := row_store (j := 0) (v := .slice G g h) i.rowB
  have m2 := row_store (j := 1) (v := .slice G' g' h') m1
  { rowB := m2, rowA := row_other (row_other i.rowA i.ne) i.ne, b1 := ((r.asideC i.rowB str_no _).asideC m1 str_no _).more (by simp [World.setCell]), b2 := ((r'.asideC i.rowB put_no _).asideC m1 put_no _).more (by simp [World.setCell]), a1 := ((i.a1.asideC i.rowB str_no _).asideC m1 str_no _).more (by simp [World.setCell]), a2 := ((i.a2.asideC i.rowB put_no _).asideC m1 put_no _).more (by simp [World.setCell]), ne := i.ne, below := (i.below.setCell i.lb _).setCell i.lb _, la := i.la, lb := i.lb }
theorem AbI.cells (i : AbI t na nb wa D q d D' q' d' X Y E p f E' p' f' X2 Y2 W) : W.cell? ⟨na, 0, none⟩ = some (.slice D q d) ∧ W.cell? ⟨na, 1, none⟩ = some (.slice D' q' d') ∧ W.cell? ⟨nb, 0, none⟩ = some (.slice E p f) ∧ W.cell? ⟨nb, 1, none⟩ = some (.slice E' p' f') ∧ W.frozen? ⟨nb, 0, none⟩ = false ∧ W.frozen? ⟨nb, 1, none⟩ = false :=
  ⟨row_cell i.rowA 0, row_cell i.rowA 1, row_cell i.rowB 0, row_cell i.rowB 1, row_cold i.rowB 0, row_cold i.rowB 1⟩
theorem AbI.start {w1 w2 : World} (hb1 : Below wa.heap.size wa w1) (r : RowsIn w1 w1.heap.size D q d (fun z => [.string z]) 1 X) (r' : RowsIn w1 w1.heap.size D' q' d' PutD.cells 2 Y) (hb2 : Below (w1.alloc (.cells #[.slice D q d, .slice D' q' d'] t)).heap.size (w1.alloc (.cells #[.slice D q d, .slice D' q' d'] t)) w2)
    (s : RowsIn w2 w2.heap.size E p f (fun z => [.string z]) 1 X2) (s' : RowsIn w2 w2.heap.size E' p' f' PutD.cells 2 Y2) : AbI t w1.heap.size w2.heap.size wa D q d D' q' d' X Y E p f E' p' f' X2 Y2 (w2.alloc (.cells #[.slice E p f, .slice E' p' f'] t)) :=
  have h1 := row_below (heap_alloc_new w1 (.cells #[.slice D q d, .slice D' q' d'] t)) (by simp) hb2
  { rowA := row_alloc h1 _, rowB := heap_alloc_new w2 _, a1 := carry_rows r hb2 _, a2 := carry_rows r' hb2 _, b1 := carry_new s _, b2 := carry_new s' _, ne := Nat.ne_of_lt (row_lt h1),
    below := by
      have h3 := hb1.alloc hb1.size (.cells #[.slice D q d, .slice D' q' d'] t)
      have h4 := h3.trans (hb2.mono h3.size)
      exact h4.alloc h4.size _
    la := hb1.size, lb := Nat.le_trans hb1.size (Nat.le_of_lt (row_lt h1)) }
end

set_option maxRecDepth 20000 in
set_option maxHeartbeats 2000000 in
theorem walk (A : Option Addr) (n c : Nat) (cs : List ByteArray) (A' : Option Addr) (n' c' : Nat) (ws : List PutD) (L : Option Addr) (nl cl : Nat) (l : List OpD) (m : Int) (Ak : Option Addr) (nk ck : Nat) (ks : List Bool) (w : World) (r : RowsIn w w.heap.size A n c (fun z => [.string z]) 1 cs) (_o0 : ∀ z ∈ cs, (fun z => z.size ≤ maxLen) z) (s0 : c * 16 ≤ 140737488351232) (r' : RowsIn w w.heap.size A' n' c' PutD.cells 2 ws) (_o1 : ∀ z ∈ ws, PutD.ok z) (s1 : c' * 24 ≤ 140737488351232) (rl : RowsIn w w.heap.size L nl cl OpD.cells 3 l) (_o2 : ∀ z ∈ l, OpD.ok z) (_s2 : cl * 32 ≤ 140737488351232) (_w2 : (Lit.int .i64 m).wf = true) (rk : RowsIn w w.heap.size Ak nk ck (fun z => [.bool z]) 1 ks) (_o3 : ∀ z ∈ ks, (fun _ => True) z) (_s3 : ck * 1 ≤ 140737488351232) :
    Calls Try.prog 5 #[.agg #[.slice A n c, .slice A' n' c'], .slice L nl cl, .int .i64 m, .slice Ak nk ck] w fun e w' => e = .returned (.bool true) ∧ Below w.heap.size w w' := by
  have hs : n * 16 ≤ 140737488355328 := by have := r.le; omega
  have hs' : n' * 24 ≤ 140737488355328 := by have := r'.le; omega
  clear _o0 s0 _o1 s1 _o2 _s2 _w2 _o3 _s3
  have hlen := r.len
  subst hlen
  have hlen' := r'.len
  subst hlen'
  have hlenl := rl.len
  subst hlenl
  have hcl := rl.le
  obtain ⟨wa, hwa⟩ : ∃ wa, wa = (w.alloc (.cells #[.slice A cs.length c, .slice A' ws.length c'] 41)).alloc (.cells #[.slice Ak nk ck] 55) := ⟨_, rfl⟩
  have hza : wa.heap.size = w.heap.size + 2 := by rw [hwa]; simp
  have hba : Below w.heap.size w wa := by rw [hwa]; exact ((Below.refl _ _).alloc (Nat.le_refl _) _).alloc (by simp) _
  have hrk : wa.heap[w.heap.size + 1]? = some (.cells #[.slice Ak nk ck] 55 (0, 0)) := by
    rw [hwa]
    have := heap_alloc_new (w.alloc (.cells #[.slice A cs.length c, .slice A' ws.length c'] 41)) (.cells #[.slice Ak nk ck] 55)
    rw [show (w.alloc (.cells #[.slice A cs.length c, .slice A' ws.length c'] 41)).heap.size = w.heap.size + 1 by simp] at this
    exact this
  have hrb : wa.heap[w.heap.size]? = some (.cells #[.slice A cs.length c, .slice A' ws.length c'] 41 (0, 0)) := by
    rw [hwa]; exact (heap_alloc_old _ _ (by simp)).trans (heap_alloc_new w _)
  have hle : w.heap.size ≤ wa.heap.size := by omega
  have RA := Lib.hid ((r.below hba).more hle)
  have RA' := Lib.hid ((r'.below hba).more hle)
  have RL := Lib.hid ((rl.below hba).more hle)
  have RK := Lib.hid ((rk.below hba).more hle)
  have HD : Hid (∀ W, Below wa.heap.size wa W → W.cell? ⟨w.heap.size, 0, none⟩ = some (.slice A cs.length c) ∧ W.cell? ⟨w.heap.size, 1, none⟩ = some (.slice A' ws.length c') ∧ W.cell? ⟨w.heap.size + 1, 0, none⟩ = some (.slice Ak nk ck) ∧ w.heap.size < W.heap.size ∧ w.heap.size + 1 < W.heap.size) := fun W h => by
    have q := row_below hrb (row_lt hrb) h
    have q2 := row_below hrk (row_lt hrk) h
    exact ⟨row_cell q 0, row_cell q 1, row_cell q2 0, row_lt q, row_lt q2⟩
  have HKP : Hid (∀ W N, Below wa.heap.size wa W → Keeps 32 #[.pointer (some ⟨w.heap.size + 1, 0, none⟩)] W.heap.size W N (keepB ks)) := fun W N h => by
    have q2 := row_below hrk (row_lt hrk) h
    exact keeps_law _ Ak nk ck ks _ _ W (row_cell q2 0) (row_lt q2) ((RK.out.below h).more h.size)
  have H1 : Hid (∀ W, Below wa.heap.size wa W → Calls Try.prog 29 #[.agg #[.slice A cs.length c, .slice A' ws.length c'], .slice L l.length cl] W (DkPost (plE cs ws l) (plX cs ws l) (plY cs ws l) W)) := fun W h => play_any A _ c cs A' _ c' ws L _ cl l W ((RA.out.below h).more h.size) ((RA'.out.below h).more h.size) ((RL.out.below h).more h.size) hs hs'
  have H2 : Hid (∀ W, Below wa.heap.size wa W → Calls Try.prog 23 #[.agg #[.slice A cs.length c, .slice A' ws.length c'], .slice L l.length cl] W (DkPost (plE cs ws l) (plX cs ws l) (plY cs ws l) W)) := fun W h => playr_any A _ c cs A' _ c' ws L _ cl l W ((RA.out.below h).more h.size) ((RA'.out.below h).more h.size) ((RL.out.below h).more h.size)
  have H3 := Lib.hid @samed_any
  have H4 : Hid (∀ W, Below wa.heap.size wa W → Calls Try.prog 30 #[.agg #[.slice A cs.length c, .slice A' ws.length c'], .slice L l.length cl, .int .i64 m, .slice Ak nk ck] W (DkPost (utE cs ws l m) (utX cs ws l m (keepB ks)) [] W)) := fun W h => until_any A _ c cs A' _ c' ws L _ cl l m Ak nk ck ks W ((RA.out.below h).more h.size) ((RA'.out.below h).more h.size) ((RL.out.below h).more h.size) ((RK.out.below h).more h.size) hs hs'
  have HWA := Lib.hid hwa
  have HBA := Lib.hid hba
  unfold DkPost at H1 H2 H4
  clear r r' rl rk hwa hza hba hrb hrk hle hs hs'
  have hone : Hid (∀ (A A' : Option Addr) (n c n' c' : Nat), ((#[.slice A n c, .slice A' n' c'] : Array Value).all (·.oneCell')) = true) := fun _ _ _ _ _ _ => by simp [Value.oneCell']
  generalize plE cs ws l = pe1 at H1 H2
  generalize plX cs ws l = px1 at H1 H2
  generalize plY cs ws l = py1 at H1 H2
  rcases (show m < 0 ∨ (∃ mm : Nat, m = mm ∧ mm ≤ l.length) ∨ (∃ mm : Nat, m = mm ∧ l.length < mm) from by
    by_cases h : m < 0
    · exact .inl h
    · by_cases h2 : m.toNat ≤ l.length
      · exact .inr (.inl ⟨m.toNat, by omega, h2⟩)
      · exact .inr (.inr ⟨m.toNat, by omega, by omega⟩)) with hm | ⟨mm, rfl, hj⟩ | ⟨mm, rfl, hj⟩
  · have F : utE cs ws l m = 1 := by unfold utE; exact if_pos hm
    have F2 : utX cs ws l m (keepB ks) = [] := by unfold utX; rw [F]; exact if_neg (by decide)
    rw [F, F2] at H4
    clear F F2
    go_enter Try.func5, Try.ntmps5
    go_wp2_with (first
      | (go_at_call 25; refine (H3.out _ _ _ _ _ _ _ _ _ _ _ _ _ _ _ HI5.out.a1 HI5.out.a2 (no_strs2 _ _) (no_puts2 _ _)).mono ?_; rintro e w6 ⟨rfl, hb6⟩)
      | (go_at_call 29; rw [← HWA.out]; refine (H1.out _ (Below.refl _ _)).mono ?_; rintro e w1 ⟨D, q, d, D', q', d', rfl, r1, r1', hb1⟩; have HB1 := Lib.hid hb1; have R1 := Lib.hid r1; have R1' := Lib.hid r1'; have HB1a := Lib.hid (hb1.alloc hb1.size (.cells #[.slice D q d, .slice D' q' d'] 41)); obtain ⟨u0, u1, u2, u3, u4⟩ := HD.out w1 hb1; clear hb1 r1 r1')
      | (go_at_call 23; refine (H2.out _ HB1a.out).mono ?_; rintro e w2 ⟨E, p, f, E', p', f', rfl, r2, r2', hb2⟩; have HI := Lib.hid (AbI.start (t := 41) HB1.out R1.out R1'.out hb2 r2 r2'); obtain ⟨y0, y1, y2, y3, _, _⟩ := HI.out.cells; clear hb2 r2 r2' u2 u3 u4)
      | (go_at_call 25; refine (H3.out _ _ _ _ _ _ _ _ _ _ _ _ _ _ _ HI.out.a1 HI.out.a2 HI.out.b1 HI.out.b2).mono ?_; rintro e w3 ⟨rfl, hb3⟩; have HI3 := Lib.hid (HI.out.go hb3); obtain ⟨x0, x1, x2, _, _⟩ := HD.out w3 HI3.out.below; clear hb3)
      | (go_at_call 30; refine (H4.out _ HI3.out.below).mono ?_; rintro e w4 ⟨G, g, h, G', g', h', rfl, r4, r4', hb4⟩; have HI4 := Lib.hid (HI3.out.go hb4); have R4 := Lib.hid r4; have R4' := Lib.hid r4'; clear r4 r4' hb4 HI3 HI)
      | (refine wpList_store_rowTo rfl _ _ _ rfl rfl w1.heap.size #[.slice G g h, .slice G' g' h'] rfl rfl 41 #[.slice D q d, .slice D' q' d'] HI4.out.rowA info_dsk rfl (hone.out _ _ _ _ _ _) ?_; have HI5 := Lib.hid (HI4.out.setA R4.out R4'.out); obtain ⟨k0, k1, k2, k3, _, _⟩ := HI5.out.cells; obtain ⟨s0, s1, s2, _, _⟩ := HD.out _ HI5.out.below))
    go_ret
    exact ⟨rfl, HBA.out.trans ((HI5.out.below.trans (hb6.mono HI5.out.below.size)).mono HBA.out.size)⟩
  · have i0 : ¬ (mm : Int) < 0 := by omega
    have i1 : ¬ l.length < mm := by omega
    have i2 : (mm : Int) ≤ (cl : Int) := by omega
    have HP : Hid (∀ W, Below wa.heap.size wa W → Calls Try.prog 23 #[.agg #[.slice A cs.length c, .slice A' ws.length c'], .slice L mm cl] W fun e w' => ∃ b : (Option Addr × Nat × Nat) × (Option Addr × Nat × Nat), e = .returned (.tuple #[.agg #[.slice b.1.1 b.1.2.1 b.1.2.2, .slice b.2.1 b.2.2.1 b.2.2.2], .int .i64 (plE cs ws (l.take mm))]) ∧ (RowsIn w' w'.heap.size b.1.1 b.1.2.1 b.1.2.2 (fun z => [.string z]) 1 (plX cs ws (l.take mm)) ∧ RowsIn w' w'.heap.size b.2.1 b.2.2.1 b.2.2.2 PutD.cells 2 (plY cs ws (l.take mm)) ∧ Below W.heap.size W w')) := fun W h => calls_dk (playr_any A _ c cs A' _ c' ws L mm cl (l.take mm) W ((RA.out.below h).more h.size) ((RA'.out.below h).more h.size) (((RL.out.pre hj).below h).more h.size))
    have FE : utE cs ws l mm = plE cs ws (l.take mm) := by unfold utE; rw [if_neg (by omega), Int.toNat_natCast]
    have FX : Hid (plE cs ws (l.take mm) = 0 → utX cs ws l mm (keepB ks) = landL (keepB ks) (plX cs ws (l.take mm)) (plY cs ws (l.take mm))) := fun h => by unfold utX; rw [if_pos (FE.trans h), Int.toNat_natCast]
    have FB : Hid (plE cs ws (l.take mm) ≠ 0 → utX cs ws l mm (keepB ks) = [] ∧ plX cs ws (l.take mm) = [] ∧ plY cs ws (l.take mm) = []) := fun h => ⟨by unfold utX; rw [if_neg (fun e => h (FE.symm.trans e))], plE_bad h⟩
    have HXR := Lib.hid (fun h => plE_right (cs := cs) (ws := ws) (l := l.take mm) h)
    rw [FE] at H4
    generalize plE cs ws (l.take mm) = pe2 at *
    generalize plX cs ws (l.take mm) = px2 at *
    generalize plY cs ws (l.take mm) = py2 at *
    generalize utX cs ws l mm (keepB ks) = ux at *
    clear FE
    go_enter Try.func5, Try.ntmps5
    go_wp2_with (first
      | (go_at_call 29; rw [← HWA.out]; refine (H1.out _ (Below.refl _ _)).mono ?_; rintro e w1 ⟨D, q, d, D', q', d', rfl, r1, r1', hb1⟩; have HB1 := Lib.hid hb1; have R1 := Lib.hid r1; have R1' := Lib.hid r1'; have HB1a := Lib.hid (hb1.alloc hb1.size (.cells #[.slice D q d, .slice D' q' d'] 41)); obtain ⟨u0, u1, u2, u3, u4⟩ := HD.out w1 hb1; clear hb1 r1 r1')
      | (go_at_call 23; refine (H2.out _ HB1a.out).mono ?_; rintro e w2 ⟨E, p, f, E', p', f', rfl, r2, r2', hb2⟩; have HI := Lib.hid (AbI.start (t := 41) HB1.out R1.out R1'.out hb2 r2 r2'); obtain ⟨y0, y1, y2, y3, _, _⟩ := HI.out.cells; clear hb2 r2 r2' u2 u3 u4)
      | (go_at_call 25; refine (H3.out _ _ _ _ _ _ _ _ _ _ _ _ _ _ _ HI.out.a1 HI.out.a2 HI.out.b1 HI.out.b2).mono ?_; rintro e w3 ⟨rfl, hb3⟩; have HI3 := Lib.hid (HI.out.go hb3); obtain ⟨x0, x1, x2, _, _⟩ := HD.out w3 HI3.out.below; clear hb3)
      | (go_at_call 30; refine (H4.out _ HI3.out.below).mono ?_; rintro e w4 ⟨G, g, h, G', g', h', rfl, r4, r4', hb4⟩; have HI4 := Lib.hid (HI3.out.go hb4); have R4 := Lib.hid r4; have R4' := Lib.hid r4'; clear r4 r4' hb4 HI3 HI)
      | (refine wpList_store_rowTo rfl _ _ _ rfl rfl w1.heap.size #[.slice G g h, .slice G' g' h'] rfl rfl 41 #[.slice D q d, .slice D' q' d'] HI4.out.rowA info_dsk rfl (hone.out _ _ _ _ _ _) ?_; have HI5 := Lib.hid (HI4.out.setA R4.out R4'.out); obtain ⟨k0, k1, k2, k3, _, _⟩ := HI5.out.cells; obtain ⟨s0, s1, s2, _, _⟩ := HD.out _ HI5.out.below))
    have HI5' := HI5
    clear HI4 R4 R4' R1 R1' HB1 HB1a y0 y1 y2 y3 x0 x1 x2 u0 u1 H1 H4
    generalize w4.setRow w1.heap.size #[.slice G g h, .slice G' g' h'] = w5 at *
    go_region_law (first
      | (refine step_enterc rfl 23 rfl #[.agg #[.slice A cs.length c, .slice A' ws.length c'], .slice L mm cl] (fun b : (Option Addr × Nat × Nat) × (Option Addr × Nat × Nat) => Value.tuple #[.agg #[.slice b.1.1 b.1.2.1 b.1.2.2, .slice b.2.1 b.2.2.1 b.2.2.2], .int .i64 pe2]) (by simp [go_sem]) (HP.out w5.drew HI5.out.below.drew) ?_; rintro ⟨⟨P, a1, b1⟩, ⟨P', a2, b2⟩⟩ w6 ⟨r6, r6', hb6⟩; have HI6 := Lib.hid ((HI5.out.go (Below.refl _ _).drew).go hb6); have R6 := Lib.hid r6; have R6' := Lib.hid r6'; obtain ⟨_, _, z2, z3, z4, z5⟩ := HI6.out.cells; clear r6 r6' hb6))
    all_goals
      have HI7 := Lib.hid (HI6.out.setC R6.out R6'.out)
      clear HI6 R6 R6' HI5 HI5' z2 z3 z4 z5 k0 k1 k2 k3 s0 s1 s2
      generalize (w6.setCell ⟨w2.heap.size, 0, none⟩ (.slice P a1 b1)).setCell ⟨w2.heap.size, 1, none⟩ (.slice P' a2 b2) = w7 at *
      obtain ⟨k0, k1, k2, k3, _, _⟩ := HI7.out.cells
      by_cases hpe : pe2 = 0
      · subst hpe
        have hr0 := HXR.out rfl
        obtain ⟨_, h128, _, _, h400⟩ := dsk_zero hr0
        have HLD := Lib.hid (landr_any _ #[.pointer (some ⟨w.heap.size + 1, 0, none⟩)] (keepB ks) P a1 b1 px2 P' a2 b2 py2 w7 HI7.out.b1 HI7.out.b2 h128 h400 (HKP.out w7 _ HI7.out.below) cf_law)
        have FX0 := Lib.hid (FX.out rfl)
        clear hr0 h128 h400 FX FB HXR HP
        go_wp2_with (first
          | (go_at_call 31; refine HLD.out.mono ?_; rintro e w8 ⟨F8, f8, rfl, o8, hb8⟩; have HI8 := Lib.hid (HI7.out.go hb8); have R8 := Lib.hid (own_strs o8); clear o8 hb8 k0 k1)
          | (refine wpList_store_rowTo rfl _ _ _ rfl rfl w2.heap.size #[.slice F8 px2.length f8, .slice none 0 0] rfl rfl 41 #[.slice P a1 b1, .slice P' a2 b2] HI8.out.rowB info_dsk rfl (hone.out _ _ _ _ _ _) ?_; have HI9 := Lib.hid (HI8.out.setB R8.out (no_puts2 _ _)); obtain ⟨m0, m1, m2, m3, _, _⟩ := HI9.out.cells)
          | (go_at_call 25; refine (H3.out _ _ _ _ _ _ _ _ _ _ _ _ _ _ _ HI9.out.a1 HI9.out.a2 (by rw [FX0.out]; exact HI9.out.b1) HI9.out.b2).mono ?_; rintro e w10 ⟨rfl, hb10⟩))
        go_ret
        exact ⟨rfl, HBA.out.trans ((HI9.out.below.trans (hb10.mono HI9.out.below.size)).mono HBA.out.size)⟩
      · have i9 : (pe2 == 0) = false := beq_eq_false_iff_ne.2 hpe
        obtain ⟨e1, e2, e3⟩ := FB.out hpe
        have E1 := Lib.hid e1
        have E2 := Lib.hid e2
        have E3 := Lib.hid e3
        clear e1 e2 e3 hpe FX FB HXR HP
        go_wp2_with (go_at_call 25; refine (H3.out _ _ _ _ _ _ _ _ _ _ _ _ [] [] _ ?_ HI7.out.a2 ?_ ?_).mono ?_; (have := HI7.out.a1; rw [E1.out] at this; exact this); (have := HI7.out.b1; rw [E2.out] at this; exact this); (have := HI7.out.b2; rw [E3.out] at this; exact this); rintro e w10 ⟨rfl, hb10⟩)
        go_ret
        exact ⟨rfl, HBA.out.trans ((HI7.out.below.trans (hb10.mono HI7.out.below.size)).mono HBA.out.size)⟩
  · have i0 : ¬ (mm : Int) < 0 := by omega
    have i1 : l.length < mm := by omega
    have i2 : (l.length : Int) ≤ (cl : Int) := by omega
    have htk : l.take mm = l := List.take_of_length_le (by omega)
    have HP : Hid (∀ W, Below wa.heap.size wa W → Calls Try.prog 23 #[.agg #[.slice A cs.length c, .slice A' ws.length c'], .slice L l.length cl] W fun e w' => ∃ b : (Option Addr × Nat × Nat) × (Option Addr × Nat × Nat), e = .returned (.tuple #[.agg #[.slice b.1.1 b.1.2.1 b.1.2.2, .slice b.2.1 b.2.2.1 b.2.2.2], .int .i64 (plE cs ws l)]) ∧ (RowsIn w' w'.heap.size b.1.1 b.1.2.1 b.1.2.2 (fun z => [.string z]) 1 (plX cs ws l) ∧ RowsIn w' w'.heap.size b.2.1 b.2.2.1 b.2.2.2 PutD.cells 2 (plY cs ws l) ∧ Below W.heap.size W w')) := fun W h => calls_dk (playr_any A _ c cs A' _ c' ws L l.length cl l W ((RA.out.below h).more h.size) ((RA'.out.below h).more h.size) ((RL.out.below h).more h.size))
    have FE : utE cs ws l mm = plE cs ws l := by unfold utE; rw [if_neg (by omega), Int.toNat_natCast, htk]
    have FX : Hid (plE cs ws l = 0 → utX cs ws l mm (keepB ks) = landL (keepB ks) (plX cs ws l) (plY cs ws l)) := fun h => by unfold utX; rw [if_pos (FE.trans h), Int.toNat_natCast, htk]
    have FB : Hid (plE cs ws l ≠ 0 → utX cs ws l mm (keepB ks) = [] ∧ plX cs ws l = [] ∧ plY cs ws l = []) := fun h => ⟨by unfold utX; rw [if_neg (fun e => h (FE.symm.trans e))], plE_bad h⟩
    have HXR := Lib.hid (fun h => plE_right (cs := cs) (ws := ws) (l := l) h)
    rw [FE] at H4
    generalize plE cs ws l = pe2 at *
    generalize plX cs ws l = px2 at *
    generalize plY cs ws l = py2 at *
    generalize utX cs ws l mm (keepB ks) = ux at *
    clear FE
    go_enter Try.func5, Try.ntmps5
    go_wp2_with (first
      | (go_at_call 29; rw [← HWA.out]; refine (H1.out _ (Below.refl _ _)).mono ?_; rintro e w1 ⟨D, q, d, D', q', d', rfl, r1, r1', hb1⟩; have HB1 := Lib.hid hb1; have R1 := Lib.hid r1; have R1' := Lib.hid r1'; have HB1a := Lib.hid (hb1.alloc hb1.size (.cells #[.slice D q d, .slice D' q' d'] 41)); obtain ⟨u0, u1, u2, u3, u4⟩ := HD.out w1 hb1; clear hb1 r1 r1')
      | (go_at_call 23; refine (H2.out _ HB1a.out).mono ?_; rintro e w2 ⟨E, p, f, E', p', f', rfl, r2, r2', hb2⟩; have HI := Lib.hid (AbI.start (t := 41) HB1.out R1.out R1'.out hb2 r2 r2'); obtain ⟨y0, y1, y2, y3, _, _⟩ := HI.out.cells; clear hb2 r2 r2' u2 u3 u4)
      | (go_at_call 25; refine (H3.out _ _ _ _ _ _ _ _ _ _ _ _ _ _ _ HI.out.a1 HI.out.a2 HI.out.b1 HI.out.b2).mono ?_; rintro e w3 ⟨rfl, hb3⟩; have HI3 := Lib.hid (HI.out.go hb3); obtain ⟨x0, x1, x2, _, _⟩ := HD.out w3 HI3.out.below; clear hb3)
      | (go_at_call 30; refine (H4.out _ HI3.out.below).mono ?_; rintro e w4 ⟨G, g, h, G', g', h', rfl, r4, r4', hb4⟩; have HI4 := Lib.hid (HI3.out.go hb4); have R4 := Lib.hid r4; have R4' := Lib.hid r4'; clear r4 r4' hb4 HI3 HI)
      | (refine wpList_store_rowTo rfl _ _ _ rfl rfl w1.heap.size #[.slice G g h, .slice G' g' h'] rfl rfl 41 #[.slice D q d, .slice D' q' d'] HI4.out.rowA info_dsk rfl (hone.out _ _ _ _ _ _) ?_; have HI5 := Lib.hid (HI4.out.setA R4.out R4'.out); obtain ⟨k0, k1, k2, k3, _, _⟩ := HI5.out.cells; obtain ⟨s0, s1, s2, _, _⟩ := HD.out _ HI5.out.below))
    have HI5' := HI5
    clear HI4 R4 R4' R1 R1' HB1 HB1a y0 y1 y2 y3 x0 x1 x2 u0 u1 H1 H4
    generalize w4.setRow w1.heap.size #[.slice G g h, .slice G' g' h'] = w5 at *
    go_region_law (first
      | (refine step_enterc rfl 23 rfl #[.agg #[.slice A cs.length c, .slice A' ws.length c'], .slice L l.length cl] (fun b : (Option Addr × Nat × Nat) × (Option Addr × Nat × Nat) => Value.tuple #[.agg #[.slice b.1.1 b.1.2.1 b.1.2.2, .slice b.2.1 b.2.2.1 b.2.2.2], .int .i64 pe2]) (by simp [go_sem]) (HP.out w5.drew HI5.out.below.drew) ?_; rintro ⟨⟨P, a1, b1⟩, ⟨P', a2, b2⟩⟩ w6 ⟨r6, r6', hb6⟩; have HI6 := Lib.hid ((HI5.out.go (Below.refl _ _).drew).go hb6); have R6 := Lib.hid r6; have R6' := Lib.hid r6'; obtain ⟨_, _, z2, z3, z4, z5⟩ := HI6.out.cells; clear r6 r6' hb6))
    all_goals
      have HI7 := Lib.hid (HI6.out.setC R6.out R6'.out)
      clear HI6 R6 R6' HI5 HI5' z2 z3 z4 z5 k0 k1 k2 k3 s0 s1 s2
      generalize (w6.setCell ⟨w2.heap.size, 0, none⟩ (.slice P a1 b1)).setCell ⟨w2.heap.size, 1, none⟩ (.slice P' a2 b2) = w7 at *
      obtain ⟨k0, k1, k2, k3, _, _⟩ := HI7.out.cells
      by_cases hpe : pe2 = 0
      · subst hpe
        have hr0 := HXR.out rfl
        obtain ⟨_, h128, _, _, h400⟩ := dsk_zero hr0
        have HLD := Lib.hid (landr_any _ #[.pointer (some ⟨w.heap.size + 1, 0, none⟩)] (keepB ks) P a1 b1 px2 P' a2 b2 py2 w7 HI7.out.b1 HI7.out.b2 h128 h400 (HKP.out w7 _ HI7.out.below) cf_law)
        have FX0 := Lib.hid (FX.out rfl)
        clear hr0 h128 h400 FX FB HXR HP
        go_wp2_with (first
          | (go_at_call 31; refine HLD.out.mono ?_; rintro e w8 ⟨F8, f8, rfl, o8, hb8⟩; have HI8 := Lib.hid (HI7.out.go hb8); have R8 := Lib.hid (own_strs o8); clear o8 hb8 k0 k1)
          | (refine wpList_store_rowTo rfl _ _ _ rfl rfl w2.heap.size #[.slice F8 px2.length f8, .slice none 0 0] rfl rfl 41 #[.slice P a1 b1, .slice P' a2 b2] HI8.out.rowB info_dsk rfl (hone.out _ _ _ _ _ _) ?_; have HI9 := Lib.hid (HI8.out.setB R8.out (no_puts2 _ _)); obtain ⟨m0, m1, m2, m3, _, _⟩ := HI9.out.cells)
          | (go_at_call 25; refine (H3.out _ _ _ _ _ _ _ _ _ _ _ _ _ _ _ HI9.out.a1 HI9.out.a2 (by rw [FX0.out]; exact HI9.out.b1) HI9.out.b2).mono ?_; rintro e w10 ⟨rfl, hb10⟩))
        go_ret
        exact ⟨rfl, HBA.out.trans ((HI9.out.below.trans (hb10.mono HI9.out.below.size)).mono HBA.out.size)⟩
      · have i9 : (pe2 == 0) = false := beq_eq_false_iff_ne.2 hpe
        obtain ⟨e1, e2, e3⟩ := FB.out hpe
        have E1 := Lib.hid e1
        have E2 := Lib.hid e2
        have E3 := Lib.hid e3
        clear e1 e2 e3 hpe FX FB HXR HP
        go_wp2_with (go_at_call 25; refine (H3.out _ _ _ _ _ _ _ _ _ _ _ _ [] [] _ ?_ HI7.out.a2 ?_ ?_).mono ?_; (have := HI7.out.a1; rw [E1.out] at this; exact this); (have := HI7.out.b1; rw [E2.out] at this; exact this); (have := HI7.out.b2; rw [E3.out] at this; exact this); rintro e w10 ⟨rfl, hb10⟩)
        go_ret
        exact ⟨rfl, HBA.out.trans ((HI7.out.below.trans (hb10.mono HI7.out.below.size)).mono HBA.out.size)⟩
end Go.Proofs.Ytjmgocfoimhmjaa.lOpsPlays
