/- ops.Lean and linenref.Stays, walked. -/
import Derived.Test.YtjmgocfoimhmjaaLnP
import Derived.Test.YtjmgocfoimhmjaaEqyOp
import Derived.Test.YtjmgocfoimhmjaaBlk
namespace Go.Proofs.Ytjmgocfoimhmjaa
open Go.RowKit Go.Maps

theorem opCells3 {w : World} {B n c : Nat} {A : Option Addr} {l : List OpD} (r : RowsIn w B A n c OpD.cells 3 l) {i : Nat} {p : OpD} (h : l[i]? = some p) : ∃ b o, A = some ⟨b, o, none⟩ ∧ b < B ∧ w.cell? ⟨b, o + i * 3, none⟩ = some (.int .i64 p.Kind) ∧ w.cell? ⟨b, o + i * 3 + 1, none⟩ = some (.int .i64 p.At) ∧ w.cell? ⟨b, o + i * 3 + 2, none⟩ = some (.string p.Text) := by
  obtain ⟨b, o, e, hb, hc⟩ := r.at_ i p h
  exact ⟨b, o, e, hb, hc 0 _ rfl, hc 1 _ rfl, hc 2 _ rfl⟩

set_option maxRecDepth 20000 in
set_option maxHeartbeats 1000000 in
theorem stays_any (A : Option Addr) (n c : Nat) (l : List OpD) (i : Nat) (o : OpD) (ho : l[i]? = some o) (w : World) (r : RowsIn w w.heap.size A n c OpD.cells 3 l) :
    Calls Try.prog 33 #[.slice A n c, .int .i64 (i : Int)] w fun e w' => e = .returned (.bool (stay o (l.drop (i + 1)))) ∧ Below w.heap.size w w' := by
  have hn := r.len
  subst hn
  have htop : (l.length : Int) ≤ 9223372036854775807 := by have h1 := r.le; have h2 := r.top; unfold maxLen at h2; omega
  have hil := (List.getElem?_eq_some_iff.1 ho).1
  obtain ⟨b, f, rfl, hbB, p0, p1, p2⟩ := opCells3 r ho
  have i1 : (i : Int) < (l.length : Int) := by omega
  obtain ⟨ok, oa, ot⟩ := o
  simp only at p0 p1 p2
  by_cases hk : ok = 1
  · subst hk
    have HS : Hid (∀ b : Bool, (ahd (l.drop (i + 1))).contains oa = b → stay ⟨1, oa, ot⟩ (l.drop (i + 1)) = !b) := fun b h => by subst h; simp [stay]
    go_enter Try.func33, Try.ntmps33
    go_wp2
    go_loopw [5] (fun v5 wr => ∃ k : Nat, k ≤ l.length ∧ v5 = .int .i64 k ∧ Below w.heap.size w wr ∧ Hid (i + 1 ≤ k ∧ (ahd (l.drop (i + 1))).contains oa = (ahd (l.drop k)).contains oa)) (fun v5 _ => l.length - (intOf v5).toNat)
    case atStart => exact ⟨i + 1, hil, by go_num, Below.refl _ _, Nat.le_refl _, rfl⟩
    case round =>
      obtain ⟨k, hk, rfl, hbw, HI⟩ := hrel
      have q0 := (hbw.cell (p := ⟨b, f + i * 3 + 1, none⟩) hbB).trans p1
      by_cases hlt : k < l.length
      · have e1 := List.getElem?_eq_getElem hlt
        generalize l[k] = x at e1
        have E1 := Lib.hid (drop_at e1)
        obtain ⟨b', f', e2, hbB', c0, c1, c2⟩ := opCells3 (r.below hbw) e1
        injection e2 with e2
        injection e2 with e2 e3
        subst e2; subst e3
        obtain ⟨xk, xa, xt⟩ := x
        simp only at c0 c1 c2
        have j1 : (k : Int) < (l.length : Int) := by omega
        clear e1 p0 p1 p2 ho
        by_cases hx : xk = 1
        · subst hx
          by_cases ha : xa = oa
          · subst ha
            have F : Hid (stay ⟨1, xa, ot⟩ (l.drop (i + 1)) = false) := HS.out true (by rw [HI.out.2, E1.out, ahd_one rfl]; simp)
            go_wp2
            go_quiet (fail)
            go_wp2
            go_ret
            exact ⟨by rw [F.out] <;> rfl, below_drewN hbw _⟩
          · have F : Hid (i + 1 ≤ k + 1 ∧ (ahd (l.drop (i + 1))).contains oa = (ahd (l.drop (k + 1))).contains oa) := ⟨by have := HI.out.1; omega, by rw [HI.out.2, E1.out, ahd_one rfl]; have : ¬ oa = xa := fun h => ha h.symm; simp [this]⟩
            go_wp2
            go_quiet (fail)
            go_wp2
            go_roundw
            case rel => exact ⟨k + 1, by omega, by go_num, below_drewN hbw _, F.out⟩
            case measure => (simp [intOf]; try omega)
        · have F : Hid (stay ⟨1, oa, ot⟩ (l.drop (i + 1)) = true) := HS.out false (by rw [HI.out.2, E1.out, ahd_other hx]; rfl)
          go_wp2
          go_ret
          exact ⟨by rw [F.out] <;> rfl, hbw⟩
      · have hkl : k = l.length := by omega
        have F : Hid (stay ⟨1, oa, ot⟩ (l.drop (i + 1)) = true) := HS.out false (by rw [HI.out.2, hkl]; simp [ahd])
        clear hkl
        have j1 : ¬ (k : Int) < (l.length : Int) := by omega
        go_wp2
        go_ret
        exact ⟨by rw [F.out] <;> rfl, hbw⟩
  · have F : Hid (stay ⟨ok, oa, ot⟩ (l.drop (i + 1)) = true) := stay_other hk
    go_enter Try.func33, Try.ntmps33
    go_wp2
    go_ret
    exact ⟨by rw [F.out] <;> rfl, Below.refl _ _⟩

theorem info_opl : (Try.prog.info? 46).map (fun i => (i.zero, i.size, i.bytes)) = some (some (.agg #[.int .i64 0, .int .i64 0, .string ⟨#[]⟩]), 3, 32) := by kernel_rfl
theorem mapLaw : Keyed Try.prog 3 := int_keyed Try.underlying3
theorem zeroInt (w : World) : (zeroValue 3).run Try.prog w = .ok (.int .i64 0) w := by kernel_rfl
/-- ops.Lean's first loop, behind which the operations from k on are done. -/
structure LnI (l : List OpD) (w : World) (k : Nat) (D : DataW Unit) (A : Option Addr) (c : Nat) (wr : World) : Prop where
  map : wr.ownsMap Try.prog 3 (plainElem Try.prog 3) w.heap.size (l.length - k) D
  says : Says D (ahd (l.drop k))
  own : Owns wr (w.heap.size + 1) 3 (.slice A (kp (l.drop k)).length c) (kp (l.drop k)).length ((kp (l.drop k)).reverse.flatMap OpD.cells)
  below : Below w.heap.size w wr
  size : w.heap.size + 1 ≤ wr.heap.size
theorem ownsMap_left {w w' : World} {P : Program} {k : TypeId} {R : Value → Option (DataW Unit × List MemPlace)} {b n base : Nat} {D : DataW Unit} {row : Option Nat} (h : w.ownsMap P k R b n D) (hl : Left w w' base row) (hne : b < base) : w'.ownsMap P k R b n D :=
  h.kept hl.grown (fun e => by have := hl.row_ge _ e.symm; omega)
theorem wf_one : (Lit.int .i64 1).wf = true := by decide

theorem ln_add {l : List OpD} {w wm w5 : World} {j n c3 : Nat} {o : OpD} {D : DataW Unit} {A3 : Option Addr} {row : Option Nat} (E : l.drop j = o :: l.drop (j + 1)) (hst : stay o (l.drop (j + 1)) = true)
    (hm : wm.ownsMap Try.prog 3 (plainElem Try.prog 3) w.heap.size n D) (hn : n ≤ l.length - j) (hs : Says D (ahd (o :: l.drop (j + 1)))) (hb : Below w.heap.size w wm) (hl : Left wm w5 (w.heap.size + 1) row)
    (hown : Owns w5 (w.heap.size + 1) 3 (.slice A3 ((kp (l.drop (j + 1))).length + 1) c3) ((kp (l.drop (j + 1))).length + 1) ((kp (l.drop (j + 1))).reverse.flatMap OpD.cells ++ [.int .i64 o.Kind, .int .i64 o.At, .string o.Text])) :
    LnI l w j D A3 c3 w5 ∧ (kp (l.drop j)).length = (kp (l.drop (j + 1))).length + 1 := by
  have e : (kp (l.drop j)).length = (kp (l.drop (j + 1))).length + 1 := by rw [E, kp_yes hst]; rfl
  refine ⟨{ map := (ownsMap_left hm hl (by omega)).mono hn, says := by rw [E]; exact hs, own := ?_, below := hl.below (by omega) hb, size := Nat.le_trans hl.base_le hl.size }, e⟩
  rw [e, show (kp (l.drop j)).reverse.flatMap OpD.cells = _ from by rw [E, kp_rev hst]]
  exact hown
theorem ln_skip {l : List OpD} {w wm : World} {j n c3 : Nat} {o : OpD} {D : DataW Unit} {A3 : Option Addr} (E : l.drop j = o :: l.drop (j + 1)) (hst : stay o (l.drop (j + 1)) = false)
    (hm : wm.ownsMap Try.prog 3 (plainElem Try.prog 3) w.heap.size n D) (hn : n ≤ l.length - j) (hs : Says D (ahd (o :: l.drop (j + 1)))) (hb : Below w.heap.size w wm) (hsz : w.heap.size + 1 ≤ wm.heap.size)
    (hown : Owns wm (w.heap.size + 1) 3 (.slice A3 (kp (l.drop (j + 1))).length c3) (kp (l.drop (j + 1))).length ((kp (l.drop (j + 1))).reverse.flatMap OpD.cells)) :
    LnI l w j D A3 c3 wm ∧ (kp (l.drop j)).length = (kp (l.drop (j + 1))).length := by
  have e : kp (l.drop j) = kp (l.drop (j + 1)) := by rw [E, kp_no hst]
  refine ⟨{ map := hm.mono hn, says := by rw [E]; exact hs, own := by rw [e]; exact hown, below := hb, size := hsz }, by rw [e]⟩
theorem owns_grown {w w' : World} {base size n : Nat} {v : Value} {xs : List Value} {row : Nat} (h : Owns w base size v n xs) (hg : w.grownBy w' (some row)) (hne : row < base) : Owns w' base size v n xs :=
  h.kept (fun g h' => hg.block g (h.lt g h').2 (fun e => by have := (h.lt g h').1; injection e with e; omega)) hg.size
theorem cell_grown {w w' : World} {row : Nat} {p : Addr} {v : Value} (hg : w.grownBy w' (some row)) (hc : w.cell? p = some v) (hne : p.block ≠ row) : w'.cell? p = some v := hg.cell hc (fun e => hne (by injection e))
theorem below_grown {w0 w w' : World} {B : Nat} (h : Below B w0 w) (hB : B ≤ w0.heap.size) (hg : w.grownBy w' (some B)) : Below B w0 w' := h.grown hg (Nat.le_trans hB h.size) (fun k hk => by injection hk with hk; omega)

/-- ops.Lean's second loop. -/
structure LnJ (l : List OpD) (w : World) (t : Nat) (A : Option Addr) (c : Nat) (wr : World) : Prop where
  own : Owns wr w.heap.size 3 (.slice A t c) t (((kp l).take t).flatMap OpD.cells)
  below : Below w.heap.size w wr
theorem lnJ_add {l : List OpD} {w wr w5 : World} {t c c4 : Nat} {A A4 : Option Addr} {o : OpD} {row : Option Nat} (h : LnJ l w t A c wr) (e : (kp l)[t]? = some o) (hl : Left wr w5 w.heap.size row)
    (hown : Owns w5 w.heap.size 3 (.slice A4 (t + 1) c4) (t + 1) (((kp l).take t).flatMap OpD.cells ++ [.int .i64 o.Kind, .int .i64 o.At, .string o.Text])) : LnJ l w (t + 1) A4 c4 w5 :=
  { own := by
      obtain ⟨ht, rfl⟩ := List.getElem?_eq_some_iff.1 e
      rw [List.take_succ_eq_append_getElem ht, List.flatMap_append]
      simpa [OpD.cells] using hown
    below := hl.below (Nat.le_refl _) h.below }

set_option maxRecDepth 20000 in
set_option maxHeartbeats 2000000 in
theorem lean_any (A : Option Addr) (n c : Nat) (l : List OpD) (w : World) (r : RowsIn w w.heap.size A n c OpD.cells 3 l) (hw : ∀ z ∈ l, OpD.ok z) (hs : n * 32 ≤ 140737488355328) :
    Calls Try.prog 35 #[.slice A n c] w fun e w' => ∃ (D : Option Addr) (d : Nat), e = .returned (.slice D (kp l).length d) ∧ RowsIn w' w'.heap.size D (kp l).length d OpD.cells 3 (kp l) ∧ Below w.heap.size w w' := by
  have hn := r.len
  subst hn
  have htop : (l.length : Int) ≤ 9223372036854775807 := by have h1 := r.le; have h2 := r.top; unfold maxLen at h2; omega
  have hmm := @run_makeMap Try.prog
  have R0 := Lib.hid r
  have HS := Lib.hid hs
  have I0 : Hid (LnI l w l.length (.map []) none 0 (w.alloc (.map #[] 0))) := by
    refine { map := ?_, says := ?_, own := ?_, below := (Below.refl _ _).alloc (Nat.le_refl _) _, size := by simp }
    · rw [Nat.sub_self]; exact World.ownsMap_made _ _ _ _
    · rw [List.drop_length]; exact says_nil
    · rw [List.drop_length]; exact Owns.nil _ _ _
  clear r hs
  go_enter Try.func35, Try.ntmps35
  go_wp2
  go_loopw [3, 5] (fun v3 v5 wr => ∃ (k : Nat) (i : Int) (D : DataW Unit) (A : Option Addr) (c : Nat), k ≤ l.length ∧ Hid (i + 1 = (k : Int)) ∧ v5 = .int .i64 i ∧ v3 = .slice A (kp (l.drop k)).length c ∧ Hid (LnI l w k D A c wr)) (fun _ v5 _ => (intOf v5 + 1).toNat)
  case atStart => exact ⟨l.length, (l.length : Int) - 1, .map [], none, 0, Nat.le_refl _, by simp only [Hid]; omega, rfl, by simp [kp], I0.out⟩
  case round =>
    obtain ⟨k, i, D, A2, c2, hk, HI, rfl, rfl, hP⟩ := hrel
    obtain ⟨wq, rfl⟩ : ∃ z : World, z = wr := ⟨_, rfl⟩
    clear I0 hmm
    rcases Nat.eq_zero_or_pos k with hk0 | hk0
    · subst hk0
      obtain rfl : i = -1 := by have := HI.out; omega
      have RB := Lib.hid (hP.out.own.rows (enc := OpD.cells) (k := 3) (fun _ => rfl) (by decide))
      have HB0 := Lib.hid hP.out.below
      have J0 : Hid (LnJ l wq 0 none 0 wq) := { own := Owns.nil _ _ _, below := Below.refl _ _ }
      have HKL : Hid ((kp l).length ≤ l.length) := kp_le l
      have hkt : ((kp l).length : Int) ≤ 9223372036854775807 := by have := HKL.out; omega
      rw [List.drop_zero] at RB
      rw [List.drop_zero]
      clear hP HI hk hw
      go_wp2
      go_loopw [7, 8] (fun v7 v8 wr => ∃ (t : Nat) (i : Int) (A : Option Addr) (c : Nat), t ≤ (kp l).length ∧ Hid (i + 1 + (t : Int) = ((kp l).length : Int)) ∧ v8 = .int .i64 i ∧ v7 = .slice A t c ∧ Hid (LnJ l wq t A c wr)) (fun _ v8 _ => (intOf v8 + 1).toNat)
      case atStart => exact ⟨0, ((kp l).length : Int) - 1, none, 0, Nat.zero_le _, by simp only [Hid]; omega, rfl, rfl, J0.out⟩
      case round =>
        obtain ⟨t, i, A3, c3, ht, HI, rfl, rfl, hJ⟩ := hrel
        obtain ⟨wz, rfl⟩ : ∃ z : World, z = wr := ⟨_, rfl⟩
        clear J0
        by_cases htl : t < (kp l).length
        · have e1 := List.getElem?_eq_getElem htl
          generalize (kp l)[t] = o at e1
          obtain ⟨m, hm⟩ : ∃ m : Nat, (m : Int) = i := ⟨(kp l).length - 1 - t, by have := HI.out; omega⟩
          subst hm
          have e2 : (kp l).reverse[m]? = some o := by
            rw [List.getElem?_reverse (by have := HI.out; omega)]
            rw [show (kp l).length - 1 - m = t by have := HI.out; omega]; exact e1
          have hml : (m : Int) < ((kp l).length : Int) := by have := HI.out; omega
          have hm0 : (0 : Int) ≤ (m : Int) := by omega
          obtain ⟨b, f, rfl, hbB, p0, p1, p2⟩ := opCells3 (RB.out.below hJ.out.below) e2
          have E1 := Lib.hid e1
          obtain ⟨ok, oa, ot⟩ := o
          simp only at p0 p1 p2
          have G2 : Hid (∀ u ∈ (#[.int .i64 ok, .int .i64 oa, .string ot] : Array Value).toList, u.oneCell' = true) := by simp [Hid, Value.oneCell']
          have G3 : Hid (t + 1 ≤ maxLen ∧ (t + 1) * 32 ≤ 140737488355328) := by
            have := HS.out; have := HKL.out; unfold maxLen; simp only [Hid]; omega
          have G4 : Hid (0 < 3) := by simp [Hid]
          have hji : Hid ((m : Int) - 1 + 1 + ((t + 1 : Nat) : Int) = ((kp l).length : Int)) := by have := HI.out; simp only [Hid]; omega
          clear e1 e2
          go_wp2_with (at_builtin; refine wpList_add1 (size := 3) (bytes := 32) (base := wq.heap.size) (news := #[.int .i64 ok, .int .i64 oa, .string ot]) rfl rfl Try.underlying47 info_opl rfl G4.out hJ.out.own rfl hJ.out.below.size rfl rfl rfl G2.out G3.out.1 G3.out.2 ?_; intro A4 c4 w5 hown5 hl5 hn5)
          have HF := Lib.hid (lnJ_add hJ.out E1.out hl5 hown5)
          go_roundw
          case rel => exact ⟨t + 1, (m : Int) - 1, A4, c4, by omega, hji, rfl, rfl, HF.out⟩
          case measure => (simp [intOf]; try omega)
        · obtain rfl : i = -1 := by have := HI.out; omega
          have ht2 : t = (kp l).length := by omega
          subst ht2
          go_wp2
          go_ret
          have q1 := hJ.out.own.rows (enc := OpD.cells) (k := 3) (fun _ => rfl) (by decide)
          rw [List.take_length] at q1
          exact ⟨A3, c3, rfl, q1, HB0.out.trans (hJ.out.below.mono HB0.out.size)⟩
    · obtain ⟨j, rfl⟩ : ∃ j, k = j + 1 := ⟨k - 1, by omega⟩
      obtain rfl : i = (j : Int) := by have := HI.out; omega
      have hjl : j < l.length := by omega
      have e1 := List.getElem?_eq_getElem hjl
      have hmem : OpD.ok l[j] := hw _ (List.getElem_mem hjl)
      generalize l[j] = o at e1 hmem
      have E1 := Lib.hid (drop_at e1)
      obtain ⟨b, f, rfl, hbB, p0, p1, p2⟩ := opCells3 (R0.out.below hP.out.below) e1
      obtain ⟨ok, oa, ot⟩ := o
      simp only at p0 p1 p2
      have hwf : (Lit.int .i64 oa).wf = true := hmem.2.1
      have j0 : (0 : Int) ≤ (j : Int) := by omega
      have j1 : (j : Int) < (l.length : Int) := by omega
      obtain ⟨wo, hwo⟩ : ∃ z : World, z = wq.alloc (.cells #[.int .i64 ok, .int .i64 oa, .string ot] 46) := ⟨_, rfl⟩
      have hro := heap_alloc_new wq (.cells #[.int .i64 ok, .int .i64 oa, .string ot] 46)
      rw [← hwo] at hro
      have hbo : Below w.heap.size w wo := by rw [hwo]; exact hP.out.below.alloc hP.out.below.size _
      have HBO := Lib.hid hbo
      have HWO := Lib.hid hwo
      have c0 : wo.cell? ⟨wq.heap.size, 0, none⟩ = some (.int .i64 ok) := row_cell hro 0
      have c1 : wo.cell? ⟨wq.heap.size, 1, none⟩ = some (.int .i64 oa) := row_cell hro 1
      have c2' : wo.cell? ⟨wq.heap.size, 2, none⟩ = some (.string ot) := row_cell hro 2
      have HM : Hid (wo.ownsMap Try.prog 3 (plainElem Try.prog 3) w.heap.size (l.length - (j + 1)) D) := by rw [hwo]; exact hP.out.map.alloc _
      have OW : Hid (Owns wo (w.heap.size + 1) 3 (.slice A2 (kp (l.drop (j + 1))).length c2) (kp (l.drop (j + 1))).length ((kp (l.drop (j + 1))).reverse.flatMap OpD.cells)) := by rw [hwo]; exact hP.out.own.alloc _
      have SZ : Hid (w.heap.size + 1 ≤ wo.heap.size) := by have := hP.out.size; simp only [Hid]; rw [hwo, World.size_alloc]; omega
      have NE : Hid (wq.heap.size ≠ w.heap.size) := by have := hP.out.size; simp only [Hid]; omega
      have G2 : Hid (∀ u ∈ (#[.int .i64 ok, .int .i64 oa, .string ot] : Array Value).toList, u.oneCell' = true) := by simp [Hid, Value.oneCell']
      have G3 : Hid ((kp (l.drop (j + 1))).length + 1 ≤ maxLen ∧ ((kp (l.drop (j + 1))).length + 1) * 32 ≤ 140737488355328) := by
        have h1 := kp_le (l.drop (j + 1)); rw [List.length_drop] at h1; have := HS.out; unfold maxLen; simp only [Hid]; omega
      have G4 : Hid (0 < 3) := by simp [Hid]
      have GM : Hid (l.length - (j + 1) < maxLen) := by have := HS.out; unfold maxLen; simp only [Hid]; omega
      have hPS := Lib.hid hP.out.says
      have hji : Hid ((j : Int) - 1 + 1 = (j : Int)) := by simp only [Hid]; omega
      clear e1 hbo hwo hro hmem hP hw
      generalize hq : (kp (l.drop (j + 1))).length = q at *
      have HQ := Lib.hid hq
      clear hq
      by_cases hk1 : ok = 1
      · subst hk1
        by_cases hc : (ahd (l.drop (j + 1))).contains oa = true
        · have HC := Lib.hid hc
          clear hc
          have HST : Hid (stay ⟨1, oa, ot⟩ (l.drop (j + 1)) = false) := stay_not rfl HC.out
          have HSY : Hid (Says D (ahd (⟨1, oa, ot⟩ :: l.drop (j + 1)))) := by simp only [Hid]; rw [ahd_one rfl]; exact says_old HC.out hPS.out
          go_wp2_with (at_lookup; rw [← HWO.out]; refine wpList_lookup_own_int _ rfl _ _ 108 rfl 3 3 .i64 mapLaw Try.underlying108 Try.underlying3 (zeroInt _) w.heap.size _ _ rfl HM.out _ _ rfl (keyOf_int_mk Try.underlying3 hwf) ?_; intro c hat hwc; obtain rfl := says_yes hPS.out HC.out hat)
          obtain ⟨F, e⟩ := ln_skip E1.out HST.out HM.out (by omega) HSY.out HBO.out SZ.out (by rw [HQ.out]; exact OW.out)
          rw [HQ.out] at e
          have HF := Lib.hid F
          have HE := Lib.hid e
          clear F e
          go_roundw
          case rel => exact ⟨j, (j : Int) - 1, D, A2, c2, by omega, hji, rfl, by rw [HE.out], HF.out⟩
          case measure => (simp [intOf]; try omega)
        · have hc' : (ahd (l.drop (j + 1))).contains oa = false := by simpa using hc
          have HC := Lib.hid hc'
          clear hc hc'
          have HST : Hid (stay ⟨1, oa, ot⟩ (l.drop (j + 1)) = true) := stay_new HC.out
          have HSY : Hid (Says (D.put (.int .i64 oa) (.lit (.int .i64 1))) (ahd (⟨1, oa, ot⟩ :: l.drop (j + 1)))) := by simp only [Hid]; rw [ahd_one rfl]; exact says_add HM.out.isMap hPS.out
          go_wp2_with (first
            | (at_lookup; rw [← HWO.out]; refine wpList_lookup_own_int _ rfl _ _ 108 rfl 3 3 .i64 mapLaw Try.underlying108 Try.underlying3 (zeroInt _) w.heap.size _ _ rfl HM.out _ _ rfl (keyOf_int_mk Try.underlying3 hwf) ?_; intro c hat hwc; obtain rfl := says_no hPS.out HC.out hat)
            | (at_mapUpdate; refine wpList_mapUpdate_own _ rfl _ _ _ 108 rfl 3 3 mapLaw Try.underlying108 _ w.heap.size _ _ rfl HM.out GM.out _ _ _ rfl rfl (keyOf_int_mk Try.underlying3 hwf) _ [] (plainElem_int Try.underlying3 wf_one) ?_; intro w1 hm1 hg1; have d0 := cell_grown hg1 c0 NE.out; have d1 := cell_grown hg1 c1 NE.out; have d2 := cell_grown hg1 c2' NE.out; have OW1 := Lib.hid (owns_grown OW.out hg1 (Nat.lt_succ_self _)); have SZ1 : Hid (w.heap.size + 1 ≤ w1.heap.size) := Nat.le_trans SZ.out hg1.size)
            | (at_builtin; refine wpList_add1 (size := 3) (bytes := 32) (base := w.heap.size + 1) (news := #[.int .i64 1, .int .i64 oa, .string ot]) rfl rfl Try.underlying47 info_opl rfl G4.out OW1.out rfl SZ1.out rfl rfl rfl G2.out G3.out.1 G3.out.2 ?_; intro A3 c3 w5 hown5 hl5 hn5))
          obtain ⟨F, e⟩ := ln_add E1.out HST.out hm1 (by omega) HSY.out (below_grown HBO.out (Nat.le_refl _) hg1) hl5 (by rw [HQ.out]; exact hown5)
          rw [HQ.out] at e
          have HF := Lib.hid F
          have HE := Lib.hid e
          clear F e
          go_roundw
          case rel => exact ⟨j, (j : Int) - 1, _, A3, c3, by omega, hji, rfl, by rw [HE.out], HF.out⟩
          case measure => (simp [intOf]; try omega)
      · have HST : Hid (stay ⟨ok, oa, ot⟩ (l.drop (j + 1)) = true) := stay_other hk1
        have HSY : Hid (Says (H := Unit) (.map []) (ahd (⟨ok, oa, ot⟩ :: l.drop (j + 1)))) := by simp only [Hid]; rw [ahd_other hk1]; exact says_nil
        go_wp2_with (first
          | (rw [← HWO.out]; refine wpList_clear_own rfl _ 108 rfl 3 3 Try.underlying108 _ w.heap.size _ _ rfl HM.out ?_; intro w1 hm1 hg1; have d0 := cell_grown hg1 c0 NE.out; have d1 := cell_grown hg1 c1 NE.out; have d2 := cell_grown hg1 c2' NE.out; have OW1 := Lib.hid (owns_grown OW.out hg1 (Nat.lt_succ_self _)); have SZ1 : Hid (w.heap.size + 1 ≤ w1.heap.size) := Nat.le_trans SZ.out hg1.size)
          | (at_builtin; refine wpList_add1 (size := 3) (bytes := 32) (base := w.heap.size + 1) (news := #[.int .i64 ok, .int .i64 oa, .string ot]) rfl rfl Try.underlying47 info_opl rfl G4.out OW1.out rfl SZ1.out rfl rfl rfl G2.out G3.out.1 G3.out.2 ?_; intro A3 c3 w5 hown5 hl5 hn5))
        obtain ⟨F, e⟩ := ln_add E1.out HST.out hm1 (by omega) HSY.out (below_grown HBO.out (Nat.le_refl _) hg1) hl5 (by rw [HQ.out]; exact hown5)
        rw [HQ.out] at e
        have HF := Lib.hid F
        have HE := Lib.hid e
        clear F e
        go_roundw
        case rel => exact ⟨j, (j : Int) - 1, _, A3, c3, by omega, hji, rfl, by rw [HE.out], HF.out⟩
        case measure => (simp [intOf]; try omega)
end Go.Proofs.Ytjmgocfoimhmjaa
