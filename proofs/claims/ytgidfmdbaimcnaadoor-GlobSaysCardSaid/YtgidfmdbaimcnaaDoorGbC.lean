/- (*glob.reader).class, walked. -/
import Derived.Test.YtgidfmdbaimcnaaDoorGbT
import Derived.Deep.DeepCutAuto
import Derived.WalkMore
namespace Go.Proofs.YtgidfmdbaimcnaaDoor
open Go.RowKit Go.Shelf Go.PlainAid

theorem info_span : (Tryd.prog.info? 51).map (fun i => (i.zero, i.size, i.bytes)) = some (some (.agg #[.int .i32 0, .int .i32 0]), 2, 8) := by kernel_rfl
abbrev ptCells (ru ng : Bool) (D : Option Addr) (m d : Nat) : Array Value := #[.bool ru, .bool ng, .slice D m d]
structure ClF (w : World) (b : Nat) (ng : Bool) (acc : List (Int × Int)) (D : Option Addr) (d : Nat) (wr : World) : Prop where
  res : wr.heap[w.heap.size]? = some (.cells (ptCells false false none 0 0) 33 (0, 0))
  box : wr.heap[w.heap.size + 1]? = some (.cells (ptCells false ng D acc.length d) 33 (0, 0))
  own : Owns wr (w.heap.size + 2) 2 (.slice D acc.length d) acc.length (acc.flatMap spn)
  ob : OnlyB b w wr
  size : w.heap.size + 2 ≤ wr.heap.size
section
variable {w wr w' : World} {b : Nat} {ng : Bool} {acc : List (Int × Int)} {D : Option Addr} {d : Nat}
theorem OnlyB.new (h : OnlyB b w wr) (hb : b < w.heap.size) {p : Addr} (hp : w.heap.size ≤ p.block) (v : Value) : OnlyB b w (wr.setCell p v) :=
  ⟨fun B hB => (h.1 B hB).setCell (by omega) v, fun g hg hl => (Below.heap_setCell _ _ _ _ (by omega)).trans (h.2 g hg hl)⟩
theorem OnlyB.alloc (h : OnlyB b w wr) (o : Obj) (hb : b ≤ w.heap.size) : OnlyB b w (wr.alloc o) :=
  ⟨fun B hB => (h.1 B hB).alloc (by have := h.size; omega) o, fun g hg hl => (Below.heap_alloc _ _ _ (by have := h.size; omega)).trans (h.2 g hg hl)⟩
theorem OnlyB.left (h : OnlyB b w wr) {base : Nat} {row : Option Nat} (hl : Left wr w' base row) (hb : b < w.heap.size) (hB : w.heap.size ≤ base) : OnlyB b w w' :=
  ⟨fun B hB' => hl.below (by omega) (h.1 B hB'), fun g hg hgl => (hl.grown.block g (by have := h.size; omega) (fun e => by have := hl.row_ge g e.symm; omega)).trans (h.2 g hg hgl)⟩
theorem OnlyB.old (h : OnlyB b w wr) {g : Nat} {x : Obj} (hg : w.heap[g]? = some x) (hne : g ≠ b) : wr.heap[g]? = some x := (h.2 g hne (row_lt hg)).trans hg
theorem Owns.only {base size n : Nat} {v : Value} {xs : List Value} (h : Owns wr base size v n xs) (ho : OnlyB b wr w') (hb : b < base) : Owns w' base size v n xs :=
  h.kept (fun g hg => ho.2 g (by have := (h.lt g hg).1; omega) (h.lt g hg).2) ho.size
theorem ClF.only (h : ClF w b ng acc D d wr) (ho : OnlyB b wr w') (hb : b < w.heap.size) : ClF w b ng acc D d w' :=
  { res := ho.old h.res (by omega), box := ho.old h.box (by omega), own := h.own.only ho (by omega), ob := h.ob.trans ho, size := Nat.le_trans h.size ho.size }
theorem ClF.neg (h : ClF w b false acc D d wr) (hb : b < w.heap.size) : ClF w b true acc D d (wr.setCell ⟨w.heap.size + 1, 1, none⟩ (.bool true)) := by
  have h1 := row_store (j := 1) (v := .bool true) h.box
  have hs := h.size
  exact { res := row_other h.res (by simp), box := by simpa [ptCells] using h1, own := h.own.setOther (fun e => by have h2 : w.heap.size + 2 ≤ w.heap.size + 1 := (h.own.lt _ e).1; omega) _, ob := h.ob.new hb (by show _ ≤ w.heap.size + 1; omega) _, size := by simp [World.setCell]; omega }
theorem ClF.add (h : ClF w b ng acc D d wr) (hb : b < w.heap.size) {D' : Option Addr} {d' : Nat} {z : Int × Int} (hl : Left wr w' (w.heap.size + 2) (Value.ownBlock (.slice D acc.length d)))
    (ho : Owns w' (w.heap.size + 2) 2 (.slice D' (acc.length + 1) d') (acc.length + 1) (acc.flatMap spn ++ spn z)) :
    ClF w b ng (acc ++ [z]) D' d' (w'.setCell ⟨w.heap.size + 1, 2, none⟩ (.slice D' (acc.length + 1) d')) := by
  have hk : ∀ g, g < w.heap.size + 2 → Value.ownBlock (.slice D acc.length d) ≠ some g := fun g hg e => by have := (h.own.lt g e).1; omega
  have h1 := row_store (j := 2) (v := .slice D' (acc.length + 1) d') (row_left h.box hl (hk _ (by omega)))
  have h0 := row_left h.res hl (hk _ (by omega))
  have hs := h.size
  have hs2 := hl.size
  have hlen : (acc ++ [z]).length = acc.length + 1 := by simp
  refine { res := row_other h0 (by simp), box := ?_, own := ?_, ob := (h.ob.left hl hb (by omega)).new hb (by show _ ≤ w.heap.size + 1; omega) _, size := by simp [World.setCell]; omega }
  · rw [hlen]; simpa [ptCells] using h1
  · rw [hlen, List.flatMap_append]
    have : Owns w' (w.heap.size + 2) 2 (.slice D' (acc.length + 1) d') (acc.length + 1) (acc.flatMap spn ++ [z].flatMap spn) := by simpa using ho
    exact this.setOther (fun e => by have h2 : w.heap.size + 2 ≤ w.heap.size + 1 := (this.lt _ e).1; omega) _
end
theorem res_put {W : World} {p : Nat} {u0 u1 u2 v0 v1 v2 : Value} (h : W.heap[p]? = some (.cells #[u0, u1, u2] 33 (0, 0))) : (((W.setCell ⟨p, 0, none⟩ v0).setCell ⟨p, 1, none⟩ v1).setCell ⟨p, 2, none⟩ v2).heap[p]? = some (.cells #[v0, v1, v2] 33 (0, 0)) := by
  have h0 := row_store (j := 0) (v := v0) h
  have h1 := row_store (j := 1) (v := v1) h0
  have h2 := row_store (j := 2) (v := v2) h1
  simpa using h2
theorem info_part : (Tryd.prog.info? 33).map (·.size) = some 3 := by kernel_rfl
theorem OnlyB.newRow {w wr : World} {b : Nat} (h : OnlyB b w wr) (hb : b < w.heap.size) {p : Nat} (hp : w.heap.size ≤ p) (cs : Array Value) : OnlyB b w (wr.setRow p cs) :=
  ⟨fun B hB => below_setRow (h.1 B hB) (by omega) cs, fun g hg hl => (setRow_other _ _ _ _ (by omega)).trans (h.2 g hg hl)⟩
theorem RdAt.newRow {W : World} {b : Nat} {A : Option Addr} {n c k : Nat} (h : RdAt W b A n c k) {p : Nat} (hp : b ≠ p) (cs : Array Value) : RdAt (W.setRow p cs) b A n c k := (setRow_other _ _ _ _ hp).trans h
/-- Is a range to come? -/
def grd (r : List Int) : Bool := decide (r[0]? = some 45 ∧ r[1]? ≠ some 93 ∧ 1 < r.length)
theorem grd_at {l : List Int} {k : Nat} {y0 y1 : Int} (h0 : l[k]? = some y0) (h1 : l[k + 1]? = some y1) : grd (l.drop k) = decide (y0 = 45 ∧ y1 ≠ 93) := by
  unfold grd
  rw [List.getElem?_drop, List.getElem?_drop, Nat.add_zero, h0, h1, List.length_drop]
  have := (List.getElem?_eq_some_iff.1 h1).1
  refine decide_eq_decide.2 ⟨fun h => ⟨by simpa using h.1, by simpa using h.2.1⟩, fun h => ⟨by rw [h.1], by simpa using h.2, by omega⟩⟩
theorem grd_end {l : List Int} {k : Nat} (h : l.length ≤ k + 1) : grd (l.drop k) = false := by
  unfold grd
  rw [List.length_drop]
  exact decide_eq_false fun h2 => by have := h2.2.2; omega
def ClPost (b : Nat) (l : List Int) (A : Option Addr) (n c k : Nat) (w : World) (e : Ending) (w' : World) : Prop :=
  ∃ (ng ok : Bool) (D : Option Addr) (m d k' : Nat), e = .returned (.tuple #[.agg (ptCells false ng D m d), .bool ok]) ∧ k ≤ k' ∧ k' ≤ n ∧ RdAt w' b A n c k' ∧ OnlyB b w w' ∧
    (if ok = true then ∃ sp, clsR [] (unbang (l.drop k)) = some (sp, l.drop k') ∧ ng = bang (l.drop k) ∧ m = sp.length ∧ RowsIn w' w'.heap.size D m d spn 2 sp ∧ (∀ a, D = some a → w.heap.size ≤ a.block) ∧ m ≤ k' else clsR [] (unbang (l.drop k)) = none)
theorem cl_done {w w1 : World} {b : Nat} {l : List Int} {A : Option Addr} {n c k k3 : Nat} {ng : Bool} {acc : List (Int × Int)} {D : Option Addr} {d : Nat} (hF : ClF w b ng acc D d w1) (hbl : b < w.heap.size) (hrd : RdAt w1 b A n c k3) (h1 : k ≤ k3) (h2 : k3 ≤ n) (ha : acc.length ≤ k3) (hng : ng = bang (l.drop k))
    (F : clsR [] (unbang (l.drop k)) = if acc = [] then none else some (acc, l.drop k3)) :
    ClPost b l A n c k w (.returned (.tuple #[.agg (ptCells false ng D acc.length d), .bool (decide (0 < acc.length))])) (((w1.setCell ⟨w.heap.size, 0, none⟩ (.bool false)).setCell ⟨w.heap.size, 1, none⟩ (.bool ng)).setCell ⟨w.heap.size, 2, none⟩ (.slice D acc.length d)).drew := by
  have hne : ∀ (j : Nat), Value.ownBlock (.slice D acc.length d) ≠ some ({ block := w.heap.size, off := j } : Addr).block := fun j e => by have h2 : w.heap.size + 2 ≤ w.heap.size := (hF.own.lt _ e).1; omega
  have ho := (((hF.own.setOther (hne 0) (.bool false)).setOther (hne 1) (.bool ng)).setOther (hne 2) (.slice D acc.length d)).drew
  refine ⟨ng, _, D, acc.length, d, k3, rfl, h1, h2, ?_, ?_, ?_⟩
  · exact row_other (row_other (row_other hrd (by show b ≠ w.heap.size; omega)) (by show b ≠ w.heap.size; omega)) (by show b ≠ w.heap.size; omega)
  · have := ((hF.ob.new hbl (p := ⟨w.heap.size, 0, none⟩) (Nat.le_refl _) (.bool false)).new hbl (p := ⟨w.heap.size, 1, none⟩) (Nat.le_refl _) (.bool ng)).new hbl (p := ⟨w.heap.size, 2, none⟩) (Nat.le_refl _) (.slice D acc.length d)
    exact ⟨fun B hB => (this.1 B hB).drew, this.2⟩
  · by_cases hz : acc = []
    · subst hz
      rw [if_neg (by decide), F, if_pos rfl]
    · have hl : 0 < acc.length := by cases acc with | nil => exact absurd rfl hz | cons _ _ => simp
      rw [if_pos (decide_eq_true hl)]
      rw [if_neg hz] at F
      refine ⟨acc, F, hng, rfl, ho.rows (enc := spn) (k := 2) (fun _ => rfl) (by decide), fun a ha' => ?_, ha⟩
      have := (hF.own.lt a.block (by rw [ha']; rfl)).1
      omega
theorem bang_yes {l : List Int} {k : Nat} (h : l[k]? = some 33) : bang (l.drop k) = true ∧ unbang (l.drop k) = l.drop (k + 1) := by
  unfold bang unbang
  have : (l.drop k)[0]? = some 33 := by rw [List.getElem?_drop]; exact h
  rw [if_pos this, List.drop_drop]
  exact ⟨decide_eq_true this, rfl⟩
theorem bang_no {l : List Int} {k : Nat} (h : ¬ l[k]? = some 33) : bang (l.drop k) = false ∧ unbang (l.drop k) = l.drop k := by
  unfold bang unbang
  have : ¬ (l.drop k)[0]? = some 33 := by rw [List.getElem?_drop]; exact h
  rw [if_neg this]
  exact ⟨decide_eq_false this, rfl⟩
section
variable {b : Nat} {l r : List Int} {A : Option Addr} {n c k : Nat} {w : World} {x : Int} {pl : Bool}
theorem next_none (h : nx (l.drop k) = none) (hb : RdAt w b A n c k) (hr : RowsIn w w.heap.size A n c (fun z => [.int .i32 z]) 1 l) (hA : ∀ a, A = some a → a.block ≠ b) (hk : k ≤ n) :
    Calls Tryd.prog 12 #[.pointer (some ⟨b, 0, none⟩)] w fun e w' => ∃ x pl k', e = .returned (.tuple #[.int .i32 x, .bool pl, .bool false]) ∧ k ≤ k' ∧ k' ≤ n ∧ RdAt w' b A n c k' ∧ OnlyB b w w' := by
  refine (next_any b l A n c k w hb hr hA hk).mono ?_
  rintro e w' ⟨x, pl, ok, k', rfl, h1, h2, h3, h4, h5⟩
  cases ok with
  | false => exact ⟨x, pl, k', rfl, h1, h2, h4, h5⟩
  | true => rw [if_pos rfl, h] at h3; cases h3.1
theorem next_some (h : nx (l.drop k) = some (x, pl, r)) (hb : RdAt w b A n c k) (hr : RowsIn w w.heap.size A n c (fun z => [.int .i32 z]) 1 l) (hA : ∀ a, A = some a → a.block ≠ b) (hk : k ≤ n) :
    Calls Tryd.prog 12 #[.pointer (some ⟨b, 0, none⟩)] w fun e w' => ∃ k', e = .returned (.tuple #[.int .i32 x, .bool pl, .bool true]) ∧ k < k' ∧ k' ≤ n ∧ r = l.drop k' ∧ RdAt w' b A n c k' ∧ OnlyB b w w' := by
  refine (next_any b l A n c k w hb hr hA hk).mono ?_
  rintro e w' ⟨x', pl', ok, k', rfl, h1, h2, h3, h4, h5⟩
  cases ok with
  | false => rw [if_neg (by decide), h] at h3; cases h3
  | true =>
    rw [if_pos rfl, h] at h3
    obtain ⟨h3, h6, _⟩ := h3
    injection h3 with h3
    injection h3 with e1 e2
    injection e2 with e2 e3
    subst e1; subst e2
    exact ⟨k', rfl, h6, h2, e3, h4, h5⟩
end
def atOf (b : Nat) (W : World) : Nat := match W.cell? ⟨b, 1, none⟩ with
  | some (.int _ k) => k.toNat
  | _ => 0
theorem atOf_eq {W : World} {b : Nat} {A : Option Addr} {n c k : Nat} (h : RdAt W b A n c k) : atOf b W = k := by
  unfold atOf; rw [row_cell h 1]; rfl
def ClL (w : World) (b : Nat) (A : Option Addr) (n c k : Nat) (l : List Int) (ng : Bool) (wr : World) : Prop :=
  ∃ acc D d k2, ClF w b ng acc D d wr ∧ RdAt wr b A n c k2 ∧ k ≤ k2 ∧ k2 ≤ n ∧ acc.length ≤ k2 ∧ clsR acc (l.drop k2) = clsR [] (unbang (l.drop k))
/-- Ahead of the loop. -/
def ClS (w : World) (b : Nat) (A : Option Addr) (n c k : Nat) (l : List Int) (wx : World) : Prop :=
  ∃ ng k1, ClF w b ng [] none 0 wx ∧ RdAt wx b A n c k1 ∧ k ≤ k1 ∧ k1 ≤ n ∧ ng = bang (l.drop k) ∧ unbang (l.drop k) = l.drop k1
set_option maxRecDepth 100000 in
set_option maxHeartbeats 2000000 in
theorem class_any (b : Nat) (l : List Int) (A : Option Addr) (n c k : Nat) (w : World) (hb : RdAt w b A n c k) (hr : RowsIn w w.heap.size A n c (fun z => [.int .i32 z]) 1 l) (hA : ∀ a, A = some a → a.block ≠ b) (hk : k ≤ n) (hn : n ≤ 4096) :
    Calls Tryd.prog 13 #[.pointer (some ⟨b, 0, none⟩)] w (ClPost b l A n c k w) := by
  have hbl := row_lt hb
  have hnl := hr.len
  have HR := Lib.hid hr
  have HA := Lib.hid hA
  have HNL := Lib.hid hnl
  have HN := Lib.hid hn
  have HK := Lib.hid hk
  obtain ⟨wa, hwa⟩ : ∃ wa, wa = (w.alloc (.cells (ptCells false false none 0 0) 33)).alloc (.cells (ptCells false false none 0 0) 33) := ⟨_, rfl⟩
  have F0 : ClF w b false [] none 0 wa := by
    rw [hwa]
    exact { res := row_alloc (heap_alloc_new w _) _, box := by have := heap_alloc_new (w.alloc (.cells (ptCells false false none 0 0) 33)) (.cells (ptCells false false none 0 0) 33); simpa using this, own := Owns.nil _ _ _, ob := ((OnlyB.refl _ _).alloc _ (by omega)).alloc _ (by omega), size := by simp }
  have hra : RdAt wa b A n c k := by rw [hwa]; exact row_alloc (row_alloc hb _) _
  have hrows := F0.ob.rows hr hA
  have HF0 := Lib.hid F0
  have HRA := Lib.hid hra
  have HRW := Lib.hid hrows
  have HWA := Lib.hid hwa
  clear hb hr hA hnl hn hk hra hrows F0 hwa
  have hone0 : Hid ((ptCells false false none 0 0 : Array Value).all (·.oneCell') = true) := by simp [Hid, Value.oneCell']
  go_enter Tryd.func13, Tryd.ntmps13
  go_upto_region 2 with fail
  rw [← HWA.out]
  clear HWA
  go_cut [31] (fun s31 wx => s31 = .bool (decide (l[k]? = some 33)) ∧ ∃ m, wx = wa.drewN m)
  case first =>
    have c0 := row_cell HRA.out 0
    have c1 := row_cell HRA.out 1
    by_cases hkn : k < n
    · obtain ⟨x, hx⟩ : ∃ x, l[k]? = some x := ⟨_, List.getElem?_eq_getElem (by have := HNL.out; omega)⟩
      obtain ⟨g, o, rfl, hg, hc⟩ := HRW.out.one hx
      have hd : decide (k < n) = true := decide_eq_true (by omega)
      have hkc : (k : Int) < (n : Int) := by omega
      have HX := Lib.hid hx
      by_cases h33 : x = 33
      · subst h33
        clear hx hkn
        go_quiet (fail)
        go_wp2
        go_meet
        case rel => exact ⟨by rw [HX.out]; rfl, _, rfl⟩
      · have hxe : ((x : Int) == 33) = false := beq_eq_false_iff_ne.2 h33
        have hdx : decide (l[k]? = some 33) = false := decide_eq_false (by rw [hx]; intro e; injection e with e; exact h33 e)
        have HDX := Lib.hid hdx
        clear hx hkn hdx
        go_quiet (fail)
        go_wp2
        go_meet
        case rel => exact ⟨by rw [HDX.out], _, rfl⟩
    · have hd : decide (k < n) = false := decide_eq_false (by omega)
      have hdx : decide (l[k]? = some 33) = false := decide_eq_false (by rw [List.getElem?_eq_none (by have := HNL.out; omega)]; intro e; cases e)
      have HDX := Lib.hid hdx
      clear hkn hdx
      go_quiet (fail)
      go_wp2
      go_meet
      case rel => exact ⟨by rw [HDX.out], _, rfl⟩
  case rest =>
    obtain ⟨rfl, m, rfl⟩ := hcut
    go_upto_if 31 with fail
    go_cut [] (fun wx => ClS w b A n c k l wx)
    case first =>
      have HF1 : ClF w b false [] none 0 (wa.drewN m) := HF0.out.only ((OnlyB.refl _ _).drewN m) hbl
      have c2 := row_cell HF1.box 1
      have f2 := row_cold HF1.box 1
      have hne : b ≠ w.heap.size + 1 := by omega
      have hne2 : w.heap.size + 1 ≠ b := by omega
      have c1 := row_cell HRA.out 1
      have f1 := row_cold HRA.out 1
      by_cases h33 : l[k]? = some 33
      · have hkn : k < n := by have := (List.getElem?_eq_some_iff.1 h33).1; have := HNL.out; omega
        have hw1 : wrap64 ((k : Int) + 1) = (k : Int) + 1 := by have := HN.out; unfold wrap64; omega
        have hd : decide (l[k]? = some 33) = true := decide_eq_true h33
        have HB := Lib.hid (bang_yes h33)
        have HKN := Lib.hid hkn
        rw [hd]
        clear h33 hkn hd
        go_wp2
        go_meet
        case rel =>
          have g1 := HF1.neg hbl
          have r1 : RdAt ((wa.drewN m).setCell ⟨w.heap.size + 1, 1, none⟩ (.bool true)) b A n c k := row_other HRA.out hne
          exact ⟨true, k + 1, g1.only ((OnlyB.refl _ _).set 1 _) hbl, r1.set (k' := k + 1) (by omega), Nat.le_succ _, HKN.out, HB.out.1.symm, HB.out.2⟩
      · have hd : decide (l[k]? = some 33) = false := decide_eq_false h33
        have HB := Lib.hid (bang_no h33)
        rw [hd]
        clear h33 hd
        go_wp2
        go_meet
        case rel => exact ⟨false, k, HF1, HRA.out, Nat.le_refl _, HK.out, HB.out.1.symm, HB.out.2⟩
    case rest =>
      obtain ⟨ng, k1, hF, hrd, hk1, hk2, hng, hun⟩ := hcut
      have L0 : Hid (ClL w b A n c k l ng wc) := ⟨[], none, 0, k1, hF, hrd, hk1, hk2, Nat.zero_le _, by rw [hun]⟩
      have HNG := Lib.hid hng
      clear hF hrd hk1 hk2 hun hng HF0 HRA HRW
      go_wp2
      go_loopw [] (fun wr => Hid (ClL w b A n c k l ng wr)) (fun wr => n - atOf b wr)
      case atStart => exact L0
      case round =>
        obtain ⟨acc, D, d, k2, hF, hrd, hkk, hk2, hac, heq⟩ := hrel.out
        obtain ⟨wq, rfl⟩ : ∃ z : World, z = wr := ⟨_, rfl⟩
        have hrows := hF.ob.rows HR.out HA.out
        have AT : Hid (atOf b wq = k2) := atOf_eq hrd
        have HEQ := Lib.hid heq
        have HF := Lib.hid hF
        have HK2 := Lib.hid hk2
        have HKK := Lib.hid hkk
        have HAC := Lib.hid hac
        cases hnx : nx (l.drop k2) with
        | none =>
          have HNX := Lib.hid (next_none hnx hrd hrows HA.out hk2)
          have F : Hid (clsR [] (unbang (l.drop k)) = none) := by show _ = _; rw [← heq]; exact clsR_none hnx
          clear hrd hrows hF heq hnx hk2 hkk hac hrel
          go_wp2_with (first
            | (go_at_call 12; refine HNX.out.mono ?_; rintro e w1 ⟨x1, pl1, k3, rfl, h1, h2, h3, h4⟩; have HF1 := Lib.hid (HF.out.only h4 hbl); have H1 := Lib.hid h1; have H2 := Lib.hid h2; have H3 := Lib.hid h3; clear h1 h2 h3 h4)
            | (refine wpList_store_rowTo rfl _ _ _ rfl rfl w.heap.size (ptCells false false none 0 0) rfl rfl 33 (ptCells false false none 0 0) HF1.out.res info_part rfl hone0.out ?_))
          refine bodyPost_ret (results_cell_tmp_row rfl _ _ w.heap.size _ (ptCells false false none 0 0) (0, 0) _ rfl (row_set HF1.out.res) Tryd.underlying33 rfl info_part) rfl ?_
          exact ⟨false, false, none, 0, 0, k3, rfl, Nat.le_trans HKK.out H1.out, H2.out, H3.out.newRow (by omega) _, HF1.out.ob.newRow hbl (Nat.le_refl _) _, F.out⟩
        | some y =>
          obtain ⟨x, pl, r⟩ := y
          have HNX := Lib.hid (next_some hnx hrd hrows HA.out hk2)
          have HNE := Lib.hid hnx
          have HEN : Hid (x = 93 ∧ pl = false → clsR [] (unbang (l.drop k)) = if acc = [] then none else some (acc, r)) := fun h => by rw [← heq]; obtain ⟨rfl, rfl⟩ := h; exact clsR_close hnx
          clear hrd hrows hF heq hnx hk2 hkk hac hrel
          go_upto_region 8 with (go_at_call 12; refine HNX.out.mono ?_; rintro e w1 ⟨k3, rfl, h1, h2, h5, h3, h4⟩; have HF1 := Lib.hid (HF.out.only h4 hbl); have H1 := Lib.hid h1; have H2 := Lib.hid h2; have H3 := Lib.hid h3; have H5 := Lib.hid h5; clear h1 h2 h3 h4 h5)
          go_cut [54] (fun s54 wx => s54 = .bool (decide (x = 93 ∧ pl = false)) ∧ wx = w1)
          case first =>
            by_cases hx : x = 93
            · subst hx
              cases pl with
              | false =>
                go_wp2
                go_meet
                case rel => exact ⟨rfl, rfl⟩
              | true =>
                go_wp2
                go_meet
                case rel => exact ⟨rfl, rfl⟩
            · have he : ((x : Int) == 93) = false := beq_eq_false_iff_ne.2 hx
              have HD : Hid (decide (x = 93 ∧ pl = false) = false) := decide_eq_false fun h => hx h.1
              clear hx
              go_wp2
              go_meet
              case rel => exact ⟨by rw [HD.out], rfl⟩
          case rest =>
            obtain ⟨rfl, hwc⟩ := hcut
            rw [hwc]
            clear hwc
            by_cases hc : x = 93 ∧ pl = false
            · have F := Lib.hid (HEN.out hc)
              have hdc : decide (x = 93 ∧ pl = false) = true := decide_eq_true hc
              rw [hdc]
              clear hc hdc
              go_upto_region 9 with fail
              have b0 := row_cell HF1.out.box 0
              have b1 := row_cell HF1.out.box 1
              have b2 := row_cell HF1.out.box 2
              have r0 := row_cell HF1.out.res 0
              have r1 := row_cell HF1.out.res 1
              have r2 := row_cell HF1.out.res 2
              have f0 := row_cold HF1.out.res 0
              have f1 := row_cold HF1.out.res 1
              have f2 := row_cold HF1.out.res 2
              have hne : w.heap.size + 1 ≠ w.heap.size := by omega
              go_region
              all_goals
                go_wp2
                refine bodyPost_ret (results_cell_tmp_row rfl _ _ w.heap.size _ (ptCells false ng D acc.length d) (0, 0) _ rfl (res_put HF1.out.res) Tryd.underlying33 rfl info_part) rfl ?_
                exact cl_done HF1.out hbl H3.out (Nat.le_trans HKK.out (Nat.le_of_lt H1.out)) H2.out (Nat.le_trans HAC.out (Nat.le_of_lt H1.out)) HNG.out (by rw [F.out, H5.out])
            · have HC : Hid (¬ (x = 93 ∧ pl = false)) := hc
              have hdc : decide (x = 93 ∧ pl = false) = false := decide_eq_false hc
              rw [hdc]
              clear hc hdc
              go_upto_region 11 with fail
              have hrows1 := HF1.out.ob.rows HR.out HA.out
              have c0 := row_cell H3.out 0
              have c1 := row_cell H3.out 1
              have HLN := Lib.hid (show l.length = n from HNL.out)
              go_cut [98] (fun s98 wx => s98 = .bool (grd (l.drop k3)) ∧ ∃ m, wx = w1.drewN m)
              case first =>
                by_cases g1 : k3 + 1 < n
                · obtain ⟨y0, hy0⟩ : ∃ y, l[k3]? = some y := ⟨_, List.getElem?_eq_getElem (by have := HNL.out; omega)⟩
                  obtain ⟨y1, hy1⟩ : ∃ y, l[k3 + 1]? = some y := ⟨_, List.getElem?_eq_getElem (by have := HNL.out; omega)⟩
                  obtain ⟨g, o, hAe, hg, hc0⟩ := hrows1.one hy0
                  obtain ⟨g', o', e, _, hc1⟩ := hrows1.one hy1
                  rw [hAe] at e; injection e with e; injection e with e1 e2; subst e1; subst e2
                  have hgr := grd_at (l := l) (k := k3) hy0 hy1
                  have HGR := Lib.hid hgr
                  have hw1 : IntKind.i64.wrap ((k3 : Int) + 1) = (k3 : Int) + 1 := by have := HN.out; rw [IntKind.wrap_i64]; omega
                  have hd : decide ((k3 : Int) + 1 < (n : Int)) = true := decide_eq_true (by omega)
                  have hd2 : (k3 : Int) + 1 < (n : Int) := by omega
                  have hd3 : (k3 : Int) < (n : Int) := by omega
                  have hd4 : ((k3 : Int) + 1).toNat = k3 + 1 := by omega
                  have hd5 : (0 : Int) ≤ (k3 : Int) + 1 := by omega
                  rw [hAe] at c0
                  clear hy0 hy1 hgr g1 hrows1
                  by_cases z0 : y0 = 45
                  · subst z0
                    by_cases z1 : y1 = 93
                    · subst z1
                      go_quiet (fail)
                      go_wp2
                      go_meet
                      case rel => exact ⟨by rw [HGR.out]; rfl, _, rfl⟩
                    · have hz1 : ((y1 : Int) != 93) = true := bne_iff_ne.2 z1
                      have HGV : Hid (grd (l.drop k3) = true) := by show _ = _; rw [HGR.out]; exact decide_eq_true ⟨rfl, z1⟩
                      clear z1
                      go_quiet (fail)
                      go_wp2
                      go_meet
                      case rel => exact ⟨by rw [HGV.out], _, rfl⟩
                  · have hz0 : ((y0 : Int) == 45) = false := beq_eq_false_iff_ne.2 z0
                    have HZ0 := Lib.hid z0
                    clear z0
                    go_quiet (fail)
                    go_wp2
                    go_meet
                    case rel => exact ⟨by rw [HGR.out, decide_eq_false (show ¬ (y0 = 45 ∧ y1 ≠ 93) from fun h => HZ0.out h.1)], _, rfl⟩
                · have hgr := grd_end (l := l) (k := k3) (by have := HNL.out; omega)
                  have HGR := Lib.hid hgr
                  have hw1 : IntKind.i64.wrap ((k3 : Int) + 1) = (k3 : Int) + 1 := by have := HN.out; have := H2.out; rw [IntKind.wrap_i64]; omega
                  have hd : decide ((k3 : Int) + 1 < (n : Int)) = false := decide_eq_false (by omega)
                  have hd2 : ¬ (k3 : Int) + 1 < (n : Int) := by omega
                  clear hgr g1 hrows1
                  go_quiet (fail)
                  go_wp2
                  go_meet
                  case rel => exact ⟨by rw [HGR.out], _, rfl⟩
              case rest =>
                obtain ⟨rfl, m2, rfl⟩ := hcut
                clear c0 c1 hrows1
                have HF2 : Hid (ClF w b ng acc D d (w1.drewN m2)) := HF1.out.only ((OnlyB.refl _ _).drewN m2) hbl
                have HRD : Hid (RdAt (w1.drewN m2) b A n c k3) := H3.out
                cases hgr : grd (l.drop k3) with
                | false =>
                  have HG : Hid (clsR (acc ++ [(x, x)]) (l.drop k3) = clsR [] (unbang (l.drop k))) := by show _ = _; rw [← HEQ.out, ← H5.out]; exact (clsR_one HNE.out HC.out (by rw [H5.out]; exact of_decide_eq_false hgr)).symm
                  clear hgr
                  have b2 := row_cell (HF2).out.box 2
                  go_wp2_with (at_builtin; refine wpList_add1 rfl rfl Tryd.underlying31 info_span rfl (by decide) (HF2).out.own rfl (HF2).out.size rfl rfl rfl ?_ ?_ ?_ ?_; simp [Value.oneCell']; (have := HAC.out; have := HN.out; have := HK2.out; unfold maxLen; omega); (have := HAC.out; have := HN.out; have := HK2.out; omega); intro A3 c3 w3 hown3 hl3 hbk3; have HBX := Lib.hid (row_left (HF2).out.box hl3 (fun e => by have h2 : w.heap.size + 2 ≤ w.heap.size + 1 := ((HF2).out.own.lt _ e).1; omega)); have q5 := row_cell HBX.out 2; have f5 := row_cold HBX.out 2; have HO3 := Lib.hid hown3; have HL3 := Lib.hid hl3; clear hown3 hl3 hbk3)
                  have HR3 : Hid (RdAt w3 b A n c k3) := row_left HRD.out HL3.out (fun e => by have h2 : w.heap.size + 2 ≤ b := ((HF2).out.own.lt _ e).1; omega)
                  have HR4 : Hid (RdAt (w3.setCell ⟨w.heap.size + 1, 2, none⟩ (.slice A3 (acc.length + 1) c3)) b A n c k3) := row_other HR3.out (by show b ≠ w.heap.size + 1; omega)
                  go_roundw
                  case rel => exact ⟨acc ++ [(x, x)], A3, c3, k3, (HF2).out.add hbl HL3.out HO3.out, HR4.out, by have := HKK.out; have := H1.out; omega, by have := H2.out; omega, by have := HAC.out; have := H1.out; rw [List.length_append]; simp; omega, HG.out⟩
                  case measure => (have e1 := AT.out; have e2 := atOf_eq HR4.out; have e3 := H1.out; have e4 := H2.out; rw [e1, e2]; omega)
                | true =>
                  have hG := of_decide_eq_true hgr
                  have HGD := Lib.hid hG
                  have hk3 : k3 + 1 < n := by
                    have := hG.2.2
                    rw [List.length_drop] at this
                    have := HNL.out; omega
                  have HRD5 : Hid (RdAt ((w1.drewN m2).setCell ⟨b, 1, none⟩ (.int .i64 ((k3 : Int) + 1))) b A n c (k3 + 1)) := HRD.out.set (k' := k3 + 1) (by omega)
                  have HF5 : Hid (ClF w b ng acc D d ((w1.drewN m2).setCell ⟨b, 1, none⟩ (.int .i64 ((k3 : Int) + 1)))) := HF2.out.only ((OnlyB.refl _ _).set 1 _) hbl
                  have hrows5 := HF5.out.ob.rows HR.out HA.out
                  have hw1 : wrap64 ((k3 : Int) + 1) = (k3 : Int) + 1 := by have := HN.out; unfold wrap64; omega
                  have c1 := row_cell HRD.out 1
                  have f1 := row_cold HRD.out 1
                  have HK3 := Lib.hid hk3
                  have hdr : r.drop 1 = l.drop (k3 + 1) := by rw [H5.out, List.drop_drop]
                  have HDR := Lib.hid hdr
                  rw [← H5.out] at HGD
                  have hre : ∀ (y : Option (Int × Bool × List Int)), nx (l.drop (k3 + 1)) = y → nx (r.drop 1) = y := fun y h => by rw [HDR.out]; exact h
                  cases hny : nx (l.drop (k3 + 1)) with
                  | none =>
                    have HNY := Lib.hid (next_none hny HRD5.out hrows5 HA.out (Nat.le_of_lt hk3))
                    have F : Hid (clsR [] (unbang (l.drop k)) = none) := by show _ = _; rw [← HEQ.out]; exact clsR_bad HNE.out HC.out HGD.out (hre _ hny)
                    clear hG hgr hk3 hrows5 hdr hre hny
                    go_wp2_with (first
                      | (go_at_call 12; refine HNY.out.mono ?_; rintro e w6 ⟨x6, pl6, k6, rfl, h1, h2, h3, h4⟩; have HF6 := Lib.hid (HF5.out.only h4 hbl); have K1 := Lib.hid h1; have K2 := Lib.hid h2; have K3 := Lib.hid h3; clear h1 h2 h3 h4)
                      | (refine wpList_store_rowTo rfl _ _ _ rfl rfl w.heap.size (ptCells false false none 0 0) rfl rfl 33 (ptCells false false none 0 0) HF6.out.res info_part rfl hone0.out ?_))
                    refine bodyPost_ret (results_cell_tmp_row rfl _ _ w.heap.size _ (ptCells false false none 0 0) (0, 0) _ rfl (row_set HF6.out.res) Tryd.underlying33 rfl info_part) rfl ?_
                    exact ⟨false, false, none, 0, 0, k6, rfl, by have := HKK.out; have := H1.out; have := K1.out; omega, K2.out, K3.out.newRow (by omega) _, HF6.out.ob.newRow hbl (Nat.le_refl _) _, F.out⟩
                  | some y =>
                    obtain ⟨h, pl2, r2⟩ := y
                    have HNY := Lib.hid (next_some hny HRD5.out hrows5 HA.out (Nat.le_of_lt hk3))
                    by_cases hlt : h < x
                    · have F : Hid (clsR [] (unbang (l.drop k)) = none) := by show _ = _; rw [← HEQ.out]; exact clsR_less HNE.out HC.out HGD.out (hre _ hny) hlt
                      clear hG hgr hk3 hrows5 hdr hre hny
                      go_wp2_with (first
                        | (go_at_call 12; refine HNY.out.mono ?_; rintro e w6 ⟨k6, rfl, h1, h2, h5, h3, h4⟩; have HF6 := Lib.hid (HF5.out.only h4 hbl); have K1 := Lib.hid h1; have K2 := Lib.hid h2; have K3 := Lib.hid h3; clear h1 h2 h3 h4 h5)
                        | (refine wpList_store_rowTo rfl _ _ _ rfl rfl w.heap.size (ptCells false false none 0 0) rfl rfl 33 (ptCells false false none 0 0) HF6.out.res info_part rfl hone0.out ?_))
                      refine bodyPost_ret (results_cell_tmp_row rfl _ _ w.heap.size _ (ptCells false false none 0 0) (0, 0) _ rfl (row_set HF6.out.res) Tryd.underlying33 rfl info_part) rfl ?_
                      exact ⟨false, false, none, 0, 0, k6, rfl, by have := HKK.out; have := H1.out; have := K1.out; omega, K2.out, K3.out.newRow (by omega) _, HF6.out.ob.newRow hbl (Nat.le_refl _) _, F.out⟩
                    · have HG : Hid (clsR (acc ++ [(x, h)]) r2 = clsR [] (unbang (l.drop k))) := by show _ = _; rw [← HEQ.out]; exact (clsR_range HNE.out HC.out HGD.out (hre _ hny) hlt).symm
                      clear hG hgr hk3 hrows5 hdr hre hny
                      go_wp2_with (first
                        | (go_at_call 12; refine HNY.out.mono ?_; rintro e w6 ⟨k6, rfl, h1, h2, h5, h3, h4⟩; have HF6 := Lib.hid (HF5.out.only h4 hbl); have K1 := Lib.hid h1; have K2 := Lib.hid h2; have HRE := Lib.hid h3; have K5 := Lib.hid h5; have b2 := row_cell HF6.out.box 2; clear h1 h2 h3 h4 h5)
                        | (at_builtin; refine wpList_add1 rfl rfl Tryd.underlying31 info_span rfl (by decide) (HF6).out.own rfl (HF6).out.size rfl rfl rfl ?_ ?_ ?_ ?_; simp [Value.oneCell']; (have := HAC.out; have := HN.out; have := HK2.out; unfold maxLen; omega); (have := HAC.out; have := HN.out; have := HK2.out; omega); intro A3 c3 w3 hown3 hl3 hbk3; have HBX := Lib.hid (row_left (HF6).out.box hl3 (fun e => by have h2 : w.heap.size + 2 ≤ w.heap.size + 1 := ((HF6).out.own.lt _ e).1; omega)); have q5 := row_cell HBX.out 2; have f5 := row_cold HBX.out 2; have HO3 := Lib.hid hown3; have HL3 := Lib.hid hl3; clear hown3 hl3 hbk3))
                      have HR3 : Hid (RdAt w3 b A n c k6) := row_left HRE.out HL3.out (fun e => by have h2 : w.heap.size + 2 ≤ b := ((HF6).out.own.lt _ e).1; omega)
                      have HR4 : Hid (RdAt (w3.setCell ⟨w.heap.size + 1, 2, none⟩ (.slice A3 (acc.length + 1) c3)) b A n c k6) := row_other HR3.out (by show b ≠ w.heap.size + 1; omega)
                      go_roundw
                      case rel => exact ⟨acc ++ [(x, h)], A3, c3, k6, (HF6).out.add hbl HL3.out HO3.out, HR4.out, by have := HKK.out; have := H1.out; have := K1.out; omega, by have := K2.out; omega, by have := HAC.out; have := H1.out; have := K1.out; rw [List.length_append]; simp; omega, by rw [← HG.out, K5.out]⟩
                      case measure => (have e1 := AT.out; have e2 := atOf_eq HR4.out; have e3 := H1.out; have e4 := H2.out; have e5 := K1.out; have e6 := K2.out; rw [e1, e2]; omega)
end Go.Proofs.YtgidfmdbaimcnaaDoor
