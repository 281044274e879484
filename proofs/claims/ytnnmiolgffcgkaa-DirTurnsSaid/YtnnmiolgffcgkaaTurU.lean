/- linenref.DirAdd, walked. -/
import Derived.Test.YtnnmiolgffcgkaaTurV
namespace Go.Proofs.Ytnnmiolgffcgkaa
open Go.RowKit

/-- What is laid of the first k entries, x at place i. -/
def insK (l : List EntD) (x : EntD) (i k : Nat) : List EntD := if k ≤ i then l.take k else l.take i ++ x :: (l.take k).drop i
theorem insK_zero (l : List EntD) (x : EntD) (i : Nat) : insK l x i 0 = [] := by unfold insK; rw [if_pos (Nat.zero_le _)]; simp
theorem insK_low {l : List EntD} {x y : EntD} {i k : Nat} (hy : l[k]? = some y) (h : k < i) : insK l x i (k + 1) = insK l x i k ++ [y] := by
  unfold insK; rw [if_pos (by omega), if_pos (by omega), List.take_add_one, hy]; rfl
theorem insK_at {l : List EntD} {x y : EntD} {i : Nat} (hy : l[i]? = some y) : insK l x i (i + 1) = (insK l x i i ++ [x]) ++ [y] := by
  have hl := (List.getElem?_eq_some_iff.1 hy).1
  unfold insK; rw [if_neg (by omega), if_pos (Nat.le_refl _), List.take_add_one, hy]
  rw [List.drop_append_of_le_length (by rw [List.length_take]; omega), List.drop_eq_nil_of_le (by rw [List.length_take]; omega)]
  simp
theorem insK_high {l : List EntD} {x y : EntD} {i k : Nat} (hy : l[k]? = some y) (h : i < k) : insK l x i (k + 1) = insK l x i k ++ [y] := by
  have hl := (List.getElem?_eq_some_iff.1 hy).1
  unfold insK; rw [if_neg (by omega), if_neg (by omega), List.take_add_one, hy]
  rw [List.drop_append_of_le_length (by rw [List.length_take]; omega)]
  simp
theorem insK_end {l : List EntD} {x : EntD} {i : Nat} (h : i < l.length) : insK l x i l.length = l.take i ++ x :: l.drop i := by
  unfold insK; rw [if_neg (by omega), List.take_length]
theorem insK_last {l : List EntD} {x : EntD} {i : Nat} (h : i = l.length) : insK l x i l.length ++ [x] = l.take i ++ x :: l.drop i := by
  subst h; unfold insK; rw [if_pos (Nat.le_refl _)]; simp
theorem insK_len (l : List EntD) (x : EntD) (i k : Nat) : (insK l x i k).length ≤ k + 1 := by
  unfold insK
  split
  · rw [List.length_take]; omega
  · rw [List.length_append, List.length_cons, List.length_drop, List.length_take, List.length_take]; omega
theorem lt_asym {a b : ByteArray} (h : ltS a b = true) : ltS b a = false := by
  cases e : ltS b a with
  | false => rfl
  | true => have := lt_trans' h e; rw [lt_irr] at this; cases this
theorem lt_of_not {a b : ByteArray} (h : ltS b a = false) (hne : a ≠ b) : ltS a b = true := by
  have := ltS_le (a := a) (b := b)
  rw [h] at this
  have h2 := str_ne hne
  rw [h2] at this
  simpa [ltS] using this

set_option maxRecDepth 20000 in
set_option maxHeartbeats 2000000 in
theorem radd_any (A : Option Addr) (n c : Nat) (l : List EntD) (x : EntD) (w : World) (r : RowsIn w w.heap.size A n c EntD.cells 2 l) :
    Calls Try.prog 29 #[.slice A n c, .agg #[.string x.Name, .int .i64 x.Ino]] w (LstPost (addR l x) w) := by
  have hlen := r.len
  subst hlen
  obtain ⟨wa, hwa⟩ : ∃ wa, wa = w.alloc (.cells #[.string x.Name, .int .i64 x.Ino] 44) := ⟨_, rfl⟩
  have HBX : Hid (∀ w', Below wa.heap.size wa w' → w'.cell? ⟨w.heap.size, 0, none⟩ = some (.string x.Name) ∧ w'.cell? ⟨w.heap.size, 1, none⟩ = some (.int .i64 x.Ino) ∧ Below w.heap.size w w') := fun w' h => by rw [hwa] at h; exact box_ent h
  have R : Hid (∀ W, Below wa.heap.size wa W → RowsIn W W.heap.size A l.length c EntD.cells 2 l) := fun W h => ((r.below (HBX.out W h).2.2).more (HBX.out W h).2.2.size)
  have HWA := Lib.hid hwa
  have HK := Lib.hid (rdir_any A l.length c l wa (R.out wa (Below.refl _ _)))
  have HG : Hid (∀ W, Calls Try.prog 77 #[.agg #[.string x.Name, .int .i64 x.Ino]] W fun e w' => e = .returned (.int .i64 (entE x)) ∧ Below W.heap.size W w') := fun W => rent_any x W
  clear r hwa
  by_cases hE : dirE l = 0
  · have e0 : (dirE l != 0) = false := by rw [hE]; rfl
    by_cases hN : entE x = 0
    · have e1 : (entE x != 0) = false := by rw [hN]; rfl
      have hs := dir_srt hE
      have hl24 := (dir_zero hE).1
      have hnm := (ent_zero hN).1
      obtain ⟨i, hp⟩ := pos_ex x.Name hs
      have HFD : Hid (∀ W, Below wa.heap.size wa W → Calls Try.prog 27 #[.slice A l.length c, .string x.Name] W (FndPost l x.Name W)) := fun W hb => rfind_any A l.length c l x.Name W (R.out W hb)
      unfold FndPost at HFD
      by_cases hx : ∃ y, y ∈ l ∧ y.Name = x.Name
      · obtain ⟨y, hy1, hy2⟩ := hx
        have HP := Lib.hid (fun w' => lstPost_no (w := w) (w' := w') (add_there hE hN ⟨y, hy1, hy2⟩))
        rw [fnd_some hE hnm hy1 hy2] at HFD
        generalize LstPost (addR l x) w = PP at *
        generalize dirE l = E at *
        generalize entE x = E2 at *
        generalize x.Name = N at *
        generalize x.Ino = I at *
        clear hE hN hs hp hy1 hy2 hnm
        go_enter Try.func29, Try.ntmps29
        go_wp2_with (first
          | (go_at_call 56; rw [← HWA.out]; refine HK.out.mono ?_; rintro e w1 ⟨rfl, hb1⟩; have HB1 := Lib.hid hb1; obtain ⟨k10, k11, _⟩ := HBX.out _ hb1; clear hb1)
          | (go_at_call 77; refine (HG.out _).mono ?_; rintro e w2 ⟨rfl, hb2⟩; have HB2 := Lib.hid (HB1.out.trans (hb2.mono HB1.out.size)); obtain ⟨k20, k21, _⟩ := HBX.out _ HB2.out; clear hb2)
          | (go_at_call 27; refine (HFD.out _ HB2.out).mono ?_; rintro e w3 ⟨rfl, hb3⟩; have HB3 := Lib.hid (HB2.out.trans (hb3.mono HB2.out.size)); clear hb3))
        exact HP.out _ (HBX.out _ HB3.out).2.2
      · rw [fnd_none hE hnm hx] at HFD
        by_cases h24 : l.length = 24
        · have HP := Lib.hid (fun w' => lstPost_no (w := w) (w' := w') (add_many hE hN hx h24))
          have d0 : ((l.length : Int) == 24) = true := by rw [beq_iff_eq]; omega
          have d1 : (l.length == 24) = true := by rw [beq_iff_eq]; exact h24
          generalize LstPost (addR l x) w = PP at *
          generalize dirE l = E at *
          generalize entE x = E2 at *
          generalize x.Name = N at *
          generalize x.Ino = I at *
          clear hE hN hs hp hx h24 hnm
          go_enter Try.func29, Try.ntmps29
          go_wp2_with (first
            | (go_at_call 56; rw [← HWA.out]; refine HK.out.mono ?_; rintro e w1 ⟨rfl, hb1⟩; have HB1 := Lib.hid hb1; obtain ⟨k10, k11, _⟩ := HBX.out _ hb1; clear hb1)
            | (go_at_call 77; refine (HG.out _).mono ?_; rintro e w2 ⟨rfl, hb2⟩; have HB2 := Lib.hid (HB1.out.trans (hb2.mono HB1.out.size)); obtain ⟨k20, k21, _⟩ := HBX.out _ HB2.out; clear hb2)
            | (go_at_call 27; refine (HFD.out _ HB2.out).mono ?_; rintro e w3 ⟨rfl, hb3⟩; have HB3 := Lib.hid (HB2.out.trans (hb3.mono HB2.out.size)); clear hb3))
          exact HP.out _ (HBX.out _ HB3.out).2.2
        · have d0 : ((l.length : Int) == 24) = false := by rw [beq_eq_false_iff_ne]; omega
          have d1 : (l.length == 24) = false := by rw [beq_eq_false_iff_ne]; exact h24
          have HLO : Hid (∀ k y, l[k]? = some y → k < i → Op.bytesLess x.Name.toList y.Name.toList = false) := fun k y hk hlt => lt_asym (hp.lo k y hk hlt)
          have HAT : Hid (∀ y, l[i]? = some y → Op.bytesLess x.Name.toList y.Name.toList = true) := fun y hy => lt_of_not (hp.hi i y hy (Nat.le_refl _)) (fun e => hx ⟨y, List.mem_of_getElem? hy, e.symm⟩)
          have hil := hp.le
          have HP : Hid (∀ (A' : Option Addr) (n' c' : Nat) (w' : World), RowsIn w' w'.heap.size A' n' c' EntD.cells 2 (l.take i ++ x :: l.drop i) → Below w.heap.size w w' → LstPost (addR l x) w (.returned (.tuple #[.slice A' n' c', .int .i64 0])) w') := fun A' n' c' w' h1 h2 => ⟨A', n', c', by rw [add_ok hE hN hx h24 hp], by rw [add_ok hE hN hx h24 hp]; exact h1, h2⟩
          generalize LstPost (addR l x) w = PP at *
          generalize dirE l = E at *
          generalize entE x = E2 at *
          clear hE hN hs hp hx h24 hnm
          go_enter Try.func29, Try.ntmps29
          go_wp2_with (first
            | (go_at_call 56; rw [← HWA.out]; refine HK.out.mono ?_; rintro e w1 ⟨rfl, hb1⟩; have HB1 := Lib.hid hb1; obtain ⟨k10, k11, _⟩ := HBX.out _ hb1; clear hb1)
            | (go_at_call 77; refine (HG.out _).mono ?_; rintro e w2 ⟨rfl, hb2⟩; have HB2 := Lib.hid (HB1.out.trans (hb2.mono HB1.out.size)); obtain ⟨k20, k21, _⟩ := HBX.out _ HB2.out; clear hb2)
            | (go_at_call 27; refine (HFD.out _ HB2.out).mono ?_; rintro e w3 ⟨rfl, hb3⟩; have HB3 := Lib.hid (HB2.out.trans (hb3.mono HB2.out.size)); clear hb3))
          go_loopw [10, 11, 13, 38] (fun v10 v11 _ v38 wr => ∃ (k : Nat) (A' : Option Addr) (c' : Nat) (d : Bool), k ≤ l.length ∧ v38 = .int .i64 k ∧ v11 = .bool d ∧ Hid (d = decide (i < k)) ∧ v10 = .slice A' (insK l x i k).length c' ∧ Hid (Owns wr wa.heap.size 2 (.slice A' (insK l x i k).length c') (insK l x i k).length ((insK l x i k).flatMap EntD.cells)) ∧ Hid (Below wa.heap.size wa wr)) (fun _ _ _ v38 _ => l.length - (intOf v38).toNat)
          case atStart => exact ⟨0, none, 0, false, Nat.zero_le _, rfl, rfl, by simp [Hid], by rw [insK_zero]; rfl, by rw [insK_zero]; exact Owns.nil _ _ _, HB3.out⟩
          case round =>
            obtain ⟨k, A', c', d, hk, rfl, rfl, HD, rfl, HO, HB⟩ := hrel
            obtain ⟨wq, rfl⟩ : ∃ z : World, z = wr := ⟨_, rfl⟩
            have hkl := insK_len l x i k
            have G2x : Hid (∀ u ∈ (#[.string x.Name, .int .i64 x.Ino] : Array Value).toList, u.oneCell' = true) := by simp [Hid, Value.oneCell']
            have G4 : Hid (0 < 2) := by simp [Hid]
            have G3 : Hid ((insK l x i k).length + 1 ≤ maxLen ∧ ((insK l x i k).length + 1) * 24 ≤ 140737488355328) := by unfold maxLen Hid; omega
            by_cases hlt : k < l.length
            · obtain ⟨y, ey⟩ : ∃ y, l[k]? = some y := ⟨_, List.getElem?_eq_getElem hlt⟩
              have i1 : (k : Int) < (l.length : Int) := by omega
              obtain ⟨b, o, rfl, hbB, y0, y1⟩ := entCells (R.out _ HB.out) ey
              obtain ⟨x0, x1, _⟩ := HBX.out _ HB.out
              have hzz : w.heap.size < wq.heap.size := World.block_lt_of_cell? wq _ x0
              have HBA := Lib.hid (HB.out.alloc HB.out.size (.cells #[.string y.Name, .int .i64 y.Ino] 44))
              have HOA := Lib.hid (HO.out.alloc (.cells #[.string y.Name, .int .i64 y.Ino] 44))
              have G2 : Hid (∀ u ∈ (#[.string y.Name, .int .i64 y.Ino] : Array Value).toList, u.oneCell' = true) := by simp [Hid, Value.oneCell']
              rcases Nat.lt_trichotomy k i with hki | hki | hki
              · have hd : d = false := by rw [HD.out]; exact decide_eq_false (by omega)
                have hc := HLO.out k y ey hki
                have HT := Lib.hid (insK_low (x := x) ey hki)
                have HSN := Lib.hid (ent_snoc (L := insK l x i k) (x := y))
                have HD2 : Hid (false = decide (i < k + 1)) := (decide_eq_false (by omega)).symm
                subst hd
                generalize insK l x i k = L at *
                obtain ⟨X, hX⟩ : ∃ X, X = L ++ [y] := ⟨_, rfl⟩
                have HXL : Hid (X.length = L.length + 1) := by rw [hX]; simp [Hid]
                rw [← hX] at HT HSN
                generalize y.Name = M at *
                generalize y.Ino = J at *
                clear ey hX
                go_wp2_with (at_builtin; refine wpList_add1 (size := 2) (bytes := 24) (base := wa.heap.size) (news := #[.string M, .int .i64 J]) (H := wq.heap.size + 1) rfl rfl Try.underlying42 info_entT rfl G4.out HOA.out rfl HBA.out.size rfl (World.size_alloc _ _) rfl G2.out G3.out.1 G3.out.2 ?_; intro A3 c3 w5 hown5 hl5 hn5; have HO5 := Lib.hid hown5; have HB5 := Lib.hid (hl5.below (Nat.le_refl _) HBA.out); clear hown5 hl5 hn5)
                go_roundw
                case rel => exact ⟨k + 1, A3, c3, false, by omega, by go_num, rfl, HD2.out, by rw [HT.out, HXL.out], by rw [HT.out, HXL.out, ← HSN.out]; exact HO5.out, HB5.out⟩
                case measure => (simp [intOf]; try omega)
              · subst hki
                have hd : d = false := by rw [HD.out]; exact decide_eq_false (by omega)
                have hc := HAT.out y ey
                have HT := Lib.hid (insK_at (x := x) ey)
                have HSN1 := Lib.hid (ent_snoc (L := insK l x k k) (x := x))
                have HSN := Lib.hid (ent_snoc (L := insK l x k k ++ [x]) (x := y))
                have HD2 : Hid (true = decide (k < k + 1)) := (decide_eq_true (by omega)).symm
                subst hd
                generalize insK l x k k = L at *
                obtain ⟨X1, hX1⟩ : ∃ X, X = L ++ [x] := ⟨_, rfl⟩
                have HX1L : Hid (X1.length = L.length + 1) := by rw [hX1]; simp [Hid]
                rw [← hX1] at HT HSN HSN1
                obtain ⟨X, hX⟩ : ∃ X, X = X1 ++ [y] := ⟨_, rfl⟩
                have HXL : Hid (X.length = L.length + 1 + 1) := by rw [hX, hX1]; simp [Hid]
                rw [← hX] at HT HSN
                have G3b : Hid (L.length + 1 + 1 ≤ maxLen ∧ (L.length + 1 + 1) * 24 ≤ 140737488355328) := by unfold maxLen Hid; omega
                generalize y.Name = M at *
                generalize y.Ino = J at *
                have HNE : Hid (Value.ownBlock (.slice A' L.length c') ≠ some wq.heap.size) := HO.out.ne_of_le (Nat.le_refl _)
                have HM0 : Hid ((wq.alloc (.cells #[.string M, .int .i64 J] 44)).cell? ⟨wq.heap.size, 0, none⟩ = some (.string M)) := row_cell (heap_alloc_new wq _) 0
                have HM1 : Hid ((wq.alloc (.cells #[.string M, .int .i64 J] 44)).cell? ⟨wq.heap.size, 1, none⟩ = some (.int .i64 J)) := row_cell (heap_alloc_new wq _) 1
                clear ey hX hX1
                go_wp2_with (first
                  | (at_builtin; refine wpList_add1 (size := 2) (bytes := 24) (base := wa.heap.size) (news := #[.string M, .int .i64 J]) rfl rfl Try.underlying42 info_entT rfl G4.out HO5.out rfl HB5.out.size rfl rfl rfl G2.out G3b.out.1 G3b.out.2 ?_; intro A4 c4 w6 hown6 hl6 hn6; have HO6 := Lib.hid hown6; have HB6 := Lib.hid (hl6.below (Nat.le_refl _) HB5.out); clear hown6 hl6 hn6)
                  | (at_builtin; refine wpList_add1 (size := 2) (bytes := 24) (base := wa.heap.size) (news := #[.string x.Name, .int .i64 x.Ino]) (H := wq.heap.size + 1) rfl rfl Try.underlying42 info_entT rfl G4.out HOA.out rfl HBA.out.size rfl (World.size_alloc _ _) rfl G2x.out G3.out.1 G3.out.2 ?_; intro A3 c3 w5 hown5 hl5 hn5; have HO5 := Lib.hid hown5; have HB5 := Lib.hid (hl5.below (Nat.le_refl _) HBA.out); have m0 := hl5.cell HM0.out HNE.out; have m1 := hl5.cell HM1.out HNE.out; clear hown5 hl5 hn5))
                go_roundw
                case rel => exact ⟨k + 1, A4, c4, true, by omega, by go_num, rfl, HD2.out, by rw [HT.out, HXL.out], by rw [HT.out, HXL.out, ← HSN.out, ← HSN1.out]; exact HO6.out, HB6.out⟩
                case measure => (simp [intOf]; try omega)
              · have hd : d = true := by rw [HD.out]; exact decide_eq_true (by omega)
                have HT := Lib.hid (insK_high (x := x) ey hki)
                have HSN := Lib.hid (ent_snoc (L := insK l x i k) (x := y))
                have HD2 : Hid (true = decide (i < k + 1)) := (decide_eq_true (by omega)).symm
                subst hd
                generalize insK l x i k = L at *
                obtain ⟨X, hX⟩ : ∃ X, X = L ++ [y] := ⟨_, rfl⟩
                have HXL : Hid (X.length = L.length + 1) := by rw [hX]; simp [Hid]
                rw [← hX] at HT HSN
                generalize y.Name = M at *
                generalize y.Ino = J at *
                clear ey hX
                go_wp2_with (at_builtin; refine wpList_add1 (size := 2) (bytes := 24) (base := wa.heap.size) (news := #[.string M, .int .i64 J]) (H := wq.heap.size + 1) rfl rfl Try.underlying42 info_entT rfl G4.out HOA.out rfl HBA.out.size rfl (World.size_alloc _ _) rfl G2.out G3.out.1 G3.out.2 ?_; intro A3 c3 w5 hown5 hl5 hn5; have HO5 := Lib.hid hown5; have HB5 := Lib.hid (hl5.below (Nat.le_refl _) HBA.out); clear hown5 hl5 hn5)
                go_roundw
                case rel => exact ⟨k + 1, A3, c3, true, by omega, by go_num, rfl, HD2.out, by rw [HT.out, HXL.out], by rw [HT.out, HXL.out, ← HSN.out]; exact HO5.out, HB5.out⟩
                case measure => (simp [intOf]; try omega)
            · obtain rfl : k = l.length := by omega
              have i1 : ¬ (l.length : Int) < (l.length : Int) := by omega
              obtain ⟨x0, x1, _⟩ := HBX.out _ HB.out
              by_cases hil2 : i < l.length
              · have hd : d = true := by rw [HD.out]; exact decide_eq_true hil2
                have HT := Lib.hid (insK_end (x := x) hil2)
                subst hd
                have HR5 : Hid (RowsIn wq wq.heap.size A' (insK l x i l.length).length c' EntD.cells 2 (l.take i ++ x :: l.drop i)) := by show RowsIn _ _ _ _ _ _ _ _; rw [← HT.out]; exact own_ents HO.out
                generalize (insK l x i l.length).length = q at *
                go_wp2
                exact HP.out _ _ _ _ HR5.out (HBX.out _ HB.out).2.2
              · have hd : d = false := by rw [HD.out]; exact decide_eq_false hil2
                have HT := Lib.hid (insK_last (x := x) (show i = l.length by omega))
                have HSN := Lib.hid (ent_snoc (L := insK l x i l.length) (x := x))
                subst hd
                generalize insK l x i l.length = L at *
                rw [HT.out] at HSN
                go_wp2_with (at_builtin; refine wpList_add1 (size := 2) (bytes := 24) (base := wa.heap.size) (news := #[.string x.Name, .int .i64 x.Ino]) rfl rfl Try.underlying42 info_entT rfl G4.out HO.out rfl HB.out.size rfl rfl rfl G2x.out G3.out.1 G3.out.2 ?_; intro A4 c4 w6 hown6 hl6 hn6; have HO6 := Lib.hid hown6; have HB6 := Lib.hid (hl6.below (Nat.le_refl _) HB.out); clear hown6 hl6 hn6)
                rw [HSN.out] at HO6
                exact HP.out _ _ _ _ (own_ents HO6.out) (HBX.out _ HB6.out).2.2
    · have HP := Lib.hid (fun w' => lstPost_no (w := w) (w' := w') (add_ent hE hN))
      have e1 : (entE x != 0) = true := by simpa using hN
      generalize LstPost (addR l x) w = PP at *
      generalize dirE l = E at *
      generalize entE x = E2 at *
      generalize x.Name = N at *
      generalize x.Ino = I at *
      clear hE hN
      go_enter Try.func29, Try.ntmps29
      go_wp2_with (first
        | (go_at_call 56; rw [← HWA.out]; refine HK.out.mono ?_; rintro e w1 ⟨rfl, hb1⟩; have HB1 := Lib.hid hb1; obtain ⟨k10, k11, _⟩ := HBX.out _ hb1; clear hb1)
        | (go_at_call 77; refine (HG.out _).mono ?_; rintro e w2 ⟨rfl, hb2⟩; have HB2 := Lib.hid (HB1.out.trans (hb2.mono HB1.out.size)); obtain ⟨k20, k21, _⟩ := HBX.out _ HB2.out; clear hb2))
      exact HP.out _ (HBX.out _ HB2.out).2.2
  · have HP := Lib.hid (fun w' => lstPost_no (w := w) (w' := w') (add_dir (x := x) hE))
    have e0 : (dirE l != 0) = true := by simpa using hE
    generalize LstPost (addR l x) w = PP at *
    generalize dirE l = E at *
    generalize x.Name = N at *
    generalize x.Ino = I at *
    clear hE
    go_enter Try.func29, Try.ntmps29
    go_wp2_with (first
      | (go_at_call 56; rw [← HWA.out]; refine HK.out.mono ?_; rintro e w1 ⟨rfl, hb1⟩; have HB1 := Lib.hid hb1; obtain ⟨k10, k11, _⟩ := HBX.out _ hb1; clear hb1))
    exact HP.out _ (HBX.out _ HB1.out).2.2
end Go.Proofs.Ytnnmiolgffcgkaa
