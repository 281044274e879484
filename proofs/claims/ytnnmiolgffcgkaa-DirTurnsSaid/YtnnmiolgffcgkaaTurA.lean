/- dir.Add, walked. -/
import Derived.Test.YtnnmiolgffcgkaaTurW
import Derived.Test.YtnnmiolgffcgkaaStep
namespace Go.Proofs.Ytnnmiolgffcgkaa
open Go.RowKit

theorem size_le1 {a : Nat} {w : World} (h : a ≤ w.heap.size) (o : Obj) : a ≤ (w.alloc o).heap.size := by simp; omega
theorem own_ne_new {w : World} {base size n : Nat} {v : Value} {xs : List Value} (h : Owns w base size v n xs) : v.ownBlock ≠ some w.heap.size := h.ne_of_le (Nat.le_refl _)
theorem own_ne_old {w : World} {base size n vb : Nat} {v : Value} {xs : List Value} (h : Owns w base size v n xs) (hb : vb < base) : v.ownBlock ≠ some vb := fun e => by have := (h.lt _ e).1; omega
set_option maxRecDepth 20000 in
set_option maxHeartbeats 1000000 in
theorem dadd_any (A : Option Addr) (n c : Nat) (l : List EntD) (x : EntD) (w : World) (r : RowsIn w w.heap.size A n c EntD.cells 2 l) :
    Calls Try.prog 28 #[.slice A n c, .agg #[.string x.Name, .int .i64 x.Ino]] w (LstPost (addR l x) w) := by
  have hlen := r.len
  subst hlen
  obtain ⟨wa, hwa⟩ : ∃ wa, wa = w.alloc (.cells #[.string x.Name, .int .i64 x.Ino] 44) := ⟨_, rfl⟩
  have HBX : Hid (∀ w', Below wa.heap.size wa w' → w'.cell? ⟨w.heap.size, 0, none⟩ = some (.string x.Name) ∧ w'.cell? ⟨w.heap.size, 1, none⟩ = some (.int .i64 x.Ino) ∧ Below w.heap.size w w') := fun w' h => by rw [hwa] at h; exact box_ent h
  have hwz : w.heap.size ≤ wa.heap.size := by rw [hwa]; simp
  have R : Hid (∀ W, Below wa.heap.size wa W → RowsIn W W.heap.size A l.length c EntD.cells 2 l) := fun W h => ((r.below (HBX.out W h).2.2).more (HBX.out W h).2.2.size)
  have HWA := Lib.hid hwa
  have HK := Lib.hid (dcheck_any A l.length c l wa (R.out wa (Below.refl _ _)))
  have HG : Hid (∀ W, Calls Try.prog 74 #[.agg #[.string x.Name, .int .i64 x.Ino]] W fun e w' => e = .returned (.int .i64 (entE x)) ∧ Below W.heap.size W w') := fun W => fit_any x W
  clear r hwa
  by_cases hE : dirE l = 0
  · have e0 : (dirE l != 0) = false := by rw [hE]; rfl
    by_cases hN : entE x = 0
    · have e1 : (entE x != 0) = false := by rw [hN]; rfl
      have hs := dir_srt hE
      have hl24 := (dir_zero hE).1
      obtain ⟨i, hp⟩ := pos_ex x.Name hs
      have hiI : (i : Int) ≤ 24 := by have := hp.le; omega
      by_cases hx : ∃ y, y ∈ l ∧ y.Name = x.Name
      · have HSK : Hid (∀ W, Below wa.heap.size wa W → Calls Try.prog 73 #[.slice A l.length c, .string x.Name] W fun e w' => e = .returned (.tuple #[.int .i64 i, .bool true]) ∧ Below W.heap.size W w') := fun W hb => seek_at A l.length c l x.Name W (R.out W hb) hs hl24 hp true (by simp [hx])
        have HP := Lib.hid (fun w' => lstPost_no (w := w) (w' := w') (add_there hE hN hx))
        generalize LstPost (addR l x) w = PP at *
        generalize dirE l = E at *
        generalize entE x = E2 at *
        generalize x.Name = N at *
        generalize x.Ino = I at *
        clear hE hN hs hp hx
        go_enter Try.func28, Try.ntmps28
        go_wp2_with (first
          | (go_at_call 55; rw [← HWA.out]; refine HK.out.mono ?_; rintro e w1 ⟨rfl, hb1⟩; have HB1 := Lib.hid hb1; obtain ⟨k10, k11, _⟩ := HBX.out _ hb1; clear hb1)
          | (go_at_call 74; refine (HG.out _).mono ?_; rintro e w2 ⟨rfl, hb2⟩; have HB2 := Lib.hid (HB1.out.trans (hb2.mono HB1.out.size)); obtain ⟨k20, k21, _⟩ := HBX.out _ HB2.out; clear hb2)
          | (go_at_call 73; refine (HSK.out _ HB2.out).mono ?_; rintro e w3 ⟨rfl, hb3⟩; have HB3 := Lib.hid (HB2.out.trans (hb3.mono HB2.out.size)); clear hb3))
        exact HP.out _ (HBX.out _ HB3.out).2.2
      · have HSK : Hid (∀ W, Below wa.heap.size wa W → Calls Try.prog 73 #[.slice A l.length c, .string x.Name] W fun e w' => e = .returned (.tuple #[.int .i64 i, .bool false]) ∧ Below W.heap.size W w') := fun W hb => seek_at A l.length c l x.Name W (R.out W hb) hs hl24 hp false (by simp [hx])
        by_cases h24 : l.length = 24
        · have HP := Lib.hid (fun w' => lstPost_no (w := w) (w' := w') (add_many hE hN hx h24))
          have d0 : ((l.length : Int) == 24) = true := by rw [beq_iff_eq]; omega
          have d1 : (l.length == 24) = true := by rw [beq_iff_eq]; exact h24
          generalize LstPost (addR l x) w = PP at *
          generalize dirE l = E at *
          generalize entE x = E2 at *
          generalize x.Name = N at *
          generalize x.Ino = I at *
          clear hE hN hs hp hx h24
          go_enter Try.func28, Try.ntmps28
          go_wp2_with (first
            | (go_at_call 55; rw [← HWA.out]; refine HK.out.mono ?_; rintro e w1 ⟨rfl, hb1⟩; have HB1 := Lib.hid hb1; obtain ⟨k10, k11, _⟩ := HBX.out _ hb1; clear hb1)
            | (go_at_call 74; refine (HG.out _).mono ?_; rintro e w2 ⟨rfl, hb2⟩; have HB2 := Lib.hid (HB1.out.trans (hb2.mono HB1.out.size)); obtain ⟨k20, k21, _⟩ := HBX.out _ HB2.out; clear hb2)
            | (go_at_call 73; refine (HSK.out _ HB2.out).mono ?_; rintro e w3 ⟨rfl, hb3⟩; have HB3 := Lib.hid (HB2.out.trans (hb3.mono HB2.out.size)); clear hb3))
          exact HP.out _ (HBX.out _ HB3.out).2.2
        · have d0 : ((l.length : Int) == 24) = false := by rw [beq_eq_false_iff_ne]; omega
          have d1 : (l.length == 24) = false := by rw [beq_eq_false_iff_ne]; exact h24
          have hil := hp.le
          have HCL : Hid (∀ W, Below wa.heap.size wa W → Calls Try.prog 76 #[.slice A l.length c] W fun e w' => ∃ b : Option Addr × Nat, e = .returned (.slice b.1 l.length b.2) ∧ (Owns w' W.heap.size 2 (.slice b.1 l.length b.2) l.length (l.flatMap EntD.cells) ∧ Below W.heap.size W w')) := fun W hb => (clonee_any A l.length c l W.heap.size W (R.out W hb) (Nat.le_refl _) (by omega)).mono (by
            rintro e w' ⟨D, d, h1, h2, h3⟩
            exact ⟨(D, d), h1, h2, h3⟩)
          have HIN : Hid (∀ (A' : Option Addr) (d base vb vc : Nat) (W : World), Owns W base 2 (.slice A' l.length d) l.length (l.flatMap EntD.cells) → base ≤ W.heap.size → Value.ownBlock (.slice A' l.length d) ≠ some vb → W.heap[vb]? = some (.cells #[.string x.Name, .int .i64 x.Ino] 44 (0, 0)) → Calls Try.prog 75 #[.slice A' l.length d, .int .i64 i, .slice (some ⟨vb, 0, none⟩) 1 vc] W fun e w' => ∃ b : Option Addr × Nat, e = .returned (.slice b.1 (l.length + 1) b.2) ∧ (RowsIn w' w'.heap.size b.1 (l.length + 1) b.2 EntD.cells 2 (l.take i ++ x :: l.drop i) ∧ Below base W w')) := fun A' d base vb vc W ho hbase hne hvb => (ins_any A' l.length d i base vb vc _ _ _ W ho hbase hl24 hil hne hvb rfl rfl (ent_one l)).mono (by
            rintro e w' ⟨A2, c2, h1, h2, h3⟩
            have e : (l.flatMap EntD.cells).take (i * 2) ++ ([Value.string x.Name, Value.int .i64 x.Ino] ++ (l.flatMap EntD.cells).drop (i * 2)) = (l.take i ++ x :: l.drop i).flatMap EntD.cells := by
              rw [List.flatMap_append, List.flatMap_cons, flat_take, flat_drop]; rfl
            rw [List.append_assoc] at h2
            have h4 : Owns w' base 2 (.slice A2 (l.length + 1) c2) (l.length + 1) ((l.take i ++ x :: l.drop i).flatMap EntD.cells) := by rw [← e]; exact h2
            exact ⟨(A2, c2), h1, own_ents h4, h3⟩)
          have HP : Hid (∀ (A' : Option Addr) (c' : Nat) (w' : World), RowsIn w' w'.heap.size A' (l.length + 1) c' EntD.cells 2 (l.take i ++ x :: l.drop i) → Below w.heap.size w w' → LstPost (addR l x) w (.returned (.tuple #[.slice A' (l.length + 1) c', .int .i64 0])) w') := fun A' c' w' h1 h2 => ⟨A', _, c', by rw [add_ok hE hN hx h24 hp], by rw [add_ok hE hN hx h24 hp]; exact h1, h2⟩
          obtain ⟨LL, hLL⟩ : ∃ LL, LL = l.take i ++ x :: l.drop i := ⟨_, rfl⟩
          rw [← hLL] at HIN HP
          generalize LstPost (addR l x) w = PP at *
          generalize dirE l = E at *
          generalize entE x = E2 at *
          generalize x.Name = N at *
          generalize x.Ino = I at *
          clear hE hN hs hp hx h24 hLL
          go_enter Try.func28, Try.ntmps28
          go_wp2_with (first
            | (go_at_call 55; rw [← HWA.out]; refine HK.out.mono ?_; rintro e w1 ⟨rfl, hb1⟩; have HB1 := Lib.hid hb1; obtain ⟨k10, k11, _⟩ := HBX.out _ hb1; clear hb1)
            | (go_at_call 74; refine (HG.out _).mono ?_; rintro e w2 ⟨rfl, hb2⟩; have HB2 := Lib.hid (HB1.out.trans (hb2.mono HB1.out.size)); obtain ⟨k20, k21, _⟩ := HBX.out _ HB2.out; clear hb2)
            | (go_at_call 73; refine (HSK.out _ HB2.out).mono ?_; rintro e w3 ⟨rfl, hb3⟩; have HB3 := Lib.hid (HB2.out.trans (hb3.mono HB2.out.size)); obtain ⟨k30, k31, _⟩ := HBX.out _ HB3.out; clear hb3))
          have HB3d : Hid (Below wa.heap.size wa w3.drew) := HB3.out.drew
          have HB3b : Hid (Below wa.heap.size wa (w3.alloc (.cells #[.string N, .int .i64 I] 44)).drew) := (HB3.out.alloc HB3.out.size _).drew
          have HROWb : Hid ((w3.alloc (.cells #[.string N, .int .i64 I] 44)).drew.heap[w3.heap.size]? = some (.cells #[.string N, .int .i64 I] 44 (0, 0))) := heap_alloc_new w3 _
          go_region_law (first
            | (refine step_enterc rfl 75 rfl #[.slice Da l.length da, .int .i64 i, .slice (some ⟨w5a.heap.size, 0, none⟩) 1 1] (fun b : Option Addr × Nat => .slice b.1 (l.length + 1) b.2) (by simp [go_sem]) (HIN.out Da da _ w5a.heap.size 1 _ (HOa.out.alloc _) HZa.out HNa.out (heap_alloc_new w5a _)) ?_; rintro ⟨D2, d2⟩ w6 ⟨r6, hb6⟩; have R6 := Lib.hid r6; have HB6 := Lib.hid (HBa.out.trans (hb6.mono HBZa.out)); clear r6 hb6)
            | (refine step_enterc rfl 75 rfl #[.slice Db l.length db, .int .i64 i, .slice (some ⟨w3.heap.size, 0, none⟩) 1 1] (fun b : Option Addr × Nat => .slice b.1 (l.length + 1) b.2) (by simp [go_sem]) (HIN.out Db db _ w3.heap.size 1 w5b HOb.out HZb.out HNb.out HRb.out) ?_; rintro ⟨D2, d2⟩ w6 ⟨r6, hb6⟩; have R6 := Lib.hid r6; have HB6 := Lib.hid (HBb.out.trans (hb6.mono HB3b.out.size)); clear r6 hb6)
            | (refine step_enterc rfl 76 rfl #[.slice A l.length c] (fun b : Option Addr × Nat => .slice b.1 l.length b.2) (by simp [go_sem]) (HCL.out w3.drew HB3d.out) ?_; rintro ⟨Da, da⟩ w5a ⟨ho5, hb5⟩; have HOa := Lib.hid ho5; obtain ⟨q0, q1, _⟩ := HBX.out _ (HB3d.out.trans (hb5.mono HB3d.out.size)); have HBa := Lib.hid ((HB3d.out.trans (hb5.mono HB3d.out.size)).alloc (HB3d.out.trans (hb5.mono HB3d.out.size)).size (.cells #[.string N, .int .i64 I] 44)); have HBZa := Lib.hid HB3d.out.size; have HZa := Lib.hid (size_le1 hb5.size (.cells #[.string N, .int .i64 I] 44)); have HNa := Lib.hid (own_ne_new ho5); clear ho5 hb5)
            | (refine step_enterc rfl 76 rfl #[.slice A l.length c] (fun b : Option Addr × Nat => .slice b.1 l.length b.2) (by simp [go_sem]) (HCL.out (w3.alloc (.cells #[.string N, .int .i64 I] 44)).drew HB3b.out) ?_; rintro ⟨Db, db⟩ w5b ⟨ho5, hb5⟩; have HOb := Lib.hid ho5; have HBb := Lib.hid (HB3b.out.trans (hb5.mono HB3b.out.size)); have HZb := Lib.hid hb5.size; have HRb := Lib.hid (row_below HROWb.out (row_lt HROWb.out) hb5); have HNb := Lib.hid (own_ne_old ho5 (row_lt HROWb.out)); clear ho5 hb5))
          all_goals
            go_wp2_with fail
            exact HP.out _ _ _ R6.out (HBX.out _ HB6.out).2.2
    · have HP := Lib.hid (fun w' => lstPost_no (w := w) (w' := w') (add_ent hE hN))
      have e1 : (entE x != 0) = true := by simpa using hN
      generalize LstPost (addR l x) w = PP at *
      generalize dirE l = E at *
      generalize entE x = E2 at *
      generalize x.Name = N at *
      generalize x.Ino = I at *
      clear hE hN
      go_enter Try.func28, Try.ntmps28
      go_wp2_with (first
        | (go_at_call 55; rw [← HWA.out]; refine HK.out.mono ?_; rintro e w1 ⟨rfl, hb1⟩; have HB1 := Lib.hid hb1; obtain ⟨k10, k11, _⟩ := HBX.out _ hb1; clear hb1)
        | (go_at_call 74; refine (HG.out _).mono ?_; rintro e w2 ⟨rfl, hb2⟩; have HB2 := Lib.hid (HB1.out.trans (hb2.mono HB1.out.size)); obtain ⟨k20, k21, _⟩ := HBX.out _ HB2.out; clear hb2))
      exact HP.out _ (HBX.out _ HB2.out).2.2
  · have HP := Lib.hid (fun w' => lstPost_no (w := w) (w' := w') (add_dir (x := x) hE))
    have e0 : (dirE l != 0) = true := by simpa using hE
    generalize LstPost (addR l x) w = PP at *
    generalize dirE l = E at *
    generalize x.Name = N at *
    generalize x.Ino = I at *
    clear hE
    go_enter Try.func28, Try.ntmps28
    go_wp2_with (go_at_call 55; rw [← HWA.out]; refine HK.out.mono ?_; rintro e w1 ⟨rfl, hb1⟩; have HB1 := Lib.hid hb1; clear hb1)
    exact HP.out _ (HBX.out _ HB1.out).2.2
end Go.Proofs.Ytnnmiolgffcgkaa
