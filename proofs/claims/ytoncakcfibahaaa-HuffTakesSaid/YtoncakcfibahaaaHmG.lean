/- linenref.Comes, walked: how many signs come. -/
import Derived.Test.YtoncakcfibahaaaHmE
import Derived.Test.YtoncakcfibahaaaCpyK
namespace Go.Proofs.Ytoncakcfibahaaa
open Go.RowKit

/-- Some ints of the call's own. -/
def OwnI (w : World) (base : Nat) (D : Option Addr) (m d : Nat) : Prop := ∃ zs : List Int, Owns w base 1 (.slice D m d) m (zs.map (Value.int .i64))
theorem setCells_sz (b : Nat) : ∀ (vs : List Value) (o : Nat) (w : World), (w.setCells b o vs).heap.size = w.heap.size
  | [], _, _ => rfl
  | v :: r, o, w => by rw [World.setCells, setCells_sz b r]; simp [World.setCell]
theorem below_sets {B b : Nat} {w0 : World} (hB : B ≤ b) : ∀ (vs : List Value) (o : Nat) (w : World), Below B w0 w → Below B w0 (w.setCells b o vs)
  | [], _, _, h => h
  | v :: r, o, w, h => by rw [World.setCells]; exact below_sets hB r _ _ (h.setCell hB _)
theorem size_int : (Try.prog.info? 3).map (·.size) = some 1 := by
  obtain ⟨j, hj, hz⟩ := Option.map_eq_some_iff.1 info_intH
  simp only [Prod.mk.injEq] at hz
  rw [hj]; simp [hz.2.1]
/-- What the shift by one leaves. -/
theorem shift_any {w : World} {base g off m d i : Nat} {zs : List Int} (h : Owns w base 1 (.slice (some ⟨g, off, none⟩) (m + 1) d) (m + 1) ((zs ++ [0]).map (Value.int .i64))) (hi : i < m) :
    (∀ ty dc sc, (Builtin.copy_ #[22, 22] ty #[.slice (some ⟨g, off + (i + 1), none⟩) (m - i) dc, .slice (some ⟨g, off + i, none⟩) (m + 1 - i) sc]).run Try.prog w = .ok (goInt (Nat.min (m + 1 - i) (m - i))) (w.setCells g (off + (i + 1)) ((zs.drop i).map (Value.int .i64)))) ∧
    OwnI (w.setCells g (off + (i + 1)) ((zs.drop i).map (Value.int .i64))) base (some ⟨g, off, none⟩) (m + 1) d := by
  have hl : zs.length = m := by have := h.1; simp at this; omega
  rcases h.2 with ⟨e, _⟩ | ⟨g', off', cap', e, h1, h2, h3, h4, h5, h6⟩
  · cases e
  · injection e with e1 e2 e3
    injection e1 with e1
    injection e1 with e1 e4
    subst e1; subst e4; subst e3
    have hcell : ∀ j z, zs[j]? = some z → w.cell? ⟨g, off + j, none⟩ = some (.int .i64 z) := fun j z hj => h5 j _ (by rw [List.getElem?_map, List.getElem?_append_left (List.getElem?_eq_some_iff.1 hj).1, hj]; rfl)
    have hdl : ((zs.drop i).map (Value.int .i64)).length = m - i := by simp [hl]
    have hth : ∀ j, j < m - i → (w.cell? ⟨g, off + (i + 1) + j, none⟩).isSome = true ∧ w.frozen? ⟨g, off + (i + 1) + j, none⟩ = false := fun j hj => by rw [Nat.add_assoc]; exact h6 _ (by omega)
    refine ⟨fun ty dc sc => ?_, zs.take (i + 1) ++ zs.drop i, by simp [hl]; omega, .inr ⟨g, off, d, rfl, h1, by rw [setCells_sz]; exact h2, h3, h4, fun j u hu => ?_, fun j hj => ⟨isSome_setCells_mem g _ _ w _ (h6 j hj).1, by rw [World.frozen?_setCells]; exact (h6 j hj).2⟩⟩⟩
    · exact run_copy_k w _ _ ty 3 g (off + (i + 1)) (m - i) dc 1 ⟨g, off + i, none⟩ (m + 1 - i) sc _ Try.underlying22 size_int (by rw [hdl]; simp only [Nat.min_def]; split <;> omega)
        (fun j v hj => by
          rw [List.getElem?_map, List.getElem?_drop] at hj
          cases hz : zs[i + j]? with
          | none => rw [hz] at hj; cases hj
          | some z =>
            rw [hz] at hj
            obtain rfl : Value.int .i64 z = v := by simpa using hj
            rw [add_form, Nat.add_assoc]; exact hcell _ _ hz)
        (fun j hj => (hth j (by omega)).1) (fun j hj => (hth j (by omega)).2) (fun v hv => by obtain ⟨z, _, rfl⟩ := List.mem_map.1 hv; rfl)
    · rw [List.getElem?_map] at hu
      by_cases hj : j < i + 1
      · rw [List.getElem?_append_left (by rw [List.length_take]; omega), List.getElem?_take, if_pos hj] at hu
        rw [World.cell?_setCells_out g _ _ w _ (fun _ _ => by left; show off + j < off + (i + 1); omega)]
        cases hz : zs[j]? with
        | none => rw [hz] at hu; cases hu
        | some z => rw [hz] at hu; obtain rfl : Value.int .i64 z = u := by simpa using hu
                    exact hcell _ _ hz
      · rw [List.getElem?_append_right (by rw [List.length_take]; omega)] at hu
        have htl : (zs.take (i + 1)).length = i + 1 := by rw [List.length_take]; omega
        rw [htl, List.getElem?_drop] at hu
        have hjn : j - (i + 1) < ((zs.drop i).map (Value.int .i64)).length := by
          cases hz : zs[i + (j - (i + 1))]? with
          | none => rw [hz] at hu; cases hu
          | some z => have := (List.getElem?_eq_some_iff.1 hz).1; rw [hdl]; omega
        have := World.cell?_setCells_in g ((zs.drop i).map (Value.int .i64)) (off + (i + 1)) w (fun j' hj' => (hth j' (by omega)).1) (j - (i + 1)) hjn
        rw [show off + (i + 1) + (j - (i + 1)) = off + j by omega] at this
        rw [this, ← hu, List.getElem_map, List.getElem_drop, List.getElem?_eq_getElem (by rw [hdl] at hjn; omega)]
        rfl
set_option maxRecDepth 20000 in
set_option maxHeartbeats 1000000 in
theorem comes_any (A : Option Addr) (n c : Nat) (xs : List Int) (w : World) (r : RowsIn w w.heap.size A n c (fun z => [.int .i64 z]) 1 xs) (hx : freqE xs = 0) :
    Calls Try.prog 6 #[.slice A n c] w fun e w' => ∃ D d, e = .returned (.slice D (Ht.posL xs).length d) ∧ Below w.heap.size w w' := by
  have hlen := r.len
  obtain rfl := hlen
  obtain ⟨hL, hX⟩ := freqE_zero hx
  have HX := Lib.hid hX
  clear hX hx
  go_enter Try.func6, Try.ntmps6
  go_wp2
  go_loopw [3, 9] (fun u v wr => ∃ (m j : Nat) (D : Option Addr) (d : Nat), u = .slice D m d ∧ v = .int .i64 j ∧ j ≤ xs.length ∧ m ≤ j ∧ Hid (m = (coinsK xs j).length) ∧ Hid (OwnI wr w.heap.size D m d) ∧ Hid (Below w.heap.size w wr)) (fun _ v _ => xs.length - (intOf v).toNat)
  case atStart => exact ⟨0, 0, none, 0, rfl, rfl, Nat.zero_le _, Nat.le_refl _, rfl, ⟨[], Owns.nil _ _ _⟩, Below.refl _ _⟩
  case round =>
    obtain ⟨m, j, D, d, rfl, rfl, hj, hmj, HM, HO, HB⟩ := hrel
    by_cases hlt : j < xs.length
    · have e1 := List.getElem?_eq_getElem hlt
      have hx := HX.out xs[j] (List.getElem_mem hlt)
      generalize xs[j] = x at *
      obtain ⟨b, o, rfl, hbB, hc⟩ := (r.below HB.out).one e1
      have i3 : (j : Int) < (xs.length : Int) := by omega
      by_cases hx0 : 0 < x
      · have HCN : Hid (m + 1 = (coinsK xs (j + 1)).length) := by rw [coinsK_yes e1 hx0, List.length_append, ← HM.out]; rfl
        obtain ⟨zs, hown⟩ := HO.out
        have hzl : zs.length = m := by have := hown.1; simp at this; omega
        have hx1 : (x == 0) = false := beq_eq_false_iff_ne.2 (by omega)
        have HOZ := Lib.hid hown
        obtain ⟨wo, rfl⟩ : ∃ z : World, z = wr := ⟨_, rfl⟩
        clear e1 hown
        go_wp2
        go_loop [6] (fun v => ∃ i : Nat, i ≤ m ∧ v = .int .i64 i) (fun v => m - (intOf v).toNat)
        case atStart => exact ⟨0, Nat.zero_le _, rfl⟩
        case round =>
          obtain ⟨i, him, rfl⟩ := hrel
          have hsz := HB.out.size
          have G2 : Hid (∀ u ∈ (#[.int .i64 0] : Array Value).toList, u.oneCell' = true) := by simp [Hid, Value.oneCell']
          have G3 : Hid (m + 1 ≤ maxLen ∧ (m + 1) * 8 ≤ 140737488355328) := by unfold maxLen Hid; omega
          have G4 : Hid (0 < 1) := by simp [Hid]
          by_cases hlt2 : i < m
          · have e2 := List.getElem?_eq_getElem (show i < zs.length by omega)
            obtain ⟨g, off, cap, e3, _, _, hc3, _⟩ := HOZ.out.at_ (j := i) (u := .int .i64 zs[i]) (by rw [List.getElem?_map, e2]; rfl)
            injection e3 with e3 _ e4
            subst e3; subst e4
            generalize zs[i] = z at *
            have hd1 : decide (i < m) = true := decide_eq_true hlt2
            have i4 : (i : Int) < (m : Int) := by omega
            by_cases hxz : x ≤ z
            · clear e2
              go_wp2
              go_round
              case rel => exact ⟨i + 1, by omega, by go_num⟩
              case measure => (simp [intOf]; omega)
            · clear e2
              go_upto_region 10 with (at_builtin; refine wpList_add1 (size := 1) (bytes := 8) (base := w.heap.size) (H := wo.heap.size) (news := #[.int .i64 0]) rfl rfl Try.underlying22 info_intH rfl G4.out HOZ.out rfl hsz rfl rfl rfl G2.out G3.out.1 G3.out.2 ?_; intro A5 c5 w5 hown5 hl5 hn5; have HB5 := Lib.hid (hl5.below (Nat.le_refl _) HB.out); clear hl5 hn5)
              obtain ⟨g5, off5, rfl⟩ : ∃ g off, A5 = some ⟨g, off, none⟩ := by
                rcases hown5.2 with ⟨e, _⟩ | ⟨g, off, cap, e, _⟩
                · cases e
                · injection e with e; exact ⟨g, off, e⟩
              have ho5 : Owns w5 w.heap.size 1 (.slice (some ⟨g5, off5, none⟩) (m + 1) c5) (m + 1) ((zs ++ [0]).map (Value.int .i64)) := by simpa using hown5
              have hc5 : m + 1 ≤ c5 := by
                rcases ho5.2 with ⟨e, _⟩ | ⟨g, off, cap, e, _, _, h, _⟩
                · cases e
                · injection e with _ _ e; omega
              have hc5m : c5 ≤ maxLen := by
                rcases ho5.2 with ⟨e, _⟩ | ⟨g, off, cap, e, _, _, _, h, _⟩
                · cases e
                · injection e with _ _ e; omega
              unfold maxLen at hc5m
              clear hown5
              have hg5 := (ho5.lt g5 rfl).1
              obtain ⟨hcp, hoI⟩ := shift_any ho5.drew hlt2
              have HCP := Lib.hid hcp
              have HOI := Lib.hid hoI
              have HBX : Hid (Below w.heap.size w (w5.drew.setCells g5 (off5 + (i + 1)) ((zs.drop i).map (Value.int .i64)))) := below_sets hg5 _ _ _ HB5.out.drew
              generalize hW : w5.drew.setCells g5 (off5 + (i + 1)) ((zs.drop i).map (Value.int .i64)) = W1 at *
              have j1 : (0 : Int) ≤ (i : Int) + 1 := by omega
              have j2 : (i : Int) + 1 ≤ (m : Int) + 1 := by omega
              have j3 : (m : Int) + 1 ≤ (c5 : Int) := by omega
              have j4 : IntKind.i64.wrap ((i : Int) + 1) = (i : Int) + 1 := IntWalk.i64_in _ (by omega)
              have j5 : ((i : Int) + 1).toNat = i + 1 := by omega
              have j6 : (0 : Int) ≤ (i : Int) := by omega
              have j7 : (i : Int) ≤ (m : Int) + 1 := by omega
              have j8 : ¬ c5 = i + 1 := by omega
              have j9 : ¬ c5 = i := by omega
              clear hcp hoI ho5 hW
              go_wp2
              go_region_law (refine step_run_copy rfl (.tmp 35) (.tmp 38) 22 22 rfl (.slice (some ⟨g5, off5 + (i + 1), none⟩) (m - i) (c5 - (i + 1))) (.slice (some ⟨g5, off5 + i, none⟩) (m + 1 - i) (c5 - i)) (by simp [go_sem]) (by simp [go_sem]) (HCP.out _ _ _) ?_)
              all_goals
                obtain ⟨ys, hys⟩ := HOI.out
                have hyl : ys.length = m + 1 := by have := hys.1; simp at this; omega
                obtain ⟨g6, off6, cap6, e6, _, hg6, hc6, hf6⟩ := hys.at_ (j := i) (u := .int .i64 (ys[i]'(by omega))) (by rw [List.getElem?_map, List.getElem?_eq_getElem (by omega)]; rfl)
                injection e6 with e6 _ _
                injection e6 with e6
                injection e6 with e6 e7
                subst e6; subst e7
                have HST : Hid (OwnI (W1.setCell ⟨g5, off5 + i, none⟩ (.int .i64 x)) w.heap.size (some ⟨g5, off5, none⟩) (m + 1) c5) := ⟨ys.set i x, by rw [List.map_set]; exact Owns.set hys i _⟩
                have HBS : Hid (Below w.heap.size w (W1.setCell ⟨g5, off5 + i, none⟩ (.int .i64 x))) := HBX.out.setCell hg5 _
                have j10 : (i : Int) < (m : Int) + 1 := by omega
                clear hys
                go_wp2
                go_roundw
                case rel => exact ⟨m + 1, j + 1, some ⟨g5, off5, none⟩, c5, rfl, by go_num, by omega, by omega, HCN, HST, HBS⟩
                case measure => (simp [intOf]; omega)
          · obtain rfl : i = m := by omega
            have hd1 : decide (i < i) = false := decide_eq_false (by omega)
            have hd2 : ¬ (i : Int) < (i : Int) := by omega
            go_upto_region 10 with (at_builtin; refine wpList_add1 (size := 1) (bytes := 8) (base := w.heap.size) (H := wo.heap.size) (news := #[.int .i64 0]) rfl rfl Try.underlying22 info_intH rfl G4.out HOZ.out rfl hsz rfl rfl rfl G2.out G3.out.1 G3.out.2 ?_; intro A5 c5 w5 hown5 hl5 hn5; have HB5 := Lib.hid (hl5.below (Nat.le_refl _) HB.out); clear hl5 hn5)
            obtain ⟨g5, off5, rfl⟩ : ∃ g off, A5 = some ⟨g, off, none⟩ := by
              rcases hown5.2 with ⟨e, _⟩ | ⟨g, off, cap, e, _⟩
              · cases e
              · injection e with e; exact ⟨g, off, e⟩
            have ho5 : Owns w5 w.heap.size 1 (.slice (some ⟨g5, off5, none⟩) (i + 1) c5) (i + 1) ((zs ++ [0]).map (Value.int .i64)) := by simpa using hown5
            have hc5 : i + 1 ≤ c5 := by
              rcases ho5.2 with ⟨e, _⟩ | ⟨g, off, cap, e, _, _, h, _⟩
              · cases e
              · injection e with _ _ e; omega
            have hc5m : c5 ≤ maxLen := by
              rcases ho5.2 with ⟨e, _⟩ | ⟨g, off, cap, e, _, _, _, h, _⟩
              · cases e
              · injection e with _ _ e; omega
            unfold maxLen at hc5m
            clear hown5
            have hg5 := (ho5.lt g5 rfl).1
            obtain ⟨A7, hA7⟩ : ∃ A7, (if c5 = i + 1 then (some ⟨g5, off5, none⟩ : Option Addr) else some ⟨g5, off5 + (i + 1), none⟩) = A7 := ⟨_, rfl⟩
            have HCP : Hid (∀ ty dc sc, (Builtin.copy_ #[22, 22] ty #[.slice A7 0 dc, .slice (some ⟨g5, off5 + i, none⟩) 1 sc]).run Try.prog w5.drew = .ok (goInt 0) w5.drew) := fun ty dc sc => by
              have hk : ∀ o', (Builtin.copy_ #[22, 22] ty #[.slice (some ⟨g5, o', none⟩) 0 dc, .slice (some ⟨g5, off5 + i, none⟩) 1 sc]).run Try.prog w5.drew = .ok (goInt 0) w5.drew := fun o' =>
                run_copy_k w5.drew _ _ ty 3 g5 o' 0 dc 1 ⟨g5, off5 + i, none⟩ 1 sc [] Try.underlying22 size_int rfl (fun j v hj => by simp at hj) (fun j hj => by simp at hj) (fun j hj => by simp at hj) (fun v hv => by simp at hv)
              rw [← hA7]
              split
              · exact hk _
              · exact hk _
            have HO5 := Lib.hid ho5
            have j1 : (0 : Int) ≤ (i : Int) + 1 := by omega
            have j3 : (i : Int) + 1 ≤ (c5 : Int) := by omega
            have j4 : IntKind.i64.wrap ((i : Int) + 1) = (i : Int) + 1 := IntWalk.i64_in _ (by omega)
            have j5 : ((i : Int) + 1).toNat = i + 1 := by omega
            have j6 : (0 : Int) ≤ (i : Int) := by omega
            have j7 : (i : Int) ≤ (i : Int) + 1 := by omega
            have j9 : ¬ c5 = i := by omega
            clear ho5
            go_wp2
            go_region_law (refine step_run_copy rfl (.tmp 35) (.tmp 38) 22 22 rfl (.slice A7 0 (c5 - (i + 1))) (.slice (some ⟨g5, off5 + i, none⟩) 1 (c5 - i)) (by simp [go_sem]) (by simp [go_sem]) (HCP.out _ _ _) ?_)
            all_goals
              have HOI : Hid (OwnI w5.drew w.heap.size (some ⟨g5, off5, none⟩) (i + 1) c5) := ⟨zs ++ [0], HO5.out.drew⟩
              have HBX : Hid (Below w.heap.size w w5.drew) := HB5.out.drew
              generalize w5.drew = W1 at *
              obtain ⟨ys, hys⟩ := HOI.out
              have hyl : ys.length = i + 1 := by have := hys.1; simp at this; omega
              obtain ⟨g6, off6, cap6, e6, _, hg6, hc6, hf6⟩ := hys.at_ (j := i) (u := .int .i64 (ys[i]'(by omega))) (by rw [List.getElem?_map, List.getElem?_eq_getElem (by omega)]; rfl)
              injection e6 with e6 _ _
              injection e6 with e6
              injection e6 with e6 e7
              subst e6; subst e7
              have HST : Hid (OwnI (W1.setCell ⟨g5, off5 + i, none⟩ (.int .i64 x)) w.heap.size (some ⟨g5, off5, none⟩) (i + 1) c5) := ⟨ys.set i x, by rw [List.map_set]; exact Owns.set hys i _⟩
              have HBS : Hid (Below w.heap.size w (W1.setCell ⟨g5, off5 + i, none⟩ (.int .i64 x))) := HBX.out.setCell hg5 _
              have j10 : (i : Int) < (i : Int) + 1 := by omega
              clear hys
              go_wp2
              go_roundw
              case rel => exact ⟨i + 1, j + 1, some ⟨g5, off5, none⟩, c5, rfl, by go_num, by omega, by omega, HCN, HST, HBS⟩
              case measure => (simp [intOf]; omega)
      · have HCN : Hid (m = (coinsK xs (j + 1)).length) := by rw [coinsK_no e1 hx0]; exact HM.out
        have hx1 : x = 0 := by omega
        subst hx1
        clear e1
        go_wp2
        go_roundw
        case rel => exact ⟨m, j + 1, D, d, rfl, by go_num, by omega, by omega, HCN, HO, HB⟩
        case measure => (simp [intOf]; omega)
    · obtain rfl : j = xs.length := by omega
      have HF : Hid (m = (Ht.posL xs).length) := by rw [HM.out, coinsK_all]; simp [Ht.sing, Hid]
      go_wp2
      go_ret
      exact ⟨D, d, by rw [← HF.out] <;> rfl, HB.out⟩
end Go.Proofs.Ytoncakcfibahaaa
