/- linenref.DirFind and DirCut, walked. -/
import Derived.Test.YtnnmiolgffcgkaaTurW
namespace Go.Proofs.Ytnnmiolgffcgkaa
open Go.RowKit

theorem str_eqT {a b : ByteArray} (h : a = b) : (a.toList == b.toList) = true := by rw [h]; exact beq_self_eq_true _

set_option maxRecDepth 20000 in
set_option maxHeartbeats 1000000 in
theorem rfind_any (A : Option Addr) (n c : Nat) (l : List EntD) (name : ByteArray) (w : World) (r : RowsIn w w.heap.size A n c EntD.cells 2 l) :
    Calls Try.prog 27 #[.slice A n c, .string name] w (FndPost l name w) := by
  have hlen := r.len
  subst hlen
  have HK := Lib.hid (rdir_any A l.length c l w r)
  have HG : Hid (∀ W, Calls Try.prog 54 #[.string name] W fun e w' => e = .returned (.int .i64 (nameE name)) ∧ w' = W) := fun W => rname_any name W
  have R := Lib.hid r
  clear r
  by_cases hE : dirE l = 0
  · have e0 : (dirE l != 0) = false := by rw [hE]; rfl
    by_cases hN : nameE name = 0
    · have e1 : (nameE name != 0) = false := by rw [hN]; rfl
      have hl24 := (dir_zero hE).1
      have HNO := Lib.hid (fun (h : ¬ ∃ x, x ∈ l ∧ x.Name = name) w' => fndPost_mk (w := w) (w' := w') (fnd_none hE hN h))
      have HOK := Lib.hid (fun x (hx : x ∈ l) (hn : x.Name = name) w' => fndPost_mk (w := w) (w' := w') (fnd_some hE hN hx hn))
      generalize FndPost l name w = PP at *
      generalize dirE l = E at *
      generalize nameE name = E2 at *
      clear hE hN
      go_enter Try.func27, Try.ntmps27
      go_wp2_with (first
        | (go_at_call 56; refine HK.out.mono ?_; rintro e w1 ⟨rfl, hb1⟩; have HB1 := Lib.hid hb1; clear hb1)
        | (go_at_call 54; refine (HG.out _).mono ?_; rintro e w2 ⟨rfl, rfl⟩))
      go_loopw [9, 22] (fun _ v22 wr => ∃ i : Nat, i ≤ l.length ∧ v22 = .int .i64 i ∧ Hid (∀ k x, k < i → l[k]? = some x → x.Name ≠ name) ∧ Hid (Below w.heap.size w wr)) (fun _ v22 _ => l.length - (intOf v22).toNat)
      case atStart => exact ⟨0, Nat.zero_le _, rfl, fun k x h => by omega, HB1.out⟩
      case round =>
        obtain ⟨i, hi, rfl, HZ, HB⟩ := hrel
        obtain ⟨wq, rfl⟩ : ∃ z : World, z = wr := ⟨_, rfl⟩
        by_cases hlt : i < l.length
        · obtain ⟨x, ex⟩ : ∃ x, l[i]? = some x := ⟨_, List.getElem?_eq_getElem hlt⟩
          have i1 : (i : Int) < (l.length : Int) := by omega
          obtain ⟨b, o, rfl, hbB, k0, k1⟩ := entCells (R.out.below HB.out) ex
          have HBA := Lib.hid (HB.out.alloc HB.out.size (.cells #[.string x.Name, .int .i64 x.Ino] 44))
          by_cases hq : x.Name = name
          · have HP := Lib.hid (HOK.out x (List.mem_of_getElem? ex) hq)
            have q1 := str_eqT hq
            generalize x.Name = N at *
            generalize x.Ino = I at *
            clear ex hq
            go_wp2
            exact HP.out _ HBA.out
          · have HZ2 : Hid (∀ k y, k < i + 1 → l[k]? = some y → y.Name ≠ name) := fun k y hk hy => by
              by_cases e : k = i
              · subst e; rw [ex] at hy; injection hy with hy; rw [← hy]; exact hq
              · exact HZ.out k y (by omega) hy
            have q1 := str_ne hq
            generalize x.Name = N at *
            generalize x.Ino = I at *
            clear ex hq
            go_wp2
            go_roundw
            case rel => exact ⟨i + 1, by omega, by go_num, HZ2.out, HBA.out⟩
            case measure => (simp [intOf]; try omega)
        · obtain rfl : i = l.length := by omega
          have i1 : ¬ (l.length : Int) < (l.length : Int) := by omega
          have HP := Lib.hid (HNO.out (fun ⟨x, hx, hn⟩ => by
            obtain ⟨k, hk⟩ := List.mem_iff_getElem?.1 hx
            exact HZ.out k x (List.getElem?_eq_some_iff.1 hk).1 hk hn))
          go_wp2
          exact HP.out _ HB.out
    · have HP := Lib.hid (fun w' => fndPost_mk (w := w) (w' := w') (fnd_name hE hN))
      have e1 : (nameE name != 0) = true := by simpa using hN
      generalize FndPost l name w = PP at *
      generalize dirE l = E at *
      generalize nameE name = E2 at *
      clear hE hN
      go_enter Try.func27, Try.ntmps27
      go_wp2_with (first
        | (go_at_call 56; refine HK.out.mono ?_; rintro e w1 ⟨rfl, hb1⟩; have HB1 := Lib.hid hb1; clear hb1)
        | (go_at_call 54; refine (HG.out _).mono ?_; rintro e w2 ⟨rfl, rfl⟩))
      exact HP.out _ HB1.out
  · have HP := Lib.hid (fun w' => fndPost_mk (w := w) (w' := w') (fnd_dir (name := name) hE))
    have e0 : (dirE l != 0) = true := by simpa using hE
    generalize FndPost l name w = PP at *
    generalize dirE l = E at *
    clear hE
    go_enter Try.func27, Try.ntmps27
    go_wp2_with (go_at_call 56; refine HK.out.mono ?_; rintro e w1 ⟨rfl, hb1⟩; have HB1 := Lib.hid hb1; clear hb1)
    exact HP.out _ HB1.out

def filT (l : List EntD) (name : ByteArray) : List EntD := l.filter (fun x => decide (x.Name ≠ name))
theorem filT_len (l : List EntD) (name : ByteArray) : (filT l name).length ≤ l.length := List.length_filter_le _ _
theorem fil_yes {l : List EntD} {name : ByteArray} {k : Nat} {x : EntD} (h : l[k]? = some x) (hq : x.Name ≠ name) : filT (l.take (k + 1)) name = filT (l.take k) name ++ [x] := by
  unfold filT; rw [List.take_add_one, h, List.filter_append]; simp [hq]
theorem fil_no {l : List EntD} {name : ByteArray} {k : Nat} {x : EntD} (h : l[k]? = some x) (hq : x.Name = name) : filT (l.take (k + 1)) name = filT (l.take k) name := by
  unfold filT; rw [List.take_add_one, h, List.filter_append]; simp [hq]
theorem ent_snoc {L : List EntD} {x : EntD} : L.flatMap EntD.cells ++ (#[.string x.Name, .int .i64 x.Ino] : Array Value).toList = (L ++ [x]).flatMap EntD.cells := by
  rw [List.flatMap_append]; simp [EntD.cells]

set_option maxRecDepth 20000 in
set_option maxHeartbeats 1000000 in
theorem rcut_any (A : Option Addr) (n c : Nat) (l : List EntD) (name : ByteArray) (w : World) (r : RowsIn w w.heap.size A n c EntD.cells 2 l) :
    Calls Try.prog 31 #[.slice A n c, .string name] w (LstPost (delR l name) w) := by
  have hlen := r.len
  subst hlen
  have HF := Lib.hid (rfind_any A l.length c l name w r)
  unfold FndPost at HF
  have R := Lib.hid r
  clear r
  obtain ⟨v, e, hve⟩ : ∃ v e, fndR l name = (v, e) := ⟨_, _, rfl⟩
  rw [hve] at HF
  by_cases hE : e = 0
  · subst hE
    have hdel := del_ok hve
    have hl24 : l.length ≤ 24 := by
      by_cases h : dirE l = 0
      · exact (dir_zero h).1
      · have := fnd_dir (name := name) h
        rw [hve] at this
        injection this with _ h2
        exact absurd h2.symm h
    have HP : Hid (∀ (A' : Option Addr) (n' c' : Nat) (w' : World), RowsIn w' w'.heap.size A' n' c' EntD.cells 2 (filT l name) → Below w.heap.size w w' → LstPost (delR l name) w (.returned (.tuple #[.slice A' n' c', .int .i64 0])) w') := fun A' n' c' w' h1 h2 => ⟨A', n', c', by rw [hdel], by rw [hdel]; exact h1, h2⟩
    generalize LstPost (delR l name) w = PP at *
    clear hve hdel
    go_enter Try.func31, Try.ntmps31
    go_wp2_with (go_at_call 27; refine HF.out.mono ?_; rintro e w1 ⟨rfl, hb1⟩; have HB1 := Lib.hid hb1; clear hb1)
    go_loopw [8, 10, 22] (fun v8 _ v22 wr => ∃ (i : Nat) (A' : Option Addr) (c' : Nat), i ≤ l.length ∧ v22 = .int .i64 i ∧ v8 = .slice A' (filT (l.take i) name).length c' ∧ Hid (Owns wr w.heap.size 2 (.slice A' (filT (l.take i) name).length c') (filT (l.take i) name).length ((filT (l.take i) name).flatMap EntD.cells)) ∧ Hid (Below w.heap.size w wr)) (fun _ _ v22 _ => l.length - (intOf v22).toNat)
    case atStart => exact ⟨0, none, 0, Nat.zero_le _, rfl, rfl, Owns.nil _ _ _, HB1.out⟩
    case round =>
      obtain ⟨i, A', c', hi, rfl, rfl, HO, HB⟩ := hrel
      obtain ⟨wq, rfl⟩ : ∃ z : World, z = wr := ⟨_, rfl⟩
      by_cases hlt : i < l.length
      · obtain ⟨x, ex⟩ : ∃ x, l[i]? = some x := ⟨_, List.getElem?_eq_getElem hlt⟩
        have i1 : (i : Int) < (l.length : Int) := by omega
        obtain ⟨b, o, rfl, hbB, k0, k1⟩ := entCells (R.out.below HB.out) ex
        have HBA := Lib.hid (HB.out.alloc HB.out.size (.cells #[.string x.Name, .int .i64 x.Ino] 44))
        have HOA := Lib.hid (HO.out.alloc (.cells #[.string x.Name, .int .i64 x.Ino] 44))
        have hfl : (filT (l.take i) name).length ≤ i := Nat.le_trans (filT_len _ _) (by rw [List.length_take]; omega)
        by_cases hq : x.Name = name
        · have HT := Lib.hid (fil_no ex hq)
          have q1 := str_eqT hq
          generalize filT (l.take i) name = L at *
          generalize x.Name = N at *
          generalize x.Ino = I at *
          clear ex hq
          go_wp2
          go_roundw
          case rel => exact ⟨i + 1, A', c', by omega, by go_num, by rw [HT.out], by rw [HT.out]; exact HOA.out, HBA.out⟩
          case measure => (simp [intOf]; try omega)
        · have HT := Lib.hid (fil_yes ex hq)
          have q1 := str_ne hq
          have HSN := Lib.hid (ent_snoc (L := filT (l.take i) name) (x := x))
          generalize filT (l.take i) name = L at *
          have G2 : Hid (∀ u ∈ (#[.string x.Name, .int .i64 x.Ino] : Array Value).toList, u.oneCell' = true) := by simp [Hid, Value.oneCell']
          have G3 : Hid (L.length + 1 ≤ maxLen ∧ (L.length + 1) * 24 ≤ 140737488355328) := by unfold maxLen Hid; omega
          have G4 : Hid (0 < 2) := by simp [Hid]
          obtain ⟨X, hX⟩ : ∃ X, X = L ++ [x] := ⟨_, rfl⟩
          have HXL : Hid (X.length = L.length + 1) := by rw [hX]; simp [Hid]
          rw [← hX] at HT HSN
          generalize x.Name = N at *
          generalize x.Ino = I at *
          clear ex hq hX
          go_wp2_with (at_builtin; refine wpList_add1 (size := 2) (bytes := 24) (base := w.heap.size) (news := #[.string N, .int .i64 I]) (H := wq.heap.size + 1) rfl rfl Try.underlying42 info_entT rfl G4.out HOA.out rfl HBA.out.size rfl (World.size_alloc _ _) rfl G2.out G3.out.1 G3.out.2 ?_; intro A3 c3 w5 hown5 hl5 hn5; have HO5 := Lib.hid hown5; have HB5 := Lib.hid (hl5.below (Nat.le_refl _) HBA.out); clear hown5 hl5 hn5)
          go_roundw
          case rel => exact ⟨i + 1, A3, c3, by omega, by go_num, by rw [HT.out, HXL.out], by rw [HT.out, HXL.out, ← HSN.out]; exact HO5.out, HB5.out⟩
          case measure => (simp [intOf]; try omega)
      · obtain rfl : i = l.length := by omega
        have i1 : ¬ (l.length : Int) < (l.length : Int) := by omega
        rw [List.take_length] at HO ⊢
        have HR5 := Lib.hid (own_ents HO.out)
        go_wp2
        exact HP.out _ _ _ _ HR5.out HB.out
  · have HP := Lib.hid (fun w' => lstPost_no (w := w) (w' := w') (del_bad hve hE))
    have e0 : (e != 0) = true := by simpa using hE
    generalize LstPost (delR l name) w = PP at *
    clear hve hE
    go_enter Try.func31, Try.ntmps31
    go_wp2_with (go_at_call 27; refine HF.out.mono ?_; rintro e w1 ⟨rfl, hb1⟩; have HB1 := Lib.hid hb1; clear hb1)
    exact HP.out _ HB1.out
end Go.Proofs.Ytnnmiolgffcgkaa
