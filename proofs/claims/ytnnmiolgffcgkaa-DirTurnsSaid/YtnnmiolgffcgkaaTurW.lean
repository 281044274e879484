/- dir.Find, Add and Cut, walked. -/
import Derived.Test.YtnnmiolgffcgkaaXJa
import Derived.Test.YtnnmiolgffcgkaaTurS
import Derived.Test.YtnnmiolgffcgkaaTurD
namespace Go.Proofs.Ytnnmiolgffcgkaa
open Go.RowKit

def FndPost (l : List EntD) (name : ByteArray) (w : World) (e : Ending) (w' : World) : Prop := e = .returned (.tuple #[.int .i64 (fndR l name).1, .int .i64 (fndR l name).2]) ∧ Below w.heap.size w w'
theorem fndPost_mk {l : List EntD} {name : ByteArray} {w w' : World} {a b : Int} (h : fndR l name = (a, b)) (hb : Below w.heap.size w w') : FndPost l name w (.returned (.tuple #[.int .i64 a, .int .i64 b])) w' := ⟨by rw [h], hb⟩
/-- An answer: a list of entries and a number. -/
def LstPost (r : List EntD × Int) (w : World) (e : Ending) (w' : World) : Prop := ∃ A n c, e = .returned (.tuple #[.slice A n c, .int .i64 r.2]) ∧ RowsIn w' w'.heap.size A n c EntD.cells 2 r.1 ∧ Below w.heap.size w w'
theorem no_entsT (w : World) : RowsIn w w.heap.size none 0 0 EntD.cells 2 ([] : List EntD) := ⟨rfl, Nat.le_refl _, Nat.zero_le _, fun i x h => by simp at h⟩
theorem lstPost_no {r : List EntD × Int} {w w' : World} {k : Int} (h : r = ([], k)) (hb : Below w.heap.size w w') : LstPost r w (.returned (.tuple #[.slice none 0 0, .int .i64 k])) w' := by subst h; exact ⟨none, 0, 0, rfl, no_entsT _, hb⟩
theorem own_ents {w : World} {base n c : Nat} {A : Option Addr} {xs : List EntD} (h : Owns w base 2 (.slice A n c) n (xs.flatMap EntD.cells)) : RowsIn w w.heap.size A n c EntD.cells 2 xs := h.rows (enc := EntD.cells) (k := 2) (fun _ => rfl) (by decide)

theorem flat_take : ∀ (l : List EntD) (i : Nat), (l.take i).flatMap EntD.cells = (l.flatMap EntD.cells).take (i * 2)
  | [], _ => by simp
  | x :: r, 0 => by simp
  | x :: r, i + 1 => by
    have e : (x :: r).flatMap EntD.cells = Value.string x.Name :: Value.int .i64 x.Ino :: r.flatMap EntD.cells := rfl
    rw [List.take_succ_cons, e, show (i + 1) * 2 = i * 2 + 1 + 1 by omega, List.take_succ_cons, List.take_succ_cons, ← flat_take r i]; rfl
theorem flat_drop : ∀ (l : List EntD) (i : Nat), (l.drop i).flatMap EntD.cells = (l.flatMap EntD.cells).drop (i * 2)
  | [], _ => by simp
  | x :: r, 0 => by simp
  | x :: r, i + 1 => by
    have e : (x :: r).flatMap EntD.cells = Value.string x.Name :: Value.int .i64 x.Ino :: r.flatMap EntD.cells := rfl
    rw [List.drop_succ_cons, e, show (i + 1) * 2 = i * 2 + 1 + 1 by omega, List.drop_succ_cons, List.drop_succ_cons, ← flat_drop r i]
theorem seek_at (A : Option Addr) (n c : Nat) (l : List EntD) (name : ByteArray) (w : World) (r : RowsIn w w.heap.size A n c EntD.cells 2 l) (hs : Srt l) (hn : n ≤ 24) {i : Nat} (hp : Pos l name i) (b : Bool) (hb : b = true ↔ ∃ x, x ∈ l ∧ x.Name = name) :
    Calls Try.prog 73 #[.slice A n c, .string name] w fun e w' => e = .returned (.tuple #[.int .i64 i, .bool b]) ∧ Below w.heap.size w w' :=
  (seek_any A n c l name w r hs hn).mono (by
    rintro e w' ⟨k, b', h1, h2, h3, h4⟩
    have := h2.uniq hp
    subst this
    have : b' = b := by
      rw [pos_found hs hp] at h3
      exact Bool.eq_iff_iff.2 (h3.trans hb.symm)
    subst this
    exact ⟨h1, h4⟩)

set_option maxRecDepth 20000 in
set_option maxHeartbeats 1000000 in
theorem dfind_any (A : Option Addr) (n c : Nat) (l : List EntD) (name : ByteArray) (w : World) (r : RowsIn w w.heap.size A n c EntD.cells 2 l) :
    Calls Try.prog 26 #[.slice A n c, .string name] w (FndPost l name w) := by
  have hlen := r.len
  subst hlen
  have HK := Lib.hid (dcheck_any A l.length c l w r)
  have HG : Hid (∀ W, Calls Try.prog 53 #[.string name] W fun e w' => e = .returned (.int .i64 (nameE name)) ∧ Below W.heap.size W w') := fun W => good_any name W
  have R := Lib.hid r
  clear r
  by_cases hE : dirE l = 0
  · have e0 : (dirE l != 0) = false := by rw [hE]; rfl
    by_cases hN : nameE name = 0
    · have e1 : (nameE name != 0) = false := by rw [hN]; rfl
      have hs := dir_srt hE
      have hl24 := (dir_zero hE).1
      obtain ⟨i, hp⟩ := pos_ex name hs
      by_cases hx : ∃ x, x ∈ l ∧ x.Name = name
      · have HSK : Hid (∀ W, Below w.heap.size w W → Calls Try.prog 73 #[.slice A l.length c, .string name] W fun e w' => e = .returned (.tuple #[.int .i64 i, .bool true]) ∧ Below W.heap.size W w') := fun W hb => seek_at A l.length c l name W ((R.out.below hb).more hb.size) hs hl24 hp true (by simp [hx])
        obtain ⟨x, hx1, hx2⟩ := (pos_found hs hp).2 hx
        have HP := Lib.hid (fun w' => fndPost_mk (w := w) (w' := w') (fnd_some hE hN (List.mem_of_getElem? hx1) hx2))
        have hlt := (List.getElem?_eq_some_iff.1 hx1).1
        have i1 : (i : Int) < (l.length : Int) := by omega
        obtain ⟨b, o, rfl, _, _, _⟩ := entCells R.out hx1
        have HCL : Hid (∀ W, Below w.heap.size w W → W.cell? ⟨b, o + i * 2 + 1, none⟩ = some (.int .i64 x.Ino)) := fun W hb => by
          obtain ⟨b', o', e, _, _, k1⟩ := entCells (R.out.below hb) hx1
          injection e with e; injection e with e1 e2 _
          subst e1; subst e2; exact k1
        generalize FndPost l name w = PP at *
        generalize dirE l = E at *
        generalize nameE name = E2 at *
        clear hE hN hs hp hx hx1 hx2
        go_enter Try.func26, Try.ntmps26
        go_wp2_with (first
          | (go_at_call 55; refine HK.out.mono ?_; rintro e w1 ⟨rfl, hb1⟩; have HB1 := Lib.hid hb1; clear hb1)
          | (go_at_call 53; refine (HG.out _).mono ?_; rintro e w2 ⟨rfl, hb2⟩; have HB2 := Lib.hid (HB1.out.trans (hb2.mono HB1.out.size)); clear hb2)
          | (go_at_call 73; refine (HSK.out _ HB2.out).mono ?_; rintro e w3 ⟨rfl, hb3⟩; have HB3 := Lib.hid (HB2.out.trans (hb3.mono HB2.out.size)); have k3 := HCL.out _ HB3.out; clear hb3))
        exact HP.out _ HB3.out
      · have HSK : Hid (∀ W, Below w.heap.size w W → Calls Try.prog 73 #[.slice A l.length c, .string name] W fun e w' => e = .returned (.tuple #[.int .i64 i, .bool false]) ∧ Below W.heap.size W w') := fun W hb => seek_at A l.length c l name W ((R.out.below hb).more hb.size) hs hl24 hp false (by simp [hx])
        have HP := Lib.hid (fun w' => fndPost_mk (w := w) (w' := w') (fnd_none hE hN hx))
        generalize FndPost l name w = PP at *
        generalize dirE l = E at *
        generalize nameE name = E2 at *
        clear hE hN hs hp hx
        go_enter Try.func26, Try.ntmps26
        go_wp2_with (first
          | (go_at_call 55; refine HK.out.mono ?_; rintro e w1 ⟨rfl, hb1⟩; have HB1 := Lib.hid hb1; clear hb1)
          | (go_at_call 53; refine (HG.out _).mono ?_; rintro e w2 ⟨rfl, hb2⟩; have HB2 := Lib.hid (HB1.out.trans (hb2.mono HB1.out.size)); clear hb2)
          | (go_at_call 73; refine (HSK.out _ HB2.out).mono ?_; rintro e w3 ⟨rfl, hb3⟩; have HB3 := Lib.hid (HB2.out.trans (hb3.mono HB2.out.size)); clear hb3))
        exact HP.out _ HB3.out
    · have HP := Lib.hid (fun w' => fndPost_mk (w := w) (w' := w') (fnd_name hE hN))
      have e1 : (nameE name != 0) = true := by simpa using hN
      generalize FndPost l name w = PP at *
      generalize dirE l = E at *
      generalize nameE name = E2 at *
      clear hE hN
      go_enter Try.func26, Try.ntmps26
      go_wp2_with (first
        | (go_at_call 55; refine HK.out.mono ?_; rintro e w1 ⟨rfl, hb1⟩; have HB1 := Lib.hid hb1; clear hb1)
        | (go_at_call 53; refine (HG.out _).mono ?_; rintro e w2 ⟨rfl, hb2⟩; have HB2 := Lib.hid (HB1.out.trans (hb2.mono HB1.out.size)); clear hb2))
      exact HP.out _ HB2.out
  · have HP := Lib.hid (fun w' => fndPost_mk (w := w) (w' := w') (fnd_dir (name := name) hE))
    have e0 : (dirE l != 0) = true := by simpa using hE
    generalize FndPost l name w = PP at *
    generalize dirE l = E at *
    clear hE
    go_enter Try.func26, Try.ntmps26
    go_wp2_with (go_at_call 55; refine HK.out.mono ?_; rintro e w1 ⟨rfl, hb1⟩; have HB1 := Lib.hid hb1; clear hb1)
    exact HP.out _ HB1.out
set_option maxRecDepth 20000 in
set_option maxHeartbeats 1000000 in
theorem dcut_any (A : Option Addr) (n c : Nat) (l : List EntD) (name : ByteArray) (w : World) (r : RowsIn w w.heap.size A n c EntD.cells 2 l) :
    Calls Try.prog 30 #[.slice A n c, .string name] w (LstPost (delR l name) w) := by
  have hlen := r.len
  subst hlen
  have HK := Lib.hid (dcheck_any A l.length c l w r)
  have HG : Hid (∀ W, Calls Try.prog 53 #[.string name] W fun e w' => e = .returned (.int .i64 (nameE name)) ∧ Below W.heap.size W w') := fun W => good_any name W
  have R := Lib.hid r
  clear r
  by_cases hE : dirE l = 0
  · have e0 : (dirE l != 0) = false := by rw [hE]; rfl
    by_cases hN : nameE name = 0
    · have e1 : (nameE name != 0) = false := by rw [hN]; rfl
      have hs := dir_srt hE
      have hl24 := (dir_zero hE).1
      obtain ⟨i, hp⟩ := pos_ex name hs
      by_cases hx : ∃ x, x ∈ l ∧ x.Name = name
      · have HSK : Hid (∀ W, Below w.heap.size w W → Calls Try.prog 73 #[.slice A l.length c, .string name] W fun e w' => e = .returned (.tuple #[.int .i64 i, .bool true]) ∧ Below W.heap.size W w') := fun W hb => seek_at A l.length c l name W ((R.out.below hb).more hb.size) hs hl24 hp true (by simp [hx])
        obtain ⟨x, hx1, hx2⟩ := (pos_found hs hp).2 hx
        have hdel := del_at hs hx1 hx2
        have hlt := (List.getElem?_eq_some_iff.1 hx1).1
        obtain ⟨p, hpn⟩ : ∃ p, l.length = p + 1 := ⟨l.length - 1, by omega⟩
        have HCL : Hid (∀ W, Below w.heap.size w W → Calls Try.prog 76 #[.slice A l.length c] W fun e w' => ∃ g off d, e = .returned (.slice (some ⟨g, off, none⟩) l.length d) ∧ Owns w' W.heap.size 2 (.slice (some ⟨g, off, none⟩) l.length d) l.length (l.flatMap EntD.cells) ∧ Below W.heap.size W w') := fun W hb => (clonee_any A l.length c l W.heap.size W ((R.out.below hb).more hb.size) (Nat.le_refl _) (by omega)).mono (by
          rintro e w' ⟨D, d, h1, h2, h3⟩
          rcases h2.2 with ⟨_, h0⟩ | ⟨g, off, cap, he, _⟩
          · omega
          · injection he with he _ _
            subst he
            exact ⟨g, off, d, h1, h2, h3⟩)
        have HDL : Hid (∀ (g off d base : Nat) (W : World), Owns W base 2 (.slice (some ⟨g, off, none⟩) l.length d) l.length (l.flatMap EntD.cells) → Calls Try.prog 78 #[.slice (some ⟨g, off, none⟩) l.length d, .int .i64 i, .int .i64 ((i : Int) + 1)] W fun e w' => ∃ A c, e = .returned (.slice A p c) ∧ RowsIn w' w'.heap.size A p c EntD.cells 2 (l.take i ++ l.drop (i + 1)) ∧ Below base W w') := fun g off d base W ho => by
          rw [hpn] at ho ⊢
          refine (del_any g off p d i base _ W ho (by omega) (by omega) (ent_one l)).mono ?_
          rintro e w' ⟨A', c', h1, h2, h3⟩
          rw [← flat_take, ← flat_drop, ← List.flatMap_append] at h2
          exact ⟨A', c', h1, own_ents h2, h3⟩
        have HP : Hid (∀ (A' : Option Addr) (c' : Nat) (w' : World), RowsIn w' w'.heap.size A' p c' EntD.cells 2 (l.take i ++ l.drop (i + 1)) → Below w.heap.size w w' → LstPost (delR l name) w (.returned (.tuple #[.slice A' p c', .int .i64 0])) w') := fun A' c' w' h1 h2 => ⟨A', p, c', by rw [del_ok (fnd_some hE hN (List.mem_of_getElem? hx1) hx2)], by rw [del_ok (fnd_some hE hN (List.mem_of_getElem? hx1) hx2)]; simp only; rw [hdel]; exact h1, h2⟩
        generalize LstPost (delR l name) w = PP at *
        generalize dirE l = E at *
        generalize nameE name = E2 at *
        have hiI : (i : Int) ≤ 24 := by omega
        clear hE hN hs hp hx hx1 hx2 hdel hpn
        go_enter Try.func30, Try.ntmps30
        go_wp2_with (first
          | (go_at_call 55; refine HK.out.mono ?_; rintro e w1 ⟨rfl, hb1⟩; have HB1 := Lib.hid hb1; clear hb1)
          | (go_at_call 53; refine (HG.out _).mono ?_; rintro e w2 ⟨rfl, hb2⟩; have HB2 := Lib.hid (HB1.out.trans (hb2.mono HB1.out.size)); clear hb2)
          | (go_at_call 73; refine (HSK.out _ HB2.out).mono ?_; rintro e w3 ⟨rfl, hb3⟩; have HB3 := Lib.hid (HB2.out.trans (hb3.mono HB2.out.size)); clear hb3)
          | (go_at_call 76; refine (HCL.out _ HB3.out).mono ?_; rintro e w4 ⟨g, off, d, rfl, ho4, hb4⟩; have HO4 := Lib.hid ho4; have HB4 := Lib.hid (HB3.out.trans (hb4.mono HB3.out.size)); clear ho4 hb4)
          | (go_at_call 78; refine (HDL.out _ _ _ _ _ HO4.out).mono ?_; rintro e w5 ⟨A5, c5, rfl, r5, hb5⟩; have HB5 := Lib.hid (HB4.out.trans (hb5.mono HB3.out.size)); have HR5 := Lib.hid r5; clear r5 hb5))
        exact HP.out _ _ _ HR5.out HB5.out
      · have HSK : Hid (∀ W, Below w.heap.size w W → Calls Try.prog 73 #[.slice A l.length c, .string name] W fun e w' => e = .returned (.tuple #[.int .i64 i, .bool false]) ∧ Below W.heap.size W w') := fun W hb => seek_at A l.length c l name W ((R.out.below hb).more hb.size) hs hl24 hp false (by simp [hx])
        have HP := Lib.hid (fun w' => lstPost_no (w := w) (w' := w') (del_bad (fnd_none hE hN hx) (by decide)))
        generalize LstPost (delR l name) w = PP at *
        generalize dirE l = E at *
        generalize nameE name = E2 at *
        clear hE hN hs hp hx
        go_enter Try.func30, Try.ntmps30
        go_wp2_with (first
          | (go_at_call 55; refine HK.out.mono ?_; rintro e w1 ⟨rfl, hb1⟩; have HB1 := Lib.hid hb1; clear hb1)
          | (go_at_call 53; refine (HG.out _).mono ?_; rintro e w2 ⟨rfl, hb2⟩; have HB2 := Lib.hid (HB1.out.trans (hb2.mono HB1.out.size)); clear hb2)
          | (go_at_call 73; refine (HSK.out _ HB2.out).mono ?_; rintro e w3 ⟨rfl, hb3⟩; have HB3 := Lib.hid (HB2.out.trans (hb3.mono HB2.out.size)); clear hb3))
        exact HP.out _ HB3.out
    · have HP := Lib.hid (fun w' => lstPost_no (w := w) (w' := w') (del_bad (fnd_name hE hN) hN))
      have e1 : (nameE name != 0) = true := by simpa using hN
      generalize LstPost (delR l name) w = PP at *
      generalize dirE l = E at *
      generalize nameE name = E2 at *
      clear hE hN
      go_enter Try.func30, Try.ntmps30
      go_wp2_with (first
        | (go_at_call 55; refine HK.out.mono ?_; rintro e w1 ⟨rfl, hb1⟩; have HB1 := Lib.hid hb1; clear hb1)
        | (go_at_call 53; refine (HG.out _).mono ?_; rintro e w2 ⟨rfl, hb2⟩; have HB2 := Lib.hid (HB1.out.trans (hb2.mono HB1.out.size)); clear hb2))
      exact HP.out _ HB2.out
  · have HP := Lib.hid (fun w' => lstPost_no (w := w) (w' := w') (del_bad (fnd_dir (name := name) hE) hE))
    have e0 : (dirE l != 0) = true := by simpa using hE
    generalize LstPost (delR l name) w = PP at *
    generalize dirE l = E at *
    clear hE
    go_enter Try.func30, Try.ntmps30
    go_wp2_with (go_at_call 55; refine HK.out.mono ?_; rintro e w1 ⟨rfl, hb1⟩; have HB1 := Lib.hid hb1; clear hb1)
    exact HP.out _ HB1.out
end Go.Proofs.Ytnnmiolgffcgkaa
