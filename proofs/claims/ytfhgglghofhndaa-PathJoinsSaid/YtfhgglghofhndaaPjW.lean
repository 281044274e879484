/- path.Join, linenref.Joined and path.Under, walked. -/
import Derived.Test.YtfhgglghofhndaaPjP
import Derived.Test.YtfhgglghofhndaaDirV
import Derived.Test.YtfhgglghofhndaaFwhW
namespace Go.Proofs.Ytfhgglghofhndaa
open Go.RowKit Go.PlainAid

def JnPost (l : List ByteArray) (w : World) (e : Ending) (w' : World) : Prop := e = .returned (.tuple #[.string (jnT l), .int .i64 (jnE l)]) ∧ Below w.heap.size w w'
theorem jnPost {l : List ByteArray} {w w' : World} {t : ByteArray} {e : Int} (h : jnE l = e ∧ jnT l = t) (hb : Below w.heap.size w w') : JnPost l w (.returned (.tuple #[.string t, .int .i64 e])) w' := ⟨by rw [h.1, h.2], hb⟩

set_option maxRecDepth 20000 in
set_option maxHeartbeats 1000000 in
theorem pjoin_any (A : Option Addr) (n c : Nat) (xs : List ByteArray) (w : World) (r : RowsIn w w.heap.size A n c (fun z => [.string z]) 1 xs) :
    Calls Try.prog 40 #[.slice A n c] w (JnPost xs w) := by
  have hn := r.len
  subst hn
  have htop : (xs.length : Int) ≤ 9223372036854775807 := by have h1 := r.le; have h2 := r.top; unfold maxLen at h2; omega
  go_enter Try.func40, Try.ntmps40
  go_wp2
  go_loopw [9] (fun v9 wr => ∃ i : Nat, i ≤ xs.length ∧ v9 = .int .i64 i ∧ Hid ((∀ j x, j < i → xs[j]? = some x → nameE x = 0) ∧ Below w.heap.size w wr)) (fun v9 _ => xs.length - (intOf v9).toNat)
  case atStart => exact ⟨0, Nat.zero_le _, rfl, fun j x h => absurd h (Nat.not_lt_zero _), Below.refl _ _⟩
  case round =>
    obtain ⟨i, hi, rfl, HR⟩ := hrel
    obtain ⟨wq, rfl⟩ : ∃ z : World, z = wr := ⟨_, rfl⟩
    by_cases hlt : i < xs.length
    · obtain ⟨x, e1⟩ : ∃ x, xs[i]? = some x := ⟨_, List.getElem?_eq_getElem hlt⟩
      have hil : (i : Int) < (xs.length : Int) := by omega
      obtain ⟨b, o, rfl, hbB, k0⟩ := (r.below HR.out.2).one e1
      have HG := Lib.hid (good_any x wq)
      by_cases hx : nameE x = 0
      · rw [hx] at HG
        have HN : Hid (∀ j y, j < i + 1 → xs[j]? = some y → nameE y = 0) := fun j y hj hy => by
          by_cases e : j = i
          · rw [e, e1] at hy; cases hy; exact hx
          · exact HR.out.1 j y (by omega) hy
        clear e1 hx
        go_wp2_with (go_at_call 27; refine HG.out.mono ?_; rintro e w' ⟨rfl, hb⟩; have HB1 := Lib.hid (HR.out.2.trans (hb.mono HR.out.2.size)); clear hb)
        go_roundw
        case rel => exact ⟨i + 1, by omega, by go_num, HN.out, HB1.out⟩
        case measure => (simp [intOf]; try omega)
      · have F := Lib.hid (jn_bad e1 hx)
        have he : nameE x = 11 := (name_two x).resolve_left hx
        rw [he] at HG
        clear e1 hx he
        go_wp2_with (go_at_call 27; refine HG.out.mono ?_; rintro e w' ⟨rfl, hb⟩; have HB1 := Lib.hid (HR.out.2.trans (hb.mono HR.out.2.size)); clear hb)
        go_ret2
        exact jnPost F.out HB1.out
    · obtain rfl : i = xs.length := by omega
      have hall : ∀ n ∈ xs, nameE n = 0 := fun n hn => by
        obtain ⟨j, hj, e⟩ := List.getElem_of_mem hn
        exact HR.out.1 j n hj (by rw [List.getElem?_eq_getElem hj, e])
      by_cases hl : 8 < xs.length
      · have F := Lib.hid (jn_large hall hl)
        have hli : 8 < (xs.length : Int) := by omega
        clear hall hl
        go_wp2
        go_ret2
        exact jnPost F.out HR.out.2
      · have hli : ¬ 8 < (xs.length : Int) := by omega
        by_cases h0 : xs.length = 0
        · have F := Lib.hid (jn_none h0)
          have HJ : Hid (Calls Try.prog 74 #[.slice A 0 c, .string ⟨#[47]⟩] wq fun e w' => e = .returned (.string ⟨#[]⟩) ∧ w' = wq) := Try.strings_Join_none A c ⟨#[47]⟩ wq
          have hcat := cat_mk (P := Try.prog) [47] ⟨#[]⟩ (by decide)
          have hcat2 : ∀ W : World, (Op.stringOp .add ⟨#[47]⟩ ⟨#[]⟩).run Try.prog W = .ok (.string (mkS [47])) W := hcat
          rw [h0] at *
          clear hall h0 hl hcat
          go_wp2_with (go_at_call 74; refine HJ.out.mono ?_; rintro e w' ⟨rfl, hw'⟩; rw [hw']; clear hw')
          go_ret2
          exact jnPost F.out HR.out.2
        · have F := Lib.hid (jn_ok hall hl h0)
          obtain ⟨x, e1⟩ : ∃ x, xs[0]? = some x := ⟨_, List.getElem?_eq_getElem (by omega)⟩
          obtain ⟨b, o, rfl, hbB, k0⟩ := (r.below HR.out.2).one e1
          have hjn := sepB_join h0
          have hlen := sepB_len xs (fun n hn => (name_zero (hall n hn)).2.1)
          rw [← hjn, List.length_cons] at hlen
          have HJ := Lib.hid (Try.strings_Join b o c xs ⟨#[47]⟩ wq (fun j x hx => by
            obtain ⟨b', o', he, _, h⟩ := (r.below HR.out.2).one hx
            cases he; exact h) (by have := HR.out.2.size; omega) (by omega) r.le (by
              show (Lib.join _ [47]).length ≤ _
              omega))
          have e47 : (⟨#[47]⟩ : ByteArray).data.toList = [47] := rfl
          rw [e47] at HJ
          have hcat := cat_mk (P := Try.prog) [47] (mkS (Lib.join (xs.map (·.data.toList)) [47])) (by rw [mk_size]; show 1 + _ ≤ _; omega)
          rw [bl_mk, List.singleton_append, hjn] at hcat
          have hcat2 : ∀ W : World, (Op.stringOp .add ⟨#[47]⟩ (mkS (Lib.join (xs.map (·.data.toList)) [47]))).run Try.prog W = .ok (.string (mkS (sepB xs))) W := hcat
          have HJ2 : Hid (Calls Try.prog 74 #[.slice (some ⟨b, o, none⟩) xs.length c, .string ⟨#[47]⟩] wq fun e w' => e = .returned (.string (mkS (Lib.join (xs.map (·.data.toList)) [47]))) ∧ Below wq.heap.size wq w') := HJ.out
          clear hall h0 hl hcat hjn hlen HJ e47 e1
          generalize mkS (Lib.join (xs.map (·.data.toList)) [47]) = J at *
          generalize mkS (sepB xs) = S at *
          go_wp2_with (go_at_call 74; refine HJ2.out.mono ?_; rintro e w' ⟨rfl, hb⟩)
          go_ret2
          exact jnPost F.out (HR.out.2.trans (hb.mono HR.out.2.size))

set_option maxRecDepth 20000 in
set_option maxHeartbeats 1000000 in
theorem rjoin_any (A : Option Addr) (n c : Nat) (xs : List ByteArray) (hs : c * 16 ≤ 140737488351232) (w : World) (r : RowsIn w w.heap.size A n c (fun z => [.string z]) 1 xs) :
    Calls Try.prog 41 #[.slice A n c] w (JnPost xs w) := by
  have hn := r.len
  subst hn
  have htop : (xs.length : Int) ≤ 8796093022207 := by have h1 := r.le; omega
  go_enter Try.func41, Try.ntmps41
  go_wp2
  go_loopw [4, 9] (fun v4 v9 wr => ∃ i : Nat, i ≤ xs.length ∧ v9 = .int .i64 i ∧ v4 = .string (mkS (sepB (xs.take i))) ∧ wr = w ∧ Hid (∀ j x, j < i → xs[j]? = some x → nameE x = 0)) (fun _ v9 _ => xs.length - (intOf v9).toNat)
  case atStart => exact ⟨0, Nat.zero_le _, rfl, rfl, rfl, fun j x h => absurd h (Nat.not_lt_zero _)⟩
  case round =>
    obtain ⟨i, hi, rfl, rfl, rfl, HR⟩ := hrel
    by_cases hlt : i < xs.length
    · obtain ⟨x, e1⟩ : ∃ x, xs[i]? = some x := ⟨_, List.getElem?_eq_getElem hlt⟩
      have hil : (i : Int) < (xs.length : Int) := by omega
      obtain ⟨b, o, rfl, hbB, k0⟩ := r.one e1
      have HG := Lib.hid (rname_any x wr)
      by_cases hx : nameE x = 0
      · rw [hx] at HG
        have hsm : ∀ n ∈ xs.take i, n.size ≤ 12 := fun n hn => by
          obtain ⟨j, hj, e⟩ := List.getElem_of_mem hn
          have hji : j < i := by rw [List.length_take] at hj; omega
          exact (name_zero (HR.out j n hji (by rw [List.getElem_take] at e; rw [List.getElem?_eq_getElem (by omega), e]))).2.1
        have hlen := sepB_len _ hsm
        rw [List.length_take] at hlen
        have hxs := (name_zero hx).2.1
        have q1 := cat_mk (P := Try.prog) [47] x (by show 1 + _ ≤ _; omega)
        have q2 := cat_mk (P := Try.prog) (sepB (xs.take i)) (mkS ([47] ++ bl x)) (by rw [mk_size, List.length_append, bl_len]; show _ + (1 + _) ≤ _; omega)
        rw [bl_mk, List.singleton_append, ← sepB_step e1] at q2
        have q1' : ∀ W : World, (Op.stringOp .add ⟨#[47]⟩ x).run Try.prog W = .ok (.string (mkS (47 :: bl x))) W := q1
        have HN : Hid (∀ j y, j < i + 1 → xs[j]? = some y → nameE y = 0) := fun j y hj hy => by
          by_cases e : j = i
          · rw [e, e1] at hy; cases hy; exact hx
          · exact HR.out j y (by omega) hy
        clear e1 hx hsm hlen q1 hxs
        generalize hO : mkS (sepB (xs.take (i + 1))) = O2 at *
        have HO := Lib.hid hO
        clear hO
        generalize mkS (sepB (xs.take i)) = O1 at *
        generalize mkS (47 :: bl x) = X1 at *
        go_wp2_with (go_at_call 28; refine HG.out.mono ?_; rintro e w' ⟨rfl, hw'⟩; rw [hw']; clear hw')
        go_roundw
        case rel => exact ⟨i + 1, by omega, by go_num, by rw [HO.out], trivial, HN⟩
        case measure => (simp [intOf]; try omega)
      · have F := Lib.hid (jn_bad e1 hx)
        have he : nameE x = 11 := (name_two x).resolve_left hx
        rw [he] at HG
        clear e1 hx he
        go_wp2_with (go_at_call 28; refine HG.out.mono ?_; rintro e w' ⟨rfl, hw'⟩; rw [hw']; clear hw')
        go_ret2
        exact jnPost F.out (Below.refl _ _)
    · obtain rfl : i = xs.length := by omega
      have hall : ∀ n ∈ xs, nameE n = 0 := fun n hn => by
        obtain ⟨j, hj, e⟩ := List.getElem_of_mem hn
        exact HR.out j n hj (by rw [List.getElem?_eq_getElem hj, e])
      rw [List.take_length]
      by_cases hl : 8 < xs.length
      · have F := Lib.hid (jn_large hall hl)
        have hli : 8 < (xs.length : Int) := by omega
        clear hall hl
        go_wp2
        go_ret2
        exact jnPost F.out (Below.refl _ _)
      · have hli : ¬ 8 < (xs.length : Int) := by omega
        by_cases h0 : xs.length = 0
        · have F := Lib.hid (jn_none h0)
          obtain rfl := List.eq_nil_of_length_eq_zero h0
          clear hall hl h0
          have e0 : mkS (sepB []) = (⟨#[]⟩ : ByteArray) := rfl
          rw [e0]
          go_wp2
          go_ret2
          exact jnPost F.out (Below.refl _ _)
        · have F := Lib.hid (jn_ok hall hl h0)
          have hne : (mkS (sepB xs)).size ≠ 0 := sepB_ne h0
          have u0 := emp_ne hne
          have u1 := emp_ne2 hne
          have u2 := emp_ne3 hne
          clear hall hl h0 hne
          generalize mkS (sepB xs) = S at *
          go_wp2
          go_ret2
          exact jnPost F.out (Below.refl _ _)
end Go.Proofs.Ytfhgglghofhndaa
