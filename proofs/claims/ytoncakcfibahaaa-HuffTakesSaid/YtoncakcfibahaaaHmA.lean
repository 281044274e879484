/- huff.merged, walked. -/
import Derived.Test.YtoncakcfibahaaaHsA
import Derived.Test.YtoncakcfibahaaaAppO
import Derived.Test.YtoncakcfibahaaaSlc
namespace Go.Proofs.Ytoncakcfibahaaa
open Go.RowKit

def leV (x y : CoinV) : Bool := decide (x.worth ≤ y.worth)
theorem info_coin : (Try.prog.info? 34).map (fun i => (i.zero, i.size, i.bytes)) = some (some (.agg #[.int .i64 0, .slice none 0 0]), 2, 32) := by kernel_rfl
theorem coin_flat (xs : List CoinV) : (xs.flatMap CoinV.cells).length = xs.length * 2 := flat_len (enc := CoinV.cells) (k := 2) (fun _ => rfl) xs
theorem coin_one (xs : List CoinV) : ∀ u ∈ xs.flatMap CoinV.cells, u.oneCell' = true := fun u hu => by
  obtain ⟨y, _, hy⟩ := List.mem_flatMap.1 hu
  simp [CoinV.cells] at hy
  rcases hy with rfl | rfl <;> rfl
theorem coinCells {w : World} {B n c : Nat} {A : Option Addr} {l : List CoinV} (h : RowsIn w B A n c CoinV.cells 2 l) {i : Nat} {x : CoinV} (hx : l[i]? = some x) :
    ∃ b o, A = some ⟨b, o, none⟩ ∧ b < B ∧ w.cell? ⟨b, o + i * 2, none⟩ = some (.int .i64 x.worth) ∧ w.cell? ⟨b, o + i * 2 + 1, none⟩ = some (.slice x.A x.n x.c) := by
  obtain ⟨b, o, e, hb, hc⟩ := h.at_ i x hx
  exact ⟨b, o, e, hb, hc 0 _ rfl, hc 1 _ rfl⟩
theorem below_k {B : Nat} {w0 W : World} (h : Below B w0 W) : ∀ m : Nat, Below B w0 (W.drewN m)
  | 0 => h
  | m + 1 => (below_k h m).drew
/-- Where the merge stands. -/
structure MgI (w : World) (T : List CoinV) (A : Option Addr) (n c : Nat) (la : List CoinV) (A' : Option Addr) (n' c' : Nat) (lb : List CoinV) (D : Option Addr) (m d : Nat) (out : List CoinV) (wr : World) : Prop where
  r : RowsIn wr w.heap.size A n c CoinV.cells 2 la
  r' : RowsIn wr w.heap.size A' n' c' CoinV.cells 2 lb
  own : Owns wr w.heap.size 2 (.slice D m d) m (out.flatMap CoinV.cells)
  below : Below w.heap.size w wr
  eq : out ++ List.merge la lb leV = T
  len : m + n + n' ≤ 20000
theorem MgI.drewN {w : World} {T : List CoinV} {A : Option Addr} {n c : Nat} {la : List CoinV} {A' : Option Addr} {n' c' : Nat} {lb : List CoinV} {D : Option Addr} {m d : Nat} {out : List CoinV} {wr : World} (h : MgI w T A n c la A' n' c' lb D m d out wr) {k : Nat} : MgI w T A n c la A' n' c' lb D m d out (wr.drewN k) :=
  ⟨h.r.drewN k, h.r'.drewN k, h.own.drewN k, below_k h.below k, h.eq, h.len⟩
theorem mg_keep {w w1 w2 : World} (h1 : Below w.heap.size w w1) (h2 : Below w.heap.size w w2) (p : Addr) (hp : p.block < w.heap.size) : w2.cell? p = w1.cell? p := (h2.cell hp).trans (h1.cell hp).symm
theorem mg_left {x y : CoinV} {la lb : List CoinV} (h : decide (x.worth ≤ y.worth) = true) : List.merge (x :: la) (y :: lb) leV = x :: List.merge la (y :: lb) leV := by
  rw [List.merge.eq_def]; simp [leV, h]
theorem mg_right {x y : CoinV} {la lb : List CoinV} (h : decide (x.worth ≤ y.worth) = false) : List.merge (x :: la) (y :: lb) leV = y :: List.merge (x :: la) lb leV := by
  rw [List.merge.eq_def]; simp [leV, h]
set_option maxRecDepth 20000 in
set_option maxHeartbeats 1000000 in
theorem mrg_any (A : Option Addr) (n c : Nat) (la : List CoinV) (A' : Option Addr) (n' c' : Nat) (lb : List CoinV) (w : World) (r : RowsIn w w.heap.size A n c CoinV.cells 2 la) (r' : RowsIn w w.heap.size A' n' c' CoinV.cells 2 lb) (hn : n + n' ≤ 20000) :
    Calls Try.prog 13 #[.slice A n c, .slice A' n' c'] w fun e w' => ∃ D d, e = .returned (.slice D (n + n') d) ∧ Owns w' w.heap.size 2 (.slice D (n + n') d) (n + n') ((List.merge la lb leV).flatMap CoinV.cells) ∧ Below w.heap.size w w' := by
  have hI0 : MgI w (List.merge la lb leV) A n c la A' n' c' lb none 0 0 [] w := ⟨r, r', Owns.nil _ _ _, Below.refl _ _, by simp, by omega⟩
  generalize List.merge la lb leV = T at *
  have HI0 := Lib.hid hI0
  obtain ⟨N, hN⟩ : ∃ N, n + n' = N := ⟨_, rfl⟩
  have HN := Lib.hid hN
  rw [hN]
  clear r r' hI0 hN
  go_enter Try.func13, Try.ntmps13
  go_wp2
  go_loopw [0, 1, 5] (fun u v x wr => ∃ (A : Option Addr) (n c : Nat) (la : List CoinV) (A' : Option Addr) (n' c' : Nat) (lb : List CoinV) (D : Option Addr) (m d : Nat) (out : List CoinV), u = .slice A n c ∧ v = .slice A' n' c' ∧ x = .slice D m d ∧ Hid (m + n + n' = N) ∧ Hid (MgI w T A n c la A' n' c' lb D m d out wr)) (fun u v _ _ => (match u with | .slice _ n _ => n | _ => 0) + (match v with | .slice _ n _ => n | _ => 0))
  case atStart => exact ⟨A, n, c, la, A', n', c', lb, none, 0, 0, [], rfl, rfl, rfl, Lib.hid (by have := HN.out; omega), HI0⟩
  case round =>
    clear HI0 HN
    obtain ⟨A, n, c, la, A', n', c', lb, D, m, d, out, rfl, rfl, rfl, hN, HI⟩ := hrel
    have hla := HI.out.r.len
    have hlb := HI.out.r'.len
    have hlen := HI.out.len
    have hlo := HI.out.own.1
    rw [coin_flat] at hlo
    by_cases h0 : 0 < n
    · by_cases h1 : 0 < n'
      · obtain ⟨x, la', rfl⟩ : ∃ x l, la = x :: l := by
          cases la with
          | nil => simp at hla; omega
          | cons x l => exact ⟨x, l, rfl⟩
        obtain ⟨y, lb', rfl⟩ : ∃ x l, lb = x :: l := by
          cases lb with
          | nil => simp at hlb; omega
          | cons x l => exact ⟨x, l, rfl⟩
        obtain ⟨b, o, rfl, hbB, cx0, cx1⟩ := coinCells HI.out.r (i := 0) (x := x) rfl
        obtain ⟨b', o', rfl, hbB', cy0, cy1⟩ := coinCells HI.out.r' (i := 0) (x := y) rfl
        simp only [Nat.zero_mul, Nat.add_zero] at cx0 cx1 cy0 cy1
        have hn1 : (0 : Int) < (n : Int) := by omega
        have hn2 : (0 : Int) < (n' : Int) := by omega
        have hsz := HI.out.below.size
        have hba : b < wr.heap.size := by omega
        have hbb : b' < wr.heap.size := by omega
        rcases Bool.eq_false_or_eq_true (decide (x.worth ≤ y.worth)) with hxy | hxy
        · go_wp2
          go_quiet (fail)
          have HI1 : Hid (MgI w T (some ⟨b, o, none⟩) n c (x :: la') (some ⟨b', o', none⟩) n' c' (y :: lb') D m d out (wr.drewN nq)) := Lib.hid HI.out.drewN
          have hsz1 : w.heap.size ≤ (wr.drewN nq).heap.size := hsz
          have ca0 : (wr.drewN nq).cell? ⟨b, o, none⟩ = some (.int .i64 x.worth) := cx0
          have ca1 : (wr.drewN nq).cell? ⟨b, o + 1, none⟩ = some (.slice x.A x.n x.c) := cx1
          generalize wr.drewN nq = w1 at *
          have GO : Hid (Owns (w1.alloc (.cells #[.int .i64 x.worth, .slice x.A x.n x.c] 34)).drew w.heap.size 2 (.slice D m d) m (out.flatMap CoinV.cells)) := (HI1.out.own.alloc _).drew
          have GB : Hid (w.heap.size ≤ (w1.alloc (.cells #[.int .i64 x.worth, .slice x.A x.n x.c] 34)).drew.heap.size) := Lib.hid (by simp; omega)
          have GH : Hid ((w1.alloc (.cells #[.int .i64 x.worth, .slice x.A x.n x.c] 34)).drew.heap[w1.heap.size]? = some (.cells #[.int .i64 x.worth, .slice x.A x.n x.c] 34)) := heap_alloc_new w1 _
          have GZ : Hid (Below w.heap.size w (w1.alloc (.cells #[.int .i64 x.worth, .slice x.A x.n x.c] 34)).drew) := (HI1.out.below.alloc hsz1 _).drew
          have G2 : Hid (∀ u ∈ (#[.int .i64 x.worth, .slice x.A x.n x.c] : Array Value).toList, u.oneCell' = true) := by simp [Hid, Value.oneCell']
          have G3 : Hid (m + 1 ≤ maxLen ∧ (m + 1) * 32 ≤ 140737488355328) := by unfold maxLen Hid; omega
          have G4 : Hid (0 < 2) := by simp [Hid]
          obtain ⟨A3, hA3⟩ : ∃ A3, (if c = 1 then (some ⟨b, o, none⟩ : Option Addr) else some ⟨b, o + 2, none⟩) = A3 := ⟨_, rfl⟩
          obtain ⟨n3, hn3⟩ : ∃ n3, n - 1 = n3 := ⟨_, rfl⟩
          obtain ⟨c3, hc3⟩ : ∃ c3, c - 1 = c3 := ⟨_, rfl⟩
          have hR3 : RowsIn w1 w.heap.size A3 n3 c3 CoinV.cells 2 la' := by
            have := HI1.out.r.suf_any (n := 1) (by omega)
            rw [Nat.one_mul, hA3, hn3, hc3] at this
            exact this
          have HR3 := Lib.hid hR3
          have HN3 := Lib.hid hn3
          have hn1' : (1 : Int) ≤ (n : Int) := by omega
          clear hR3
          go_wp2
          go_region_law (refine step_app1 (P := Try.prog) (e := 34) (z := .agg #[.int .i64 0, .slice none 0 0]) (size := 2) (bytes := 32) (base := w.heap.size) rfl (.tmp 23) (.tmp 27) 32 rfl Try.underlying32 info_coin rfl G4.out D m d (out.flatMap CoinV.cells) (by simp [go_sem]) GO.out GB.out w1.heap.size 1 #[.int .i64 x.worth, .slice x.A x.n x.c] 34 (by simp [go_sem]) GH.out rfl G2.out G3.out.1 G3.out.2 ?_; intro A2 c2 w2 hown2 hl2 hn2)
          all_goals
            have HL2 := Lib.hid hl2
            have HO2 := Lib.hid hown2
            clear hown2 hl2 hn2 hA3 hn3 hc3
            go_wp2
            go_roundw
            case rel =>
              have hb2 : Below w.heap.size w w2 := HL2.out.below (Nat.le_refl _) GZ.out
              refine ⟨_, _, _, ⟨A3, n3, c3, rfl, la', some ⟨b', o', none⟩, n', c', rfl, y :: lb', A2, m + 1, c2, rfl, Lib.hid (by have := hN.out; have := HN3.out; omega), out ++ [x], Lib.hid ⟨HR3.out.keep (fun p hp => ?_), HI1.out.r'.keep (fun p hp => ?_), ?_, hb2, ?_, by have := HN3.out; omega⟩⟩, rfl, rfl, rfl⟩
              · exact mg_keep HI1.out.below hb2 p hp
              · exact mg_keep HI1.out.below hb2 p hp
              · have := HO2.out
                rw [List.flatMap_append]
                simpa [CoinV.cells] using this
              · rw [← HI1.out.eq, mg_left hxy]; simp
            case measure => (have := HN3.out; simp; omega)
        · go_wp2
          go_quiet (fail)
          have HI1 : Hid (MgI w T (some ⟨b, o, none⟩) n c (x :: la') (some ⟨b', o', none⟩) n' c' (y :: lb') D m d out (wr.drewN nq)) := Lib.hid HI.out.drewN
          have hsz1 : w.heap.size ≤ (wr.drewN nq).heap.size := hsz
          have ca0 : (wr.drewN nq).cell? ⟨b', o', none⟩ = some (.int .i64 y.worth) := cy0
          have ca1 : (wr.drewN nq).cell? ⟨b', o' + 1, none⟩ = some (.slice y.A y.n y.c) := cy1
          generalize wr.drewN nq = w1 at *
          have GO : Hid (Owns (w1.alloc (.cells #[.int .i64 y.worth, .slice y.A y.n y.c] 34)).drew w.heap.size 2 (.slice D m d) m (out.flatMap CoinV.cells)) := (HI1.out.own.alloc _).drew
          have GB : Hid (w.heap.size ≤ (w1.alloc (.cells #[.int .i64 y.worth, .slice y.A y.n y.c] 34)).drew.heap.size) := Lib.hid (by simp; omega)
          have GH : Hid ((w1.alloc (.cells #[.int .i64 y.worth, .slice y.A y.n y.c] 34)).drew.heap[w1.heap.size]? = some (.cells #[.int .i64 y.worth, .slice y.A y.n y.c] 34)) := heap_alloc_new w1 _
          have GZ : Hid (Below w.heap.size w (w1.alloc (.cells #[.int .i64 y.worth, .slice y.A y.n y.c] 34)).drew) := (HI1.out.below.alloc hsz1 _).drew
          have G2 : Hid (∀ u ∈ (#[.int .i64 y.worth, .slice y.A y.n y.c] : Array Value).toList, u.oneCell' = true) := by simp [Hid, Value.oneCell']
          have G3 : Hid (m + 1 ≤ maxLen ∧ (m + 1) * 32 ≤ 140737488355328) := by unfold maxLen Hid; omega
          have G4 : Hid (0 < 2) := by simp [Hid]
          obtain ⟨A3, hA3⟩ : ∃ A3, (if c' = 1 then (some ⟨b', o', none⟩ : Option Addr) else some ⟨b', o' + 2, none⟩) = A3 := ⟨_, rfl⟩
          obtain ⟨n3, hn3⟩ : ∃ n3, n' - 1 = n3 := ⟨_, rfl⟩
          obtain ⟨c3, hc3⟩ : ∃ c3, c' - 1 = c3 := ⟨_, rfl⟩
          have hR3 : RowsIn w1 w.heap.size A3 n3 c3 CoinV.cells 2 lb' := by
            have := HI1.out.r'.suf_any (n := 1) (by omega)
            rw [Nat.one_mul, hA3, hn3, hc3] at this
            exact this
          have HR3 := Lib.hid hR3
          have HN3 := Lib.hid hn3
          have hn1' : (1 : Int) ≤ (n' : Int) := by omega
          clear hR3
          go_wp2
          go_region_law (refine step_app1 (P := Try.prog) (e := 34) (z := .agg #[.int .i64 0, .slice none 0 0]) (size := 2) (bytes := 32) (base := w.heap.size) rfl (.tmp 31) (.tmp 35) 32 rfl Try.underlying32 info_coin rfl G4.out D m d (out.flatMap CoinV.cells) (by simp [go_sem]) GO.out GB.out w1.heap.size 1 #[.int .i64 y.worth, .slice y.A y.n y.c] 34 (by simp [go_sem]) GH.out rfl G2.out G3.out.1 G3.out.2 ?_; intro A2 c2 w2 hown2 hl2 hn2)
          all_goals
            have HL2 := Lib.hid hl2
            have HO2 := Lib.hid hown2
            clear hown2 hl2 hn2 hA3 hn3 hc3
            go_wp2
            go_roundw
            case rel =>
              have hb2 : Below w.heap.size w w2 := HL2.out.below (Nat.le_refl _) GZ.out
              refine ⟨_, _, _, ⟨some ⟨b, o, none⟩, n, c, rfl, x :: la', A3, n3, c3, rfl, lb', A2, m + 1, c2, rfl, Lib.hid (by have := hN.out; have := HN3.out; omega), out ++ [y], Lib.hid ⟨HI1.out.r.keep (fun p hp => ?_), HR3.out.keep (fun p hp => ?_), ?_, hb2, ?_, by have := HN3.out; omega⟩⟩, rfl, rfl, rfl⟩
              · exact mg_keep HI1.out.below hb2 p hp
              · exact mg_keep HI1.out.below hb2 p hp
              · have := HO2.out
                rw [List.flatMap_append]
                simpa [CoinV.cells] using this
              · rw [← HI1.out.eq, mg_right hxy]; simp
            case measure => (have := HN3.out; simp; omega)
      · have hb0 : lb = [] := List.eq_nil_of_length_eq_zero (by omega)
        have hd1 : decide (0 < n') = false := decide_eq_false h1
        have hT : T = out ++ (la ++ lb) := by rw [← HI.out.eq, hb0]; cases la <;> simp
        have HT := Lib.hid hT
        clear hb0 hT
        have HSA : Hid (∀ W, Below w.heap.size w W → Src W A n (la.flatMap CoinV.cells)) := fun W hW => src_rows (enc := CoinV.cells) (k := 2) (fun _ => rfl) (by decide) (HI.out.r.keep (fun p hp => mg_keep HI.out.below hW p hp))
        have HSB : Hid (∀ W, Below w.heap.size w W → Src W A' n' (lb.flatMap CoinV.cells)) := fun W hW => src_rows (enc := CoinV.cells) (k := 2) (fun _ => rfl) (by decide) (HI.out.r'.keep (fun p hp => mg_keep HI.out.below hW p hp))
        have L1 : Hid ((la.flatMap CoinV.cells).length = n * 2) := Lib.hid (by rw [coin_flat, hla])
        have L2 : Hid ((lb.flatMap CoinV.cells).length = n' * 2) := Lib.hid (by rw [coin_flat, hlb])
        have M1 : Hid (∀ u ∈ la.flatMap CoinV.cells, u.oneCell' = true) := coin_one la
        have M2 : Hid (∀ u ∈ lb.flatMap CoinV.cells, u.oneCell' = true) := coin_one lb
        have hsz := HI.out.below.size
        have B1 : Hid (m + n ≤ maxLen ∧ (m + n) * 32 ≤ 140737488355328 ∧ m + n + n' ≤ maxLen ∧ (m + n + n') * 32 ≤ 140737488355328) := by unfold maxLen Hid; omega
        clear hla hlb hlo
        go_wp2_with (first
          | (at_builtin; refine wpList_appO rfl (.tmp 39) (.tmp 40) 32 rfl Try.underlying32 info_coin rfl (by decide) HI.out.own rfl hsz A n c rfl (la.flatMap CoinV.cells) L1.out (HSA.out _ HI.out.below) M1.out B1.out.1 B1.out.2.1 ?_; intro A3 c3 w3 hown3 hl3 hbk3; have HO3 := Lib.hid hown3; have HB3 := Lib.hid (hl3.below (Nat.le_refl _) HI.out.below); have hz3 := Lib.hid HB3.out.size; clear hown3 hl3 hbk3)
          | (at_builtin; refine wpList_appO rfl (.tmp 41) (.tmp 42) 32 rfl Try.underlying32 info_coin rfl (by decide) HO3.out rfl hz3.out A' n' c' rfl (lb.flatMap CoinV.cells) L2.out (HSB.out _ HB3.out) M2.out B1.out.2.2.1 B1.out.2.2.2 ?_; intro A4 c4 w4 hown4 hl4 hbk4; have HO4 := Lib.hid hown4; have HB4 := Lib.hid (hl4.below (Nat.le_refl _) HB3.out); clear hown4 hl4 hbk4))
        go_ret
        refine ⟨A4, c4, by rw [← hN.out] <;> rfl, ?_, HB4.out⟩
        rw [HT.out, List.flatMap_append, List.flatMap_append, ← List.append_assoc, ← hN.out]
        exact HO4.out
    · have hb0 : la = [] := List.eq_nil_of_length_eq_zero (by omega)
      have hd1 : decide (0 < n) = false := decide_eq_false h0
      have hT : T = out ++ (la ++ lb) := by rw [← HI.out.eq, hb0]; simp
      have HT := Lib.hid hT
      clear hb0 hT
      have HSA : Hid (∀ W, Below w.heap.size w W → Src W A n (la.flatMap CoinV.cells)) := fun W hW => src_rows (enc := CoinV.cells) (k := 2) (fun _ => rfl) (by decide) (HI.out.r.keep (fun p hp => mg_keep HI.out.below hW p hp))
      have HSB : Hid (∀ W, Below w.heap.size w W → Src W A' n' (lb.flatMap CoinV.cells)) := fun W hW => src_rows (enc := CoinV.cells) (k := 2) (fun _ => rfl) (by decide) (HI.out.r'.keep (fun p hp => mg_keep HI.out.below hW p hp))
      have L1 : Hid ((la.flatMap CoinV.cells).length = n * 2) := Lib.hid (by rw [coin_flat, hla])
      have L2 : Hid ((lb.flatMap CoinV.cells).length = n' * 2) := Lib.hid (by rw [coin_flat, hlb])
      have M1 : Hid (∀ u ∈ la.flatMap CoinV.cells, u.oneCell' = true) := coin_one la
      have M2 : Hid (∀ u ∈ lb.flatMap CoinV.cells, u.oneCell' = true) := coin_one lb
      have hsz := HI.out.below.size
      have B1 : Hid (m + n ≤ maxLen ∧ (m + n) * 32 ≤ 140737488355328 ∧ m + n + n' ≤ maxLen ∧ (m + n + n') * 32 ≤ 140737488355328) := by unfold maxLen Hid; omega
      clear hla hlb hlo
      go_wp2_with (first
        | (at_builtin; refine wpList_appO rfl (.tmp 39) (.tmp 40) 32 rfl Try.underlying32 info_coin rfl (by decide) HI.out.own rfl hsz A n c rfl (la.flatMap CoinV.cells) L1.out (HSA.out _ HI.out.below) M1.out B1.out.1 B1.out.2.1 ?_; intro A3 c3 w3 hown3 hl3 hbk3; have HO3 := Lib.hid hown3; have HB3 := Lib.hid (hl3.below (Nat.le_refl _) HI.out.below); have hz3 := Lib.hid HB3.out.size; clear hown3 hl3 hbk3)
        | (at_builtin; refine wpList_appO rfl (.tmp 41) (.tmp 42) 32 rfl Try.underlying32 info_coin rfl (by decide) HO3.out rfl hz3.out A' n' c' rfl (lb.flatMap CoinV.cells) L2.out (HSB.out _ HB3.out) M2.out B1.out.2.2.1 B1.out.2.2.2 ?_; intro A4 c4 w4 hown4 hl4 hbk4; have HO4 := Lib.hid hown4; have HB4 := Lib.hid (hl4.below (Nat.le_refl _) HB3.out); clear hown4 hl4 hbk4))
      go_ret
      refine ⟨A4, c4, by rw [← hN.out] <;> rfl, ?_, HB4.out⟩
      rw [HT.out, List.flatMap_append, List.flatMap_append, ← List.append_assoc, ← hN.out]
      exact HO4.out
end Go.Proofs.Ytoncakcfibahaaa
