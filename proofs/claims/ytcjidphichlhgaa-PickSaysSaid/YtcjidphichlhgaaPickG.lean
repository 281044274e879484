/- linenref.Better and linenref.Order, walked. -/
import Derived.Test.YtcjidphichlhgaaPickF
import Derived.Test.YtcjidphichlhgaaInsI
namespace Go.Proofs.Ytcjidphichlhgaa
open Go.RowKit Pk

theorem bet_of {x y : OneV} {G1 G2 : Int} (h1 : gain x y = G1) (h2 : gain y x = G2) : bet x y = (decide (G2 < G1) || (decide (G1 = G2) && decide (x.at_ < y.at_))) := by subst h1; subst h2; rfl
theorem insi_any (A : Option Addr) (n c i base vb vc : Nat) (cs : List Value) (u0 : Value) (w : World) (hown : Owns w base 1 (.slice A n c) n cs) (hbase : base ≤ w.heap.size) (hn : n ≤ 1000) (hi : i ≤ n) (hne : ∀ g, (Value.slice A n c).ownBlock = some g → vb ≠ g) (hvb : w.heap[vb]? = some (.cells #[u0] 3 (0, 0))) (hu0 : u0.oneCell' = true) (h1 : ∀ v ∈ cs, v.oneCell' = true) :
    Calls Try.prog 11 #[.slice A n c, .int .i64 i, .slice (some ⟨vb, 0, none⟩) 1 vc] w (InsIPost base n (cs.take i ++ [u0] ++ cs.drop i) w) := by
  have hcl : cs.length = n := by have := hown.1; omega
  by_cases hin : i = n
  · subst hin
    have e : cs.take i ++ [u0] ++ cs.drop i = cs ++ [u0] := by rw [List.take_of_length_le (by omega), List.drop_eq_nil_of_le (by omega), List.append_nil]
    rw [e]
    exact insi_end A i c base vb vc cs u0 w hown hbase hn hvb hu0
  · have hlt : i < n := by omega
    rcases hown.2 with ⟨_, h0⟩ | ⟨g, off, cap, e, _, _, hnc, _⟩
    · omega
    · injection e with e1 e2 e3
      subst e1; subst e3
      by_cases hroom : n + 1 ≤ c
      · exact insi_room g off n c i base vb vc cs u0 w hown hn hlt hroom (hne g rfl) hvb hu0 h1
      · obtain rfl : c = n := by omega
        exact insi_grow g off c i base vb vc cs u0 w hown hbase hn hlt hvb hu0 h1
set_option maxRecDepth 20000 in
set_option maxHeartbeats 400000 in
theorem better_any (A : Option Addr) (n c : Nat) (ls : List Int) (A' : Option Addr) (c' : Nat) (gs : List Int) (i k : Nat) (w : World) (r : RowsIn w w.heap.size A n c (fun z => [.int .i64 z]) 1 ls) (r' : RowsIn w w.heap.size A' n c' (fun z => [.int .i64 z]) 1 gs) (hi : i < n) (hk : k < n) (hx : OneOk (item ls gs i)) (hy : OneOk (item ls gs k)) :
    Calls Try.prog 10 #[.slice A n c, .slice A' n c', .int .i64 i, .int .i64 k] w fun e w' => e = .returned (.bool (bet (item ls gs i) (item ls gs k))) ∧ Below w.heap.size w w' := by
  have hl := r.len
  have hl' := r'.len
  have e1 := List.getElem?_eq_getElem (show i < ls.length by omega)
  have e2 := List.getElem?_eq_getElem (show k < ls.length by omega)
  have e3 := List.getElem?_eq_getElem (show i < gs.length by omega)
  have e4 := List.getElem?_eq_getElem (show k < gs.length by omega)
  have q1 : item ls gs i = ⟨(i : Int), ls[i]'(by omega), gs[i]'(by omega)⟩ := by unfold item; rw [List.getD_eq_getElem?_getD, List.getD_eq_getElem?_getD, e1, e3]; rfl
  have q2 : item ls gs k = ⟨(k : Int), ls[k]'(by omega), gs[k]'(by omega)⟩ := by unfold item; rw [List.getD_eq_getElem?_getD, List.getD_eq_getElem?_getD, e2, e4]; rfl
  rw [q1] at hx ⊢
  rw [q2] at hy ⊢
  obtain ⟨b, o, hA, hbB, c1⟩ := r.one e1
  obtain ⟨b2, o2, hA2, _, c2⟩ := r.one e2
  obtain ⟨b', o', hA', hbB', c3⟩ := r'.one e3
  obtain ⟨b2', o2', hA2', _, c4⟩ := r'.one e4
  subst hA; subst hA'
  injection hA2 with hA2; injection hA2 with z1 z2 _; subst z1; subst z2
  injection hA2' with hA2'; injection hA2' with z3 z4 _; subst z3; subst z4
  generalize ls[i]'_ = xl at *
  generalize ls[k]'_ = yl at *
  generalize gs[i]'_ = xa at *
  generalize gs[k]'_ = ya at *
  have i1 : (0 : Int) ≤ (i : Int) := by omega
  have i2 : (i : Int) < (n : Int) := by omega
  have j1 : (0 : Int) ≤ (k : Int) := by omega
  have j2 : (k : Int) < (n : Int) := by omega
  obtain ⟨g1, g2, g3, g4⟩ := gain_bd hx hy
  obtain ⟨g5, g6, g7, g8⟩ := gain_bd hy hx
  have x1 := hx.l0; have x2 := hx.l1; have x3 := hx.a0; have x4 := hx.a1
  have y1 := hy.l0; have y2 := hy.l1; have y3 := hy.a0; have y4 := hy.a1
  simp only [gain] at g1 g2 g3 g4 g5 g6 g7 g8 x1 x2 x3 x4 y1 y2 y3 y4
  obtain ⟨P1, hP1⟩ : ∃ P1, (1000 - xl) * (xa + 1) = P1 := ⟨_, rfl⟩
  obtain ⟨P2, hP2⟩ : ∃ P2, (1000 - yl) * (ya + 1) = P2 := ⟨_, rfl⟩
  rw [hP1] at g1 g2 g3 g4
  rw [hP2] at g5 g6 g7 g8
  obtain ⟨G1, hG1⟩ : ∃ G1, P1 * (1000 + yl) = G1 := ⟨_, rfl⟩
  obtain ⟨G2, hG2⟩ : ∃ G2, P2 * (1000 + xl) = G2 := ⟨_, rfl⟩
  rw [hG1] at g3 g4
  rw [hG2] at g7 g8
  have hbt := bet_of (x := ⟨(i : Int), xl, xa⟩) (y := ⟨(k : Int), yl, ya⟩) (G1 := G1) (G2 := G2) (by show (1000 - xl) * (xa + 1) * (1000 + yl) = G1; rw [hP1, hG1]) (by show (1000 - yl) * (ya + 1) * (1000 + xl) = G2; rw [hP2, hG2])
  have HBT := Lib.hid hbt
  have w1 : IntKind.i64.wrap (1000 - xl) = 1000 - xl := IntWalk.i64_in _ (by omega)
  have w2 : IntKind.i64.wrap (1000 - yl) = 1000 - yl := IntWalk.i64_in _ (by omega)
  have w3 : IntKind.i64.wrap (1000 + xl) = 1000 + xl := IntWalk.i64_in _ (by omega)
  have w4 : IntKind.i64.wrap (1000 + yl) = 1000 + yl := IntWalk.i64_in _ (by omega)
  have w5 : IntKind.i64.wrap (xa + 1) = xa + 1 := IntWalk.i64_in _ (by omega)
  have w6 : IntKind.i64.wrap (ya + 1) = ya + 1 := IntWalk.i64_in _ (by omega)
  have w7 : IntKind.i64.wrap P1 = P1 := IntWalk.i64_in _ (by omega)
  have w8 : IntKind.i64.wrap P2 = P2 := IntWalk.i64_in _ (by omega)
  have w9 : IntKind.i64.wrap G1 = G1 := IntWalk.i64_in _ (by omega)
  have w10 : IntKind.i64.wrap G2 = G2 := IntWalk.i64_in _ (by omega)
  have HB0 : Hid (∀ a, Below w.heap.size w (w.drewN a)) := fun a => below_kQ (Below.refl _ _) a
  clear r r' hl hl' e1 e2 e3 e4 q1 q2 hx hy hbt
  go_enter Try.func10, Try.ntmps10
  go_wp2
  go_quiet (fail)
  go_wp2
  go_quiet (fail)
  go_wp2
  all_goals
    go_ret
    refine ⟨?_, HB0.out _⟩
    rw [HBT.out]
    clear HBT hP1 hP2 hG1 hG2 w7 w8 w9 w10
    refine ret_b1 ?_
    rcases Int.lt_trichotomy G1 G2 with hg | hg | hg
    · have q1 : ¬ G2 < G1 := by omega
      have q2 : ¬ G1 = G2 := by omega
      simp [q1, q2] <;> omega
    · have q1 : ¬ G2 < G1 := by omega
      simp [hg] <;> omega
    · have q2 : ¬ G1 = G2 := by omega
      simp [hg, q2] <;> omega
/-- Where the putting in stands. -/
structure RoI (w : World) (ls gs : List Int) (j : Nat) (V : List OneV) (D : Option Addr) (m d : Nat) (wr : World) : Prop where
  own : Owns wr w.heap.size 1 (.slice D m d) m (V.map (fun x => .int .i64 x.at_))
  perm : V.Perm (itemsK ls gs j)
  srt : SrtO V
  below : Below w.heap.size w wr
theorem RoI.len {w : World} {ls gs : List Int} {j : Nat} {V : List OneV} {D : Option Addr} {m d : Nat} {wr : World} (h : RoI w ls gs j V D m d wr) : V.length = m := by have := h.own.1; simp at this; omega
theorem RoI.on {w : World} {ls gs : List Int} {j : Nat} {V : List OneV} {D : Option Addr} {m d : Nat} {wr w' : World} (h : RoI w ls gs j V D m d wr) (hb : Below wr.heap.size wr w') : RoI w ls gs j V D m d w' := ⟨h.own.fresh_below hb, h.perm, h.srt, h.below.trans (hb.mono h.below.size)⟩
set_option maxRecDepth 20000 in
set_option maxHeartbeats 2000000 in
theorem orderr_any (A : Option Addr) (n c : Nat) (ls : List Int) (A' : Option Addr) (n' c' : Nat) (gs : List Int) (w : World) (r : RowsIn w w.heap.size A n c (fun z => [.int .i64 z]) 1 ls) (r' : RowsIn w w.heap.size A' n' c' (fun z => [.int .i64 z]) 1 gs) :
    Calls Try.prog 5 #[.slice A n c, .slice A' n' c'] w (OrdPost ls gs w) := by
  have hl := r.len
  have hl' := r'.len
  subst hl
  subst hl'
  by_cases h1 : ls.length = gs.length
  · by_cases h2 : 128 < ls.length
    · have hE : ordE ls gs = 2 := by unfold ordE; rw [if_neg (by omega), if_pos h2]
      have F := Lib.hid hE
      have i1 : (128 : Int) < (ls.length : Int) := by omega
      have i2 : ((ls.length : Int) != (gs.length : Int)) = false := by rw [h1]; simp
      rw [← h1] at i2 ⊢
      clear h1 hE
      go_enter Try.func5, Try.ntmps5
      go_wp2
      go_ret2
      exact .inl ⟨by rw [F.out]; decide, by rw [F.out] <;> rfl, Below.refl _ _⟩
    · have i1 : ¬ (128 : Int) < (ls.length : Int) := by omega
      have HR := Lib.hid r
      have HR' := Lib.hid r'
      obtain ⟨N, hN⟩ : ∃ N, N = ls.length := ⟨_, rfl⟩
      have hN' : gs.length = N := by omega
      have hN128 : (N : Int) ≤ 128 := by omega
      have HE : Hid (ordE ls gs = if badL ls gs = true then 1 else 0) := by unfold Hid ordE; rw [if_neg (by omega), if_neg h2]
      have HNL := Lib.hid hN
      have HNG := Lib.hid hN'
      rw [hN'] at HR'
      rw [← hN] at HR i1
      rw [hN', ← hN]
      clear r r' h1 h2 hN hN'
      go_enter Try.func5, Try.ntmps5
      go_wp2
      go_loop [20] (fun v => ∃ j : Nat, v = .int .i64 j ∧ j ≤ N ∧ Hid (∀ i, i < j → badB (ls.getD i 0) (gs.getD i 0) = false)) (fun v => N - (intOf v).toNat)
      case atStart => exact ⟨0, rfl, Nat.zero_le _, fun i hi => by omega⟩
      case round =>
        obtain ⟨j, rfl, hj, HG⟩ := hrel
        by_cases hlt : j < N
        · have e1 := List.getElem?_eq_getElem (show j < ls.length by rw [← HNL.out]; exact hlt)
          have e2 := List.getElem?_eq_getElem (show j < gs.length by rw [HNG.out]; exact hlt)
          have g1 : ls.getD j 0 = ls[j]'(by rw [← HNL.out]; exact hlt) := by rw [List.getD_eq_getElem?_getD, e1]; rfl
          have g2 : gs.getD j 0 = gs[j]'(by rw [HNG.out]; exact hlt) := by rw [List.getD_eq_getElem?_getD, e2]; rfl
          obtain ⟨b, o, hA, hbB, hc⟩ := HR.out.one e1
          obtain ⟨b', o', hA', hbB', hc'⟩ := HR'.out.one e2
          subst hA
          subst hA'
          generalize ls[j]'_ = x at *
          generalize gs[j]'_ = y at *
          have i3 : (j : Int) < (N : Int) := by omega
          have i4 : (0 : Int) ≤ (j : Int) := by omega
          have G1 := Lib.hid g1
          have G2 := Lib.hid g2
          clear e1 e2 g1 g2
          rcases Bool.eq_false_or_eq_true (badB x y) with hb | hb
          · have FE : Hid (ordE ls gs = 1) := by rw [HE.out, if_pos (badL_true (i := j) (by rw [← HNL.out]; exact hlt) (by rw [G1.out, G2.out]; exact hb))]; exact rfl
            rcases badB_true hb with h | ⟨h3, h⟩ | ⟨h3, h4, h⟩ | ⟨h3, h4, h5, h⟩
            all_goals
              clear hb
              go_wp2
              go_ret2
              exact .inl ⟨by rw [FE.out]; decide, by rw [FE.out] <;> rfl, Below.refl _ _⟩
          · obtain ⟨x1, x2, y1, y2⟩ := badB_false hb
            have HG2 : Hid (∀ i, i < j + 1 → badB (ls.getD i 0) (gs.getD i 0) = false) := fun i hi => by
              rcases Nat.lt_or_eq_of_le (Nat.le_of_lt_succ hi) with h | h
              · exact HG.out i h
              · subst h; rw [G1.out, G2.out]; exact hb
            clear hb
            go_wp2
            go_round
            case rel => exact ⟨j + 1, by go_num, by omega, HG2⟩
            case measure => (simp [intOf]; omega)
        · obtain rfl : j = N := by omega
          have hbl : badL ls gs = false := by
            cases hb : badL ls gs with
            | false => rfl
            | true =>
              unfold badL at hb
              rw [List.any_eq_true] at hb
              obtain ⟨i, hi, h⟩ := hb
              rw [HG.out i (by rw [HNL.out]; simpa using hi)] at h
              cases h
          have FE : Hid (ordE ls gs = 0) := by rw [HE.out, hbl]; exact rfl
          have HOK : Hid (∀ k, k ≤ j → ∀ x ∈ itemsK ls gs k, OneOk x) := fun k hk => items_ok hbl k (by rw [← HNL.out]; exact hk)
          have HOI : Hid (∀ i, i < j → OneOk (item ls gs i)) := fun i hi => by
            have := badB_false (badL_false hbl i (by rw [← HNL.out]; exact hi))
            exact ⟨this.1, this.2.1, this.2.2.1, this.2.2.2⟩
          clear hbl HG
          have i5 : ¬ (j : Int) < (j : Int) := by omega
          obtain ⟨N, hNN⟩ : ∃ N, N = j := ⟨_, rfl⟩
          subst hNN
          go_wp2
          go_loopw [7, 52] (fun u v wr => ∃ (j m : Nat) (D : Option Addr) (d : Nat) (V : List OneV), u = .slice D m d ∧ v = .int .i64 j ∧ j ≤ N ∧ m ≤ j ∧ Hid (RoI w ls gs j V D m d wr)) (fun _ v _ => N - (intOf v).toNat)
          case atStart => exact ⟨0, 0, none, 0, [], rfl, rfl, Nat.zero_le _, Nat.le_refl _, Owns.nil _ _ _, List.Perm.refl _, List.Pairwise.nil, Below.refl _ _⟩
          case round =>
            obtain ⟨j, m, D, d, V, rfl, rfl, hj, hmj, HI⟩ := hrel
            have hVl := HI.out.len
            by_cases hlt : j < N
            · have e1 := List.getElem?_eq_getElem (show j < ls.length by rw [← HNL.out]; exact hlt)
              have g1 : ls.getD j 0 = ls[j]'(by rw [← HNL.out]; exact hlt) := by rw [List.getD_eq_getElem?_getD, e1]; rfl
              obtain ⟨b, o, hA, hbB, hc⟩ := (HR.out.below HI.out.below).one e1
              subst hA
              have hx0 := (HOI.out j hlt).l0
              have hit : (item ls gs j).live = ls[j]'(by rw [← HNL.out]; exact hlt) := g1
              rw [hit] at hx0
              generalize ls[j]'_ = x at *
              have G1 := Lib.hid g1
              have i3 : (j : Int) < (N : Int) := by omega
              have i4 : (0 : Int) ≤ (j : Int) := by omega
              clear e1 g1 hit
              by_cases hxz : x = 0
              · have HIT := Lib.hid (itemsK_no (ls := ls) (gs := gs) (k := j) (by rw [G1.out]; omega))
                subst hxz
                go_wp2
                go_roundw
                case rel => exact ⟨j + 1, m, D, d, V, rfl, by go_num, by omega, by omega, HI.out.own, by rw [HIT.out]; exact HI.out.perm, HI.out.srt, HI.out.below⟩
                case measure => (simp [intOf]; omega)
              · have HIT := Lib.hid (itemsK_yes (ls := ls) (gs := gs) (k := j) (by rw [G1.out]; omega))
                have hxb : (x == 0) = false := beq_eq_false_iff_ne.2 hxz
                obtain ⟨wo, rfl⟩ : ∃ z : World, z = wr := ⟨_, rfl⟩
                go_wp2
                go_loopw [9] (fun v wr => ∃ k : Nat, k ≤ m ∧ v = .int .i64 k ∧ Hid (∀ t y, t < k → V[t]? = some y → Le y (item ls gs j)) ∧ Hid (Below wo.heap.size wo wr)) (fun v _ => m - (intOf v).toNat)
                case atStart => exact ⟨0, Nat.zero_le _, rfl, (fun t y ht => by omega), Below.refl _ _⟩
                case round =>
                  obtain ⟨k, hkm, rfl, HLo, HBk⟩ := hrel
                  obtain ⟨wx, rfl⟩ : ∃ z : World, z = wr := ⟨_, rfl⟩
                  have HIX := Lib.hid (HI.out.on HBk.out)
                  by_cases hk : k < m
                  · have ev := List.getElem?_eq_getElem (show k < V.length by omega)
                    have hvm := List.getElem_mem (show k < V.length by omega)
                    obtain ⟨i', hi', hvi⟩ := itemsK_mem (HI.out.perm.mem_iff.1 hvm)
                    rw [hvi] at ev
                    obtain ⟨g, off, cap, e3, _, _, hc3, _⟩ := HIX.out.own.at_ (j := k) (u := .int .i64 (i' : Int)) (by rw [List.getElem?_map, ev]; rfl)
                    injection e3 with e3 _ e4
                    have hd1 : decide (k < m) = true := decide_eq_true hk
                    have k1 : (k : Int) < (m : Int) := by omega
                    have k2 : (0 : Int) ≤ (k : Int) := by omega
                    have HBT := Lib.hid (better_any (some ⟨b, o, none⟩) N c ls A' c' gs i' j wx ((HR.out.below HIX.out.below).more HIX.out.below.size) ((HR'.out.below HIX.out.below).more HIX.out.below.size) (by omega) hlt (HOI.out i' (by omega)) (HOI.out j hlt))
                    have EV := Lib.hid ev
                    subst e3
                    subst e4
                    clear ev hvm hvi hi'
                    rcases Bool.eq_false_or_eq_true (bet (item ls gs i') (item ls gs j)) with hb | hb
                    · have HBB := Lib.hid hb
                      rw [hb] at HBT
                      clear hb
                      go_wp2_with (go_at_call 10; refine HBT.out.mono ?_; rintro e5 w2 ⟨rfl, hb2⟩; have HB2 := Lib.hid (HBk.out.trans (hb2.mono HBk.out.size)); clear hb2)
                      go_roundw
                      case rel =>
                        refine ⟨k + 1, by omega, by go_num, Lib.hid (fun t y ht hy => ?_), HB2⟩
                        rcases Nat.lt_or_eq_of_le (Nat.le_of_lt_succ ht) with h | h
                        · exact HLo.out t y h hy
                        · subst h
                          rw [EV.out] at hy
                          injection hy with hy
                          rw [← hy]; exact le_of_bet HBB.out
                      case measure => (simp [intOf]; omega)
                    · have HHi : Hid (∀ y, V[k]? = some y → Le (item ls gs j) y) := fun y hy => by
                        rw [EV.out] at hy
                        injection hy with hy
                        rw [← hy]; exact hb
                      rw [hb] at HBT
                      clear hb
                      go_upto_region 19 with (go_at_call 10; refine HBT.out.mono ?_; rintro e5 w2 ⟨rfl, hb2⟩; have HIX2 := Lib.hid (HIX.out.on hb2); clear hb2)
                      clear HIX
                      obtain ⟨HIX, wx2, _⟩ : ∃ _ : Hid (RoI w ls gs j V (some ⟨g, off, none⟩) m d w2), ∃ z : World, z = wx := ⟨HIX2, _, rfl⟩
                      obtain ⟨wx, rfl⟩ : ∃ z : World, z = w2 := ⟨_, rfl⟩
                      have hINS : Hid (Calls Try.prog 11 #[.slice (some ⟨g, off, none⟩) m d, .int .i64 k, .slice (some ⟨wx.heap.size, 0, none⟩) 1 1] (wx.alloc (.cells #[.int .i64 j] 3)) (InsIPost w.heap.size m ((V.map (fun x => Value.int .i64 x.at_)).take k ++ [.int .i64 j] ++ (V.map (fun x => Value.int .i64 x.at_)).drop k) (wx.alloc (.cells #[.int .i64 j] 3)))) :=
                        insi_any (some ⟨g, off, none⟩) m d k w.heap.size wx.heap.size 1 _ (.int .i64 j) _ (HIX.out.own.alloc _) (by have := HIX.out.below.size; simp; omega) (by omega) hkm (fun g hg e => by have := (HIX.out.own.lt g hg).2; omega) (heap_alloc_new wx _) rfl (fun v hv => by obtain ⟨y, _, rfl⟩ := List.mem_map.1 hv; rfl)
                      have HST : Hid (∀ (w' : World) (A5 : Option Addr) (c5 : Nat), Owns w' w.heap.size 1 (.slice A5 (m + 1) c5) (m + 1) ((V.map (fun x => Value.int .i64 x.at_)).take k ++ [.int .i64 j] ++ (V.map (fun x => Value.int .i64 x.at_)).drop k) → Below w.heap.size (wx.alloc (.cells #[.int .i64 j] 3)) w' → RoI w ls gs (j + 1) (V.take k ++ [item ls gs j] ++ V.drop k) A5 (m + 1) c5 w') := fun w' A5 c5 ho hb => by
                        refine ⟨?_, ?_, srt_insert HIX.out.srt (fun y hy => HOK.out j hj y (HIX.out.perm.mem_iff.1 hy)) (HOI.out j hlt) HLo.out HHi.out, ((HIX.out.below).alloc HIX.out.below.size _).trans hb⟩
                        · rw [List.map_append, List.map_append, List.map_take, List.map_drop]; exact ho
                        · rw [HIT.out]
                          exact (perm_insert V (item ls gs j) k).trans (List.Perm.append_right _ HIX.out.perm)
                      go_wp2_with (go_at_call 11; refine hINS.out.mono ?_; rintro e5 w9 ⟨A5, c5, rfl, ho5, hb5⟩; have HR9 := Lib.hid (HST.out w9 A5 c5 ho5 hb5); clear ho5 hb5)
                      go_roundw
                      case rel => exact ⟨j + 1, m + 1, A5, c5, _, rfl, by go_num, by omega, by omega, HR9⟩
                      case measure => (simp [intOf]; omega)
                  · obtain rfl : k = m := by omega
                    have hd1 : decide (k < k) = false := decide_eq_false (by omega)
                    have hd2 : ¬ (k : Int) < (k : Int) := by omega
                    have HHi : Hid (∀ y, V[k]? = some y → Le (item ls gs j) y) := fun y hy => by
                      have := (List.getElem?_eq_some_iff.1 hy).1; omega
                    have hINS : Hid (Calls Try.prog 11 #[.slice D k d, .int .i64 k, .slice (some ⟨wx.heap.size, 0, none⟩) 1 1] (wx.alloc (.cells #[.int .i64 j] 3)) (InsIPost w.heap.size k ((V.map (fun x => Value.int .i64 x.at_)).take k ++ [.int .i64 j] ++ (V.map (fun x => Value.int .i64 x.at_)).drop k) (wx.alloc (.cells #[.int .i64 j] 3)))) :=
                      insi_any D k d k w.heap.size wx.heap.size 1 _ (.int .i64 j) _ (HIX.out.own.alloc _) (by have := HIX.out.below.size; simp; omega) (by omega) hkm (fun g hg e => by have := (HIX.out.own.lt g hg).2; omega) (heap_alloc_new wx _) rfl (fun v hv => by obtain ⟨y, _, rfl⟩ := List.mem_map.1 hv; rfl)
                    have HST : Hid (∀ (w' : World) (A5 : Option Addr) (c5 : Nat), Owns w' w.heap.size 1 (.slice A5 (k + 1) c5) (k + 1) ((V.map (fun x => Value.int .i64 x.at_)).take k ++ [.int .i64 j] ++ (V.map (fun x => Value.int .i64 x.at_)).drop k) → Below w.heap.size (wx.alloc (.cells #[.int .i64 j] 3)) w' → RoI w ls gs (j + 1) (V.take k ++ [item ls gs j] ++ V.drop k) A5 (k + 1) c5 w') := fun w' A5 c5 ho hb => by
                      refine ⟨?_, ?_, srt_insert HIX.out.srt (fun y hy => HOK.out j hj y (HIX.out.perm.mem_iff.1 hy)) (HOI.out j hlt) HLo.out HHi.out, ((HIX.out.below).alloc HIX.out.below.size _).trans hb⟩
                      · rw [List.map_append, List.map_append, List.map_take, List.map_drop]; exact ho
                      · rw [HIT.out]
                        exact (perm_insert V (item ls gs j) k).trans (List.Perm.append_right _ HIX.out.perm)
                    go_wp2_with (go_at_call 11; refine hINS.out.mono ?_; rintro e5 w9 ⟨A5, c5, rfl, ho5, hb5⟩; have HR9 := Lib.hid (HST.out w9 A5 c5 ho5 hb5); clear ho5 hb5)
                    go_roundw
                    case rel => exact ⟨j + 1, k + 1, A5, c5, _, rfl, by go_num, by omega, by omega, HR9⟩
                    case measure => (simp [intOf]; omega)
            · obtain rfl : j = N := by omega
              have HRW : Hid (RowsIn wr wr.heap.size D m d (fun z => [.int .i64 z]) 1 (V.map OneV.at_)) := by
                have h := HI.out.own
                rw [show V.map (fun x => Value.int .i64 x.at_) = (V.map OneV.at_).flatMap (fun z => [Value.int .i64 z]) by rw [flat_oneQ, List.map_map]; rfl] at h
                exact Owns.rows (enc := fun z : Int => [Value.int .i64 z]) (k := 1) (fun _ => rfl) (by decide) h
              have HVL := Lib.hid hVl
              have HPM : Hid (V.Perm (itemsK ls gs ls.length)) := by rw [← HNL.out]; exact HI.out.perm
              have HB := Lib.hid HI.out.below
              have HSR := Lib.hid HI.out.srt
              clear hVl
              go_wp2
              go_ret2
              exact .inr ⟨FE.out, D, d, V, by rw [HVL.out] <;> rfl, by rw [HVL.out]; exact HRW.out, HPM.out, HSR.out, HB.out⟩
  · have hE : ordE ls gs = 1 := by unfold ordE; rw [if_pos h1]
    have F := Lib.hid hE
    have i2 : ((ls.length : Int) != (gs.length : Int)) = true := bne_iff_ne.2 (by omega)
    have i3 : ¬ ls.length = gs.length := h1
    clear hE
    go_enter Try.func5, Try.ntmps5
    go_wp2
    go_ret2
    exact .inl ⟨by rw [F.out]; decide, by rw [F.out] <;> rfl, Below.refl _ _⟩
end Go.Proofs.Ytcjidphichlhgaa
