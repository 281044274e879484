/- pick.Order, walked. -/
import Derived.Test.YtcjidphichlhgaaPickE
import Derived.Test.YtcjidphichlhgaaPickQ
import Derived.Test.YtcjidphichlhgaaAppO
namespace Go.Proofs.Ytcjidphichlhgaa
open Go.RowKit Pk

def cells3 (x : OneV) : List Value := [.int .i64 x.at_, .int .i64 x.live, .int .i64 x.age]
theorem info_one : (Try.prog.info? 30).map (fun i => (i.zero, i.size, i.bytes)) = some (some (.agg #[.int .i64 0, .int .i64 0, .int .i64 0]), 3, 24) := by kernel_rfl
theorem info_intQ : (Try.prog.info? 3).map (fun i => (i.zero, i.size, i.bytes)) = some (some (.int .i64 0), 1, 8) := by kernel_rfl
theorem run_ta : ∀ (a b c : Int) (W : World), (Instr.typeAssert (.iface 30 (.agg #[.int .i64 a, .int .i64 b, .int .i64 c])) 20 30 false).run Try.prog W = .ok (.agg #[.int .i64 a, .int .i64 b, .int .i64 c]) W := fun a b c W => by kernel_rfl
theorem run_fd : ∀ (a b c : Int) (W : World), (Instr.field 30 (.agg #[.int .i64 a, .int .i64 b, .int .i64 c]) 0).run Try.prog W = .ok (.int .i64 a) W := fun a b c W => by kernel_rfl
theorem flat_oneQ {α : Type} (f : α → Value) : ∀ xs : List α, xs.flatMap (fun z => [f z]) = xs.map f
  | [] => rfl
  | x :: l => by rw [List.flatMap_cons, flat_oneQ f l]; rfl
theorem below_kQ {B : Nat} {w0 W : World} (h : Below B w0 W) : ∀ m : Nat, Below B w0 (W.drewN m)
  | 0 => h
  | m + 1 => (below_kQ h m).drew
/-- Where the queue stands as it is filled: its box Q, and the elements so far. -/
structure QcI (w : World) (Q : Nat) (D : Option Addr) (m d : Nat) (xs : List OneV) (wr : World) : Prop where
  q : wr.cell? ⟨Q, 0, none⟩ = some (.slice D m d)
  qf : wr.frozen? ⟨Q, 0, none⟩ = false
  own : Owns wr (Q + 1) 3 (.slice D m d) m (xs.flatMap cells3)
  below : Below w.heap.size w wr
  ge : w.heap.size ≤ Q
  lt : Q < wr.heap.size
theorem QcI.step {w wr w2 : World} {Q m d : Nat} {D : Option Addr} {xs : List OneV} {x : OneV} {c : Obj} {A5 : Option Addr} {c5 : Nat} (h : QcI w Q D m d xs wr) (ho : Owns w2 (Q + 1) 3 (.slice A5 (m + 1) c5) (m + 1) (xs.flatMap cells3 ++ (#[.int .i64 x.at_, .int .i64 x.live, .int .i64 x.age] : Array Value).toList))
    (hl : Left (wr.alloc c).drew w2 (Q + 1) (Value.slice D m d).ownBlock) : QcI w Q A5 (m + 1) c5 (xs ++ [x]) (w2.setCell ⟨Q, 0, none⟩ (.slice A5 (m + 1) c5)) := by
  have hs := hl.size
  have hsz : (wr.alloc c).drew.heap.size = wr.heap.size + 1 := World.size_alloc _ _
  have hne : (Value.slice D m d).ownBlock ≠ some Q := fun e => by have := (h.own.lt _ e).1; omega
  have hcell : w2.cell? ⟨Q, 0, none⟩ = some (.slice D m d) := hl.cell (p := ⟨Q, 0, none⟩) (by
    have := World.cell?_alloc_lt wr c ⟨Q, 0, none⟩ h.lt
    exact this.trans h.q) hne
  have hfz : w2.frozen? ⟨Q, 0, none⟩ = false := by
    rw [hl.frozen (p := ⟨Q, 0, none⟩) (show Q < _ by rw [hsz]; have := h.lt; omega) hne]
    have := ((Below.refl wr.heap.size wr).alloc (Nat.le_refl _) c).frozen (p := ⟨Q, 0, none⟩) h.lt
    exact this.trans h.qf
  refine ⟨World.cell?_setCell_same' _ _ _ (by rw [hcell]; rfl), by rw [World.frozen?_setCell]; exact hfz, ?_, ?_, h.ge, by have := h.lt; simp [World.setCell]; omega⟩
  · rw [List.flatMap_append]
    have := ho.setOther (p := ⟨Q, 0, none⟩) (fun e => by have h5 : Q + 1 ≤ Q := (ho.lt _ e).1; omega) (.slice A5 (m + 1) c5)
    simpa [cells3] using this
  · refine (hl.below (by have := h.ge; omega) ?_).setCell h.ge _
    exact (h.below.alloc h.below.size c).drew
theorem QSt.move {w0 w w' : World} {Q b o c N n : Nat} {l : List OneV} (h : QSt w0 Q b o c N n l w) (hb : w'.heap[b]? = w.heap[b]?) (hQ : w'.heap[Q]? = w.heap[Q]?) (hs : w.heap.size ≤ w'.heap.size) : QSt w' Q b o c N n l w' := by
  have hc : ∀ j, w'.cell? ⟨b, j, none⟩ = w.cell? ⟨b, j, none⟩ := fun j => World.cell?_of_block (w := w) (a := ⟨b, j, none⟩) hb
  have hf : ∀ j, w'.frozen? ⟨b, j, none⟩ = w.frozen? ⟨b, j, none⟩ := fun j => World.frozen?_of_block (w := w) (a := ⟨b, j, none⟩) hb
  have h1 := h.ltb; have h2 := h.ltQ; have h3 := h.gr.size
  exact ⟨(World.cell?_of_block (w := w) (a := ⟨Q, 0, none⟩) hQ).trans h.q, (World.frozen?_of_block (w := w) (a := ⟨Q, 0, none⟩) hQ).trans h.qf, h.len, fun i x hx => (hc _).trans (h.c0 i x hx), fun i x hx => (hc _).trans (h.c1 i x hx), fun i x hx => (hc _).trans (h.c2 i x hx),
    fun i hi => (hf _).trans (h.f0 i hi), fun i hi => (hf _).trans (h.f1 i hi), fun i hi => (hf _).trans (h.f2 i hi), h.le, h.cap, h.cap2, Gr2.refl _ _ _, by omega, by omega, h.ne⟩
theorem QSt.self {w0 w : World} {Q b o c N n : Nat} {l : List OneV} (h : QSt w0 Q b o c N n l w) : QSt w Q b o c N n l w := h.move rfl rfl (Nat.le_refl _)
theorem cells3_len (xs : List OneV) : (xs.flatMap cells3).length = xs.length * 3 := flat_len (enc := cells3) (k := 3) (fun _ => rfl) xs
theorem QcI.st {w wr : World} {Q b o m d : Nat} {xs : List OneV} (h : QcI w Q (some ⟨b, o, none⟩) m d xs wr) : QSt wr Q b o d m m xs wr ∧ Q + 1 ≤ b := by
  have hl : xs.length = m := by have := h.own.1; rw [cells3_len] at this; omega
  rcases h.own.2 with ⟨e, _⟩ | ⟨g, off, cap, e, h1, h2, h3, h4, h5, h6⟩
  · cases e
  · injection e with e1 e2 e3
    injection e1 with e1
    injection e1 with e1 e4
    subst e1; subst e4; subst e3
    have hc : ∀ i x, xs[i]? = some x → ∀ j u, (cells3 x)[j]? = some u → wr.cell? ⟨b, o + i * 3 + j, none⟩ = some u := fun i x hx j u hu => by
      rw [Nat.add_assoc]; exact h5 _ u (flat_at (enc := cells3) (k := 3) (fun _ => rfl) xs i x hx j u hu)
    exact ⟨⟨h.q, h.qf, hl, fun i x hx => hc i x hx 0 _ rfl, fun i x hx => hc i x hx 1 _ rfl, fun i x hx => hc i x hx 2 _ rfl, fun i hi => (h6 (i * 3) (by omega)).2, fun i hi => by rw [Nat.add_assoc]; exact (h6 (i * 3 + 1) (by omega)).2, fun i hi => by rw [Nat.add_assoc]; exact (h6 (i * 3 + 2) (by omega)).2,
      Nat.le_refl _, h3, h4, Gr2.refl _ _ _, h2, h.lt, by omega⟩, h1⟩
/-- Where the taking out stands. -/
structure OqI (w : World) (Q b o d m : Nat) (it : List OneV) (n : Nat) (l V : List OneV) (E : Option Addr) (e : Nat) (wr : World) : Prop where
  st : QSt wr Q b o d m n l wr
  heap : HP l 0 n
  own : Owns wr (Q + 1) 1 (.slice E V.length e) V.length (V.map (fun x => .int .i64 x.at_))
  ne : (Value.slice E V.length e).ownBlock ≠ some b
  perm : (V ++ l.take n).Perm it
  lperm : l.Perm it
  srt : SrtO V
  le : ∀ x ∈ V, ∀ y ∈ l.take n, Le x y
  below : Below w.heap.size w wr
  ge : w.heap.size ≤ Q
  bQ : Q + 1 ≤ b
theorem below_gr2 {w wr w' : World} {b Q : Nat} (h : Below w.heap.size w wr) (hg : Gr2 wr b Q w') (h1 : w.heap.size ≤ b) (h2 : w.heap.size ≤ Q) : Below w.heap.size w w' :=
  ⟨hg.os.trans h.os, hg.tape.trans h.tape, hg.output.trans h.output, Nat.le_trans h.size hg.size, fun k hk => (hg.block k (Nat.lt_of_lt_of_le hk h.size) (by omega) (by omega)).trans (h.block k hk)⟩
/-- One is taken out and laid behind the others. -/
theorem OqI.step {w wr wp w2 : World} {Q b o d m n : Nat} {it l l2 V : List OneV} {E : Option Addr} {e : Nat} {A5 : Option Addr} {c5 : Nat} (h : OqI w Q b o d m it n l V E e wr) (hok : ∀ x ∈ it, OneOk x)
    (hq : QSt wr Q b o d m (n - 1) l2 wp) (hp : l2.Perm l) (hh : HP l2 0 (n - 1)) (hf : (l.getD 0 default :: l2.take (n - 1)).Perm (l.take n))
    (ho : Owns w2 (Q + 1) 1 (.slice A5 (V.length + 1) c5) (V.length + 1) (V.map (fun x => .int .i64 x.at_) ++ (#[.int .i64 (l.getD 0 default).at_] : Array Value).toList))
    (hl : Left wp w2 (Q + 1) (Value.slice E V.length e).ownBlock) (hne : Value.ownBlock (.slice A5 (V.length + 1) c5) = (Value.slice E V.length e).ownBlock ∨ ∀ k, Value.ownBlock (.slice A5 (V.length + 1) c5) = some k → wp.heap.size ≤ k) :
    OqI w Q b o d m it (n - 1) l2 (V ++ [l.getD 0 default]) A5 c5 w2 := by
  have hgs := hq.gr.size
  have hQE : (Value.slice E V.length e).ownBlock ≠ some Q := fun q => by have h5 : Q + 1 ≤ Q := (h.own.lt _ q).1; omega
  have hlen : l.length = m := h.st.len
  have hnm := h.st.le
  have hokl : ∀ k, k < n → OneOk (l.getD k default) := fun k hk => by
    rw [List.getD_eq_getElem?_getD, List.getElem?_eq_getElem (by omega)]
    exact hok _ (h.lperm.mem_iff.1 (List.getElem_mem _))
  have htop : ∀ y ∈ l.take n, Le (l.getD 0 default) y := fun y hy => by
    obtain ⟨t, ht, e1⟩ := List.getElem_of_mem hy
    rw [List.length_take] at ht
    rw [List.getElem_take] at e1
    have := heap_top h.heap hokl t t (Nat.le_refl _) (by omega)
    rw [List.getD_eq_getElem?_getD (i := t), List.getElem?_eq_getElem (by omega)] at this
    rw [← e1]; exact this
  have hbw : b < wp.heap.size := by have := h.st.ltb; omega
  have hQw : Q < wp.heap.size := by have := h.st.ltQ; omega
  refine ⟨hq.move (hl.grown.block b hbw (fun q => h.ne q.symm)) (hl.grown.block Q hQw (fun q => hQE q.symm)) hl.size, hh, ?_, fun q => ?_, ?_, hp.trans h.lperm, ?_, fun x hx y hy => ?_, ?_, h.ge, h.bQ⟩
  · rw [List.length_append, List.map_append]; exact ho
  · rw [List.length_append] at q
    rcases hne with q2 | q2
    · simp only [List.length_cons, List.length_nil, Nat.zero_add] at q
      rw [q2] at q; exact h.ne q
    · have := q2 b (by simpa using q); omega
  · refine List.Perm.trans ?_ h.perm
    rw [List.append_assoc]
    exact List.Perm.append_left _ hf
  · refine List.pairwise_append.2 ⟨h.srt, by simp, fun x hx y hy => ?_⟩
    rw [List.mem_singleton] at hy
    rw [hy]
    exact h.le x hx _ (hf.mem_iff.1 (by simp))
  · have hy2 : y ∈ l.take n := hf.mem_iff.1 (List.mem_cons_of_mem _ hy)
    rcases List.mem_append.1 hx with hx | hx
    · exact h.le x hx y hy2
    · rw [List.mem_singleton] at hx; rw [hx]; exact htop y hy2
  · have h1 := below_gr2 h.below hq.gr (by have := h.ge; have := h.bQ; omega) h.ge
    exact hl.below (by have := h.ge; omega) h1
theorem init0_any (Q : Nat) (D : Option Addr) (d : Nat) (w : World) (h : w.cell? ⟨Q, 0, none⟩ = some (.slice D 0 d)) :
    Calls Try.prog 7 #[.iface 32 (.pointer (some ⟨Q, 0, none⟩))] w fun e w' => e = .returned (.tuple #[]) ∧ w = w' := by
  have mL : ∀ k, (method (k + 1) 32 (.pointer (some ⟨Q, 0, none⟩)) "Len").run Try.prog w = .ok (8, .slice D 0 d) w := fun k => run_meth meth_len k Q _ 0 d w h
  have HL := Lib.hid (len_any D 0 d w)
  go_enter Try.func7, Try.ntmps7
  go_wp2_with (go_at_call 8; refine HL.out.mono ?_; rintro e w' ⟨rfl, rfl⟩)
  go_loop [3] (fun v => v = .int .i64 (-1)) (fun _ => 0)
  case atStart => rfl
  case round =>
    subst hrel
    go_wp2
    go_end0
    exact ⟨rfl, rfl⟩
def OrdPost (ls gs : List Int) (w : World) (e : Ending) (w' : World) : Prop :=
  (ordE ls gs ≠ 0 ∧ e = .returned (.tuple #[.slice none 0 0, .int .i64 (ordE ls gs)]) ∧ Below w.heap.size w w') ∨
  (ordE ls gs = 0 ∧ ∃ D d V, e = .returned (.tuple #[.slice D V.length d, .int .i64 0]) ∧ RowsIn w' w'.heap.size D V.length d (fun z => [.int .i64 z]) 1 (V.map OneV.at_) ∧ V.Perm (itemsK ls gs ls.length) ∧ SrtO V ∧ Below w.heap.size w w')
set_option maxRecDepth 20000 in
set_option maxHeartbeats 2000000 in
theorem order_any (A : Option Addr) (n c : Nat) (ls : List Int) (A' : Option Addr) (n' c' : Nat) (gs : List Int) (w : World) (r : RowsIn w w.heap.size A n c (fun z => [.int .i64 z]) 1 ls) (r' : RowsIn w w.heap.size A' n' c' (fun z => [.int .i64 z]) 1 gs) :
    Calls Try.prog 4 #[.slice A n c, .slice A' n' c'] w (OrdPost ls gs w) := by
  have hl := r.len
  have hl' := r'.len
  subst hl
  subst hl'
  by_cases h1 : ls.length = gs.length
  · by_cases h2 : 128 < ls.length
    · have hE : ordE ls gs = 2 := by unfold ordE; rw [if_neg (by omega), if_pos h2]
      have F := Lib.hid hE
      have i1 : (128 : Int) < (ls.length : Int) := by omega
      have i2 : ((ls.length : Int) != (gs.length : Int)) = false := by rw [h1]; simp
      rw [← h1] at i2 ⊢
      clear h1 hE
      go_enter Try.func4, Try.ntmps4
      go_wp2
      go_ret2
      exact .inl ⟨by rw [F.out]; decide, by rw [F.out] <;> rfl, Below.refl _ _⟩
    · have i1 : ¬ (128 : Int) < (ls.length : Int) := by omega
      have HR := Lib.hid r
      have HR' := Lib.hid r'
      obtain ⟨N, hN⟩ : ∃ N, N = ls.length := ⟨_, rfl⟩
      have hN' : gs.length = N := by omega
      have hN128 : (N : Int) ≤ 128 := by omega
      have HE : Hid (ordE ls gs = if badL ls gs = true then 1 else 0) := by unfold Hid ordE; rw [if_neg (by omega), if_neg h2]
      have HNL := Lib.hid hN
      have HNG := Lib.hid hN'
      rw [hN'] at HR'
      rw [← hN] at HR i1
      rw [hN', ← hN]
      have HQ0 : Hid (QcI w w.heap.size none 0 0 [] (w.alloc (.cells #[.slice none 0 0] 28))) := by
        have hh := heap_alloc_new w (.cells #[.slice none 0 0] 28)
        exact ⟨by rw [cell_of_row _ _ _ _ _ _ hh]; rfl, frozen_of_row _ _ _ _ _ hh, Owns.nil _ _ _, (Below.refl _ _).alloc (Nat.le_refl _) _, Nat.le_refl _, by simp⟩
      clear r r' h1 h2 hN hN'
      go_enter Try.func4, Try.ntmps4
      go_wp2
      obtain ⟨Q, hQ⟩ : ∃ Q, Q = w.heap.size := ⟨_, rfl⟩
      rw [← hQ] at HQ0 ⊢
      generalize w.alloc (.cells #[.slice none 0 0] 28) = wa at *
      have HQQ := Lib.hid hQ
      clear hQ
      go_loopw [20] (fun v wr => ∃ (j m : Nat) (D : Option Addr) (d : Nat), v = .int .i64 j ∧ j ≤ N ∧ m ≤ j ∧ Hid (QcI w Q D m d (itemsK ls gs j) wr) ∧ Hid (∀ i, i < j → badB (ls.getD i 0) (gs.getD i 0) = false)) (fun v _ => N - (intOf v).toNat)
      case atStart => exact ⟨0, 0, none, 0, rfl, Nat.zero_le _, Nat.le_refl _, HQ0, fun i hi => by omega⟩
      case round =>
        obtain ⟨j, m, D, d, rfl, hj, hmj, HI, HG⟩ := hrel
        by_cases hlt : j < N
        · have e1 := List.getElem?_eq_getElem (show j < ls.length by rw [← HNL.out]; exact hlt)
          have e2 := List.getElem?_eq_getElem (show j < gs.length by rw [HNG.out]; exact hlt)
          have g1 : ls.getD j 0 = ls[j]'(by rw [← HNL.out]; exact hlt) := by rw [List.getD_eq_getElem?_getD, e1]; rfl
          have g2 : gs.getD j 0 = gs[j]'(by rw [HNG.out]; exact hlt) := by rw [List.getD_eq_getElem?_getD, e2]; rfl
          obtain ⟨b, o, hA, hbB, hc⟩ := (HR.out.below HI.out.below).one e1
          obtain ⟨b', o', hA', hbB', hc'⟩ := (HR'.out.below HI.out.below).one e2
          subst hA
          subst hA'
          generalize ls[j]'_ = x at *
          generalize gs[j]'_ = y at *
          have i3 : (j : Int) < (N : Int) := by omega
          have i4 : (0 : Int) ≤ (j : Int) := by omega
          have G1 := Lib.hid g1
          have G2 := Lib.hid g2
          clear e1 e2 g1 g2
          rcases Bool.eq_false_or_eq_true (badB x y) with hb | hb
          · have FE : Hid (ordE ls gs = 1) := by rw [HE.out, if_pos (badL_true (i := j) (by rw [← HNL.out]; exact hlt) (by rw [G1.out, G2.out]; exact hb))]; exact rfl
            have HB := Lib.hid HI.out.below
            rcases badB_true hb with h | ⟨h3, h⟩ | ⟨h3, h4, h⟩ | ⟨h3, h4, h5, h⟩
            all_goals
              clear hb
              go_wp2
              go_ret2
              exact .inl ⟨by rw [FE.out]; decide, by rw [FE.out] <;> rfl, HB.out⟩
          · obtain ⟨x1, x2, y1, y2⟩ := badB_false hb
            have HG2 : Hid (∀ i, i < j + 1 → badB (ls.getD i 0) (gs.getD i 0) = false) := fun i hi => by
              rcases Nat.lt_or_eq_of_le (Nat.le_of_lt_succ hi) with h | h
              · exact HG.out i h
              · subst h; rw [G1.out, G2.out]; exact hb
            clear hb
            by_cases hx0 : 0 < x
            · have HIT := Lib.hid (itemsK_yes (ls := ls) (gs := gs) (k := j) (by rw [G1.out]; exact hx0))
              have cq := HI.out.q
              have cf := HI.out.qf
              have hQl := HI.out.lt
              have hsz := HI.out.below.size
              have hit : item ls gs j = ⟨(j : Int), x, y⟩ := by unfold item; rw [G1.out, G2.out]
              rw [hit] at HIT
              generalize hX : itemsK ls gs j = X at *
              have GO : Hid (Owns (wr.alloc (.cells #[.int .i64 j, .int .i64 x, .int .i64 y] 30)).drew (Q + 1) 3 (.slice D m d) m (X.flatMap cells3)) := (HI.out.own.alloc _).drew
              have GB : Hid (Q + 1 ≤ (wr.alloc (.cells #[.int .i64 j, .int .i64 x, .int .i64 y] 30)).drew.heap.size) := Lib.hid (by simp; omega)
              have GH : Hid ((wr.alloc (.cells #[.int .i64 j, .int .i64 x, .int .i64 y] 30)).drew.heap[wr.heap.size]? = some (.cells #[.int .i64 j, .int .i64 x, .int .i64 y] 30)) := heap_alloc_new wr _
              have G2' : Hid (∀ u ∈ (#[.int .i64 j, .int .i64 x, .int .i64 y] : Array Value).toList, u.oneCell' = true) := by simp [Hid, Value.oneCell']
              have G3 : Hid (m + 1 ≤ maxLen ∧ (m + 1) * 24 ≤ 140737488355328) := by unfold maxLen Hid; omega
              have G4 : Hid (0 < 3) := by simp [Hid]
              have hbw : b < wr.heap.size := by omega
              have hbw' : b' < wr.heap.size := by omega
              have HX := Lib.hid hX
              clear hX hit
              go_wp2
              go_region_law (refine step_app1 (P := Try.prog) (e := 30) (z := .agg #[.int .i64 0, .int .i64 0, .int .i64 0]) (size := 3) (bytes := 24) (base := Q + 1) rfl (.tmp 47) (.tmp 55) 28 rfl under_q info_one rfl G4.out D m d (X.flatMap cells3) (by simp [go_sem]) GO.out GB.out wr.heap.size 1 #[.int .i64 j, .int .i64 x, .int .i64 y] 30 (by simp [go_sem]) GH.out rfl G2'.out G3.out.1 G3.out.2 ?_; intro A5 c5 w2 hown2 hl2 hn2; have HI2 := Lib.hid (HI.out.step (x := ⟨(j : Int), x, y⟩) hown2 hl2); have hq2 := hl2.cell (p := ⟨Q, 0, none⟩) (v := .slice D m d) ((World.cell?_alloc_lt wr _ ⟨Q, 0, none⟩ hQl).trans cq) (fun e => by have h5 : Q + 1 ≤ Q := (GO.out.lt _ e).1; omega); have hf2 := (hl2.frozen (p := ⟨Q, 0, none⟩) (show Q < _ by simp; omega) (fun e => by have h5 : Q + 1 ≤ Q := (GO.out.lt _ e).1; omega)).trans (show (wr.alloc (.cells #[.int .i64 j, .int .i64 x, .int .i64 y] 30)).frozen? ⟨Q, 0, none⟩ = false from (((Below.refl wr.heap.size wr).alloc (Nat.le_refl _) _).frozen (p := ⟨Q, 0, none⟩) hQl).trans cf); clear hown2 hl2 hn2)
              all_goals
                go_wp2
                go_roundw
                case rel => exact ⟨j + 1, m + 1, A5, c5, by go_num, by omega, by omega, by rw [HIT.out]; exact HI2, HG2⟩
                case measure => (simp [intOf]; omega)
            · have HIT := Lib.hid (itemsK_no (ls := ls) (gs := gs) (k := j) (by rw [G1.out]; exact hx0))
              go_wp2
              go_roundw
              case rel => exact ⟨j + 1, m, D, d, by go_num, by omega, by omega, by rw [HIT.out]; exact HI, HG2⟩
              case measure => (simp [intOf]; omega)
        · obtain rfl : j = N := by omega
          have hbl : badL ls gs = false := by
            cases hb : badL ls gs with
            | false => rfl
            | true =>
              unfold badL at hb
              rw [List.any_eq_true] at hb
              obtain ⟨i, hi, h⟩ := hb
              rw [HG.out i (by rw [HNL.out]; simpa using hi)] at h
              cases h
          have FE : Hid (ordE ls gs = 0) := by rw [HE.out, hbl]; exact rfl
          have hok := items_ok hbl ls.length (Nat.le_refl _)
          have HIX : Hid (itemsK ls gs j = itemsK ls gs ls.length) := by rw [← HNL.out]; exact rfl
          rw [HIX.out] at HI
          have HOK := Lib.hid hok
          generalize hIT : itemsK ls gs ls.length = IT at *
          have HIT2 := Lib.hid hIT
          have hlm : IT.length = m := by have := HI.out.own.1; rw [cells3_len] at this; omega
          have HLM := Lib.hid hlm
          clear hbl hok hIT hlm HG HIX
          have i5 : ¬ (j : Int) < (j : Int) := by omega
          by_cases hm0 : m = 0
          · subst hm0
            have cq := HI.out.q
            have HI0 := Lib.hid (init0_any Q D d wr cq)
            have HLEN := Lib.hid (fun W => len_any D 0 d W)
            have HB := Lib.hid HI.out.below
            have hit : IT = [] := List.eq_nil_of_length_eq_zero HLM.out
            have HITE := Lib.hid hit
            clear hit
            go_wp2_with (first
              | (go_at_call 7; refine HI0.out.mono ?_; rintro e w' ⟨rfl, rfl⟩)
              | (go_at_call 8; refine (HLEN.out _).mono ?_; rintro e w' ⟨rfl, rfl⟩))
            go_loop [9] (fun v => v = .slice none 0 0) (fun _ => 0)
            case atStart => rfl
            case round =>
              subst hrel
              go_wp2_with (go_at_call 8; refine (HLEN.out _).mono ?_; rintro e w' ⟨rfl, rfl⟩)
              go_ret2
              refine .inr ⟨FE.out, none, 0, [], rfl, ⟨rfl, Nat.le_refl _, Nat.zero_le _, fun i x h => by simp at h⟩, ?_, List.Pairwise.nil, HB.out⟩
              rw [HIT2.out, HITE.out]
          · obtain ⟨b, o, rfl⟩ : ∃ b o, D = some ⟨b, o, none⟩ := by
              rcases HI.out.own.2 with ⟨_, h0⟩ | ⟨g, off, cap, e, _⟩
              · exact absurd h0 hm0
              · injection e with e; exact ⟨g, off, e⟩
            obtain ⟨hst, hbQ⟩ := HI.out.st
            have HIN := Lib.hid (init_any wr Q b o d m IT wr hst (by omega) HOK.out)
            have HBB := Lib.hid HI.out.below
            have HGE := Lib.hid HI.out.ge
            have HBQ := Lib.hid hbQ
            clear hst hbQ
            go_wp2_with (go_at_call 7; refine HIN.out.mono ?_; rintro e w2 ⟨rfl, l1, hq1, hp1, hh1⟩; have HQ1 := Lib.hid hq1; have HP1 := Lib.hid hp1; have HH1 := Lib.hid hh1; clear hq1 hp1 hh1)
            have HO0 : Hid (OqI w Q b o d m IT m l1 [] none 0 w2) := ⟨HQ1.out.self, HH1.out, Owns.nil _ _ _, (fun e => by cases e), by
              have hl1 : l1.length = m := HQ1.out.len
              rw [List.nil_append, List.take_of_length_le (by omega)]; exact HP1.out, HP1.out, List.Pairwise.nil, (fun x hx => by cases hx), below_gr2 HBB.out HQ1.out.gr (by have := HGE.out; have := HBQ.out; omega) HGE.out, HGE.out, HBQ.out⟩
            go_loopw [9] (fun v wr => ∃ (n : Nat) (l V : List OneV) (E : Option Addr) (e k : Nat), v = .slice E k e ∧ n ≤ m ∧ Hid (k = V.length) ∧ Hid (k + n = m) ∧ Hid (OqI w Q b o d m IT n l V E e wr)) (fun v _ => m - (match v with | .slice _ n _ => n | _ => 0))
            case atStart => exact ⟨m, l1, [], none, 0, 0, rfl, Nat.le_refl _, rfl, Lib.hid (by omega), HO0⟩
            case round =>
              obtain ⟨n, l, V, E, e, k, rfl, hnm, hkV, hkn, HO⟩ := hrel
              have cq := HO.out.st.q
              have HLEN := Lib.hid (len_any (some ⟨b, o, none⟩) n d wr)
              by_cases hn1 : 1 ≤ n
              · have HPO := Lib.hid (hpop_any wr Q b o d m n l wr HO.out.st (by omega) hn1 HO.out.heap (getD_perm_ok HO.out.lperm HOK.out))
                have n1 : (0 : Int) < (n : Int) := by omega
                obtain ⟨z, hz⟩ : ∃ z, z = l.getD 0 default := ⟨_, rfl⟩
                have HZ := Lib.hid hz
                have HOW : Hid (∀ wp l2, QSt wr Q b o d m (n - 1) l2 wp → Owns wp (Q + 1) 1 (.slice E k e) k (V.map (fun x => .int .i64 x.at_)) ∧ Q + 1 ≤ wp.heap.size) := fun wp l2 hq => by
                  rw [hkV.out]
                  refine ⟨HO.out.own.kept (fun g hg => hq.gr.block g (HO.out.own.lt g hg).2 (fun q => HO.out.ne (by rw [hg, q])) (fun q => by have h5 : Q + 1 ≤ g := (HO.out.own.lt g hg).1; omega)) hq.gr.size, ?_⟩
                  have h6 := HO.out.st.ltQ; have h7 := hq.gr.size; omega
                have G2 : Hid (∀ u ∈ (#[.int .i64 z.at_] : Array Value).toList, u.oneCell' = true) := by simp [Hid, Value.oneCell']
                have G3 : Hid (k + 1 ≤ maxLen ∧ (k + 1) * 8 ≤ 140737488355328) := by have := hkn.out; unfold maxLen Hid; omega
                have G4 : Hid (0 < 1) := by simp [Hid]
                clear hz
                have hTA := run_ta
                have hTF := run_fd
                go_wp2_with (first
                  | (go_at_call 8; refine HLEN.out.mono ?_; rintro e w' ⟨rfl, rfl⟩)
                  | (go_at_call 9; refine HPO.out.mono ?_; rintro e5 wp ⟨l2, he, hq2, hp2, hh2, hf2⟩; rw [← HZ.out] at he hf2; subst he; have HQ2 := Lib.hid hq2; have HP2 := Lib.hid hp2; have HH2 := Lib.hid hh2; have HF2 := Lib.hid hf2; obtain ⟨how, hsp⟩ := HOW.out wp l2 hq2; have HOP := Lib.hid how; clear hq2 hp2 hh2 hf2 how)
                  | (at_builtin; refine wpList_add1 (size := 1) (bytes := 8) (base := Q + 1) (H := wp.heap.size) (news := #[.int .i64 z.at_]) rfl rfl Try.underlying22 info_intQ rfl G4.out HOP.out rfl hsp rfl rfl rfl G2.out G3.out.1 G3.out.2 ?_; intro A5 c5 w9 hown9 hl9 hn9))
                have hO2 : OqI w Q b o d m IT (n - 1) l2 (V ++ [z]) A5 c5 w9 := by
                  rw [HZ.out] at hown9 ⊢
                  rw [hkV.out] at hown9 hl9 hn9
                  exact HO.out.step HOK.out HQ2.out HP2.out HH2.out (by have := HF2.out; rwa [HZ.out] at this) hown9 hl9 hn9
                have HO2 := Lib.hid hO2
                clear hO2 hown9 hl9 hn9
                go_roundw
                case rel => exact ⟨n - 1, l2, V ++ [z], A5, c5, k + 1, rfl, by omega, Lib.hid (by rw [List.length_append, ← hkV.out]; rfl), Lib.hid (by have := hkn.out; omega), HO2⟩
                case measure => (have := hkn.out; simp; omega)
              · obtain rfl : n = 0 := by omega
                have HB := Lib.hid HO.out.below
                have HRW : Hid (RowsIn wr wr.heap.size E k e (fun z => [.int .i64 z]) 1 (V.map OneV.at_)) := by
                  have h := HO.out.own
                  rw [← hkV.out, show V.map (fun x => Value.int .i64 x.at_) = (V.map OneV.at_).flatMap (fun z => [Value.int .i64 z]) by rw [flat_oneQ, List.map_map]; rfl] at h
                  exact Owns.rows (enc := fun z : Int => [Value.int .i64 z]) (k := 1) (fun _ => rfl) (by decide) h
                have HPM : Hid (V.Perm IT) := by have := HO.out.perm; simpa [Hid] using this
                have HSR := Lib.hid HO.out.srt
                have n1 : ¬ (0 : Int) < ((0 : Nat) : Int) := by omega
                go_wp2_with (go_at_call 8; refine HLEN.out.mono ?_; rintro e w' ⟨rfl, rfl⟩)
                go_ret2
                refine .inr ⟨FE.out, E, e, V, by rw [hkV.out] <;> rfl, by rw [← hkV.out]; exact HRW.out, by rw [HIT2.out]; exact HPM.out, HSR.out, HB.out⟩
  · have hE : ordE ls gs = 1 := by unfold ordE; rw [if_pos h1]
    have F := Lib.hid hE
    have i2 : ((ls.length : Int) != (gs.length : Int)) = true := bne_iff_ne.2 (by omega)
    have i3 : ¬ ls.length = gs.length := h1
    clear hE
    go_enter Try.func4, Try.ntmps4
    go_wp2
    go_ret2
    exact .inl ⟨by rw [F.out]; decide, by rw [F.out] <;> rfl, Below.refl _ _⟩
end Go.Proofs.Ytcjidphichlhgaa
