/- glob.list, walked: a text's signs in a row. -/
import Derived.Test.YtgidfmdbaimcnaaDoorGbI
import Derived.Test.YtgidfmdbaimcnaaDoorMem
import Derived.Test.YtgidfmdbaimcnaaDoorApp
import Derived.Test.YtgidfmdbaimcnaaDoorTypes
namespace Go.Proofs.YtgidfmdbaimcnaaDoor
open Go.RowKit Go.Shelf Go.PlainAid
attribute [local go_sem] Oper.semAt_some

abbrev i32L (l : List Int) : List Value := l.map (Value.int .i32)
/-- The signs of a text, in new memory. -/
def LsPost (s : ByteArray) (w : World) (e : Ending) (w' : World) : Prop :=
  ∃ D q, e = .returned (.slice D (sgs s).length q) ∧ RowsIn w' w'.heap.size D (sgs s).length q (fun z => [.int .i32 z]) 1 (sgs s) ∧ (∀ a, D = some a → w.heap.size ≤ a.block) ∧ Below w.heap.size w w'
theorem info_i32 : (Tryd.prog.info? 21).map (fun i => (i.zero, i.size, i.bytes)) = some (some (.int .i32 0), 1, 4) := by kernel_rfl
theorem own_i32 {w : World} {base n c : Nat} {A : Option Addr} {xs : List Int} (h : Owns w base 1 (.slice A n c) n (i32L xs)) : RowsIn w w.heap.size A n c (fun z => [.int .i32 z]) 1 xs := by
  have h' : Owns w base 1 (.slice A n c) n (xs.flatMap (fun z => [Value.int .i32 z])) := by rw [← List.map_eq_flatMap]; exact h
  exact h'.rows (enc := fun z => [.int .i32 z]) (k := 1) (fun _ => rfl) (by decide)
/-- glob.list between two signs. -/
structure LsS (w : World) (v : Value) (pre : List Int) (W : World) : Prop where
  bx : W.heap[w.heap.size]? = some (.cells #[v] 29 (0, 0))
  own : W.ownsRow (w.heap.size + 2) 21 1 v pre.length (i32L pre)
  below : Below w.heap.size w W
  size : w.heap.size + 2 ≤ W.heap.size
  tabs : TabsR W
theorem ownsRow_keepR {W W' : World} {base n : Nat} {e : TypeId} {v : Value} {xs : List Value} (h : W.ownsRow base e 1 v n xs) (hk : ∀ (g : Nat) cs, base ≤ g → W.heap[g]? = some (.cells cs e (0, 0)) → W'.heap[g]? = some (.cells cs e (0, 0))) : W'.ownsRow base e 1 v n xs := by
  refine ⟨h.1, ?_⟩
  rcases h.2 with h2 | ⟨g, cap, cur, e1, e2, e3, e4⟩
  · exact .inl h2
  · exact .inr ⟨g, cap, cur, e1, e2, hk g cur e2 e3, e4⟩
theorem own_geR {W : World} {base n : Nat} {e : TypeId} {v : Value} {xs : List Value} (h : W.ownsRow base e 1 v n xs) : ∀ g, v.ownBlock = some g → base ≤ g := fun g hg => by
  rcases h.2 with ⟨rfl, _⟩ | ⟨g', cap, cur, rfl, h1, _⟩
  · cases hg
  · cases hg; exact h1
section
variable {w W W' : World} {v : Value} {pre : List Int}
theorem LsS.own' (h2 : 2 ≤ w.heap.size) : OwnFrom (w.heap.size + 2) (fun pre W => ∃ v, LsS w v pre W) := fun s A B row ⟨v, h⟩ hg hr => by
  have key : ∀ (j : Nat) o, A.heap[j]? = some o → (j < w.heap.size + 2 ∨ o.isCells = true) → B.heap[j]? = some o := fun j o hj hc => by
    refine (hg.block j (Array.getElem?_eq_some_iff.1 hj).1 ?_).trans hj
    intro e
    obtain ⟨h1, o', ho, hw⟩ := hr j e.symm
    rcases hc with hc | hc
    · omega
    · rw [hj] at ho; cases ho; rw [hc] at hw; cases hw
  have low : ∀ j, j < 2 → B.heap[j]? = A.heap[j]? := fun j hj => by
    refine hg.block j (by have := h.size; omega) ?_
    intro e
    have := (hr j e.symm).1
    omega
  exact ⟨v, { bx := key _ _ h.bx (.inl (by omega)), own := ownsRow_keepR h.own fun _ _ _ hh => key _ _ hh (.inr rfl), below := h.below.grown hg h.below.size (fun j e => by have := (hr j e).1; omega), size := Nat.le_trans h.size hg.size, tabs := tabs_same (low 0 (by omega)) (low 1 (by omega)) h.tabs }⟩
theorem LsS.box (h2 : 2 ≤ w.heap.size) (h : LsS w v pre W) (u : Value) : LsS w v pre (W.setCell ⟨w.heap.size + 1, 0, none⟩ u) :=
  { bx := row_other h.bx (by simp), own := ownsRow_keepR h.own fun g cs hb hh => row_other hh (by show g ≠ _; simp; omega), below := h.below.setCell (p := ⟨w.heap.size + 1, 0, none⟩) (by show _ ≤ w.heap.size + 1; omega) _, size := by simp [World.setCell]; exact h.size, tabs := tabs_same (Below.heap_setCell _ _ _ _ (by show _ ≠ w.heap.size + 1; omega)) (Below.heap_setCell _ _ _ _ (by show _ ≠ w.heap.size + 1; omega)) h.tabs }
theorem LsS.go' (h2 : 2 ≤ w.heap.size) (h : LsS w v pre W) (hb : Below W.heap.size W W') : LsS w v pre W' :=
  { bx := row_below h.bx (row_lt h.bx) hb, own := ownsRow_keepR h.own fun _ _ _ hh => row_below hh (row_lt hh) hb, below := h.below.trans (hb.mono h.below.size), size := Nat.le_trans h.size hb.size, tabs := tabs_below hb (by have := h.size; omega) h.tabs }
theorem one_cellR {W : World} {t : TypeId} {x : Value} : ∀ j u, [x][j]? = some u → (W.alloc (.cells #[x] t)).cell? (Addr.add ⟨W.heap.size, 0, none⟩ j) = some u := fun j u hu => by
  match j, hu with
  | 0, hu =>
    simp at hu; subst hu
    simp [Addr.add]
theorem LsS.mid (h2 : 2 ≤ w.heap.size) (h : LsS w v pre W) (o : Obj) (hg : (W.alloc o).grownBy W' v.ownBlock) : W'.heap[w.heap.size]? = some (.cells #[v] 29 (0, 0)) ∧ Below w.heap.size w W' ∧ w.heap.size + 2 ≤ W'.heap.size ∧ (∀ j, j < w.heap.size + 2 → W'.heap[j]? = W.heap[j]?) ∧ TabsR W' := by
  have hs := h.size
  have key : ∀ (j : Nat), j < w.heap.size + 2 → W'.heap[j]? = W.heap[j]? := fun j hj =>
    (hg.block j (by simp; omega) (fun e => by have := own_geR h.own j e.symm; omega)).trans (Below.heap_alloc _ _ _ (by omega))
  exact ⟨(key _ (by omega)).trans h.bx, (h.below.alloc h.below.size o).grown hg (by have := h.below.size; simp; omega) (fun k e => by have := own_geR h.own k e; omega), Nat.le_trans (by simp; omega) hg.size, key, tabs_same (key 0 (by omega)) (key 1 (by omega)) h.tabs⟩
theorem LsS.add (h2 : 2 ≤ w.heap.size) (h : LsS w v pre W) (o : Obj) (hg : (W.alloc o).grownBy W' v.ownBlock) {x : Int} {v' : Value} (hown : W'.ownsRow (w.heap.size + 2) 21 1 v' (pre.length + 1) (i32L pre ++ [.int .i32 x])) :
    LsS w v' (pre ++ [x]) (W'.setCell ⟨w.heap.size, 0, none⟩ v') := by
  obtain ⟨m1, m2, m3, m4, m5⟩ := h.mid h2 o hg
  have hbx := row_store (j := 0) (v := v') m1
  have ho : W'.ownsRow (w.heap.size + 2) 21 1 v' (pre ++ [x]).length (i32L (pre ++ [x])) := by rw [List.length_append, i32L, List.map_append]; exact hown
  exact { bx := by simpa using hbx, own := ownsRow_keepR ho (fun g cs hb hh => row_other hh (by show g ≠ _; simp; omega)), below := m2.setCell (p := ⟨w.heap.size, 0, none⟩) (Nat.le_refl _) _, size := by simp [World.setCell]; exact m3, tabs := tabs_same (Below.heap_setCell _ _ _ _ (by show _ ≠ w.heap.size; omega)) (Below.heap_setCell _ _ _ _ (by show _ ≠ w.heap.size; omega)) m5 }
theorem keeps_growR {o : Obj} (hg : (W.alloc o).grownBy W' v.ownBlock) {base n : Nat} {e : TypeId} {ys : List Value} (h : W.ownsRow base e 1 v n ys) : KeepsOthers W W' := by
  refine (KeepsOthers.alloc W o).trans (KeepsOthers.of_grownBy hg fun j o' hj hh => ?_)
  rcases h.2 with ⟨rfl, _⟩ | ⟨g', cap, cur, rfl, _, h2, _⟩
  · cases hj
  · cases hj
    rw [(Below.heap_alloc W o g' (Array.getElem?_eq_some_iff.1 h2).1).trans h2] at hh
    cases hh; rfl
end
set_option maxRecDepth 100000 in
set_option maxHeartbeats 2000000 in
theorem list_any (s : ByteArray) (hs : s.size ≤ 4096) (w : World) (hT : TabsR w) : Calls Tryd.prog 7 #[.string s] w (LsPost s w) := by
  refine (callsIn_wide (n := 6)).1 ?_
  refine callsIn_of_wp_marks Tryd.func7 rfl trivial ?_ rfl
  simp only [Tryd.ntmps7, List.size_toArray, List.length_cons, List.length_nil, Nat.reduceAdd, Nat.reduceSub, Array.replicate_succ, Array.replicate_zero, List.push_toArray, List.append_toArray, List.nil_append, List.cons_append]
  have HN : Hid (∀ W, CallsIn Fence.wide (6 - 1) Tryd.prog 14 #[.string s] W fun e w' => e = .returned (.func (.func 17) #[] #[.pointer (some ⟨W.heap.size, 0, none⟩)]) ∧ w' = W.alloc (.cells #[.string s] 9)) := fun W => callsIn_wide.2 (signs_any s W)
  have HS := Lib.hid hs
  have HT := Lib.hid hT
  have h2 := tabs_size hT
  have H2 := Lib.hid h2
  clear hs hT h2
  gi_wp2_with (refine ⟨trivial, ?_⟩; gi_at_call 14; refine (HN.out _).mono ?_; rintro e w' ⟨rfl, hw'⟩; rw [hw']; clear hw')
  obtain ⟨w3, hw3⟩ : ∃ w3, w3 = (w.alloc (.cells #[.slice none 0 0] 29)).alloc (.cells #[.string s] 9) := ⟨_, rfl⟩
  have hz3 : w3.heap.size = w.heap.size + 2 := by rw [hw3]; simp
  obtain ⟨xs, hxs⟩ : ∃ xs, xs = sgs s := ⟨_, rfl⟩
  have e1 : (w.alloc (.cells #[.slice none 0 0] 29)).heap.size = w.heap.size + 1 := by simp
  have q1 := heap_alloc_new (w.alloc (.cells #[.slice none 0 0] 29)) (.cells #[.string s] 9)
  rw [e1] at q1
  have hbox : w3.heap[w.heap.size + 1]? = some (.cells #[.string s] 9 (0, 0)) := by rw [hw3]; exact q1
  have hb3 : Below w.heap.size w w3 := by rw [hw3]; exact ((Below.refl _ _).alloc (Nat.le_refl _) _).alloc (by simp) _
  have ht3 : TabsR w3 := tabs_below hb3 H2.out HT.out
  have S0 : LsS w (.slice none 0 0) [] w3 := by
    refine { bx := ?_, own := ⟨rfl, .inl ⟨rfl, rfl⟩⟩, below := hb3, size := by omega, tabs := ht3 }
    rw [hw3]; exact row_alloc (heap_alloc_new w _) _
  have hseq := signs_seq (6 - 1) (by decide) (w.heap.size + 1) (by have := H2.out; omega) s w3 hbox ht3
  have hlen : xs.length ≤ 4096 := by rw [hxs]; exact Nat.le_trans (sgs_len _ s (Nat.le_refl _)).1 HS.out
  rw [← hxs] at hseq
  rw [← hw3]
  have HXS := Lib.hid hxs
  have HL := Lib.hid hlen
  clear hxs hw3 q1 e1 hb3 ht3 hlen
  refine wpIn_rangeFunc_rune rfl (by decide) (gf := 17) (b := w.heap.size + 1) rfl trivial (enters_of Tryd.func17 (by kernel_rfl) rfl) (xs := xs) (by omega) (by have := H2.out; omega) hseq rfl
    (fun pre W => ∃ v, LsS w v pre W) (fun _ _ _ => False) (by rw [hz3]; exact LsS.own' H2.out) (fun c s A B row h => h.elim) (fun pre W u ⟨v, h⟩ => ⟨v, h.box H2.out u⟩) (fun pre W W' ⟨v, h⟩ hb => ⟨v, h.go' H2.out hb⟩) ⟨_, S0⟩ ?acts ?assign ?body ?done ?stop
  case assign =>
    intro l x W K hK
    gi_wp2
    exact hK
  case body =>
    rintro l pre x W ⟨v, hS⟩ ⟨t, ht⟩
    obtain ⟨A, c, rfl⟩ : ∃ A c, v = .slice A pre.length c := by
      rcases hS.own.2 with ⟨e, h0⟩ | ⟨g, cap, cur, e, _⟩
      · exact ⟨none, 0, by rw [e, h0]⟩
      · exact ⟨_, _, e⟩
    have c0 := row_cell hS.bx 0
    have f0 := row_cold hS.bx 0
    have HS1 := Lib.hid hS
    have hpl : pre.length < 4096 := by
      have := HL.out
      rw [← ht] at this
      simp at this
      omega
    have HPL := Lib.hid hpl
    obtain ⟨i0, hi, hz0, hz1, hz2⟩ := info_parts info_i32
    clear hS ht hpl
    gi_wp2_with (gi_at_builtin; (refine wpListIn_append_own _ rfl _ _ 29 rfl (w.heap.size + 2) 21 i0 (.int .i32 0) 1 4 Tryd.underlying29 hi hz0 hz1 hz2 rfl (by decide) _ _ _ rfl (HS1.out.own.alloc _) ⟨W.heap.size, 0, none⟩ 1 1 [.int .i32 x] rfl rfl one_cellR (by simp [Value.oneCell']) (by have := HPL.out; unfold maxLen; omega) (by have := HPL.out; omega) (by have := HS1.out.size; simp; omega) ?_; intro v' w5 hown' hgrow _; obtain ⟨A', c', rfl⟩ : ∃ A' c', v' = .slice A' (pre.length + 1) c' := (by rcases hown'.2 with ⟨_, h0⟩ | ⟨g, cap, cur, e, _⟩; exact absurd h0 (Nat.succ_ne_zero _); exact ⟨_, _, e⟩); obtain ⟨m1, _⟩ := HS1.out.mid H2.out _ hgrow; have c6 := row_cell m1 0; have f6 := row_cold m1 0; have HOW := Lib.hid hown'; have HGR := Lib.hid hgrow; clear hown' hgrow m1))
    have HM := (HS1.out.mid H2.out _ HGR.out).2.2.2.1
    have h2 := H2.out
    refine ⟨(keeps_growR HGR.out HS1.out.own).trans (KeepsOthers.setCell _ _ _), fun j hj => (Below.heap_setCell _ _ _ _ (by show j ≠ w.heap.size; omega)).trans (HM j (by omega)), _, HS1.out.add H2.out _ HGR.out HOW.out⟩
  case done =>
    rintro D W hD ⟨v, hS⟩ hK
    obtain ⟨A, c, rfl⟩ : ∃ A c, v = .slice A xs.length c := by
      rcases hS.own.2 with ⟨e, h0⟩ | ⟨g, cap, cur, e, _⟩
      · exact ⟨none, 0, by rw [e, h0]⟩
      · exact ⟨_, _, e⟩
    have c0 := row_cell hS.bx 0
    have HS1 := Lib.hid hS
    have HK := Lib.hid hK
    have HDD : Hid (w.heap.size + 2 ≤ D) := by show _ ≤ D; omega
    clear hS hK
    gi_wp2
    refine ⟨by simp, .inl ⟨_, _, rfl, run_takeDeferred HK.out, ?_⟩⟩
    have hDl := (Array.getElem?_eq_some_iff.1 HK.out).1
    have h2 := H2.out
    refine ⟨_, results_tmp rfl _ _ _, ?_⟩
    have o3 : (W.putObj D (.deferred none)).ownsRow (w.heap.size + 2) 21 1 (.slice A xs.length c) xs.length (i32L xs) := ownsRow_keepR HS1.out.own fun g cs hb hh => (World.putObj_heap_other (by intro e; subst e; have := HK.out; rw [this] at hh; cases hh)).trans hh
    have hge : ∀ a, A = some a → w.heap.size ≤ a.block := fun a ha => by
      have := own_geR HS1.out.own a.block (by rw [ha]; rfl)
      omega
    show LsPost s w (.returned (.slice A xs.length c)) _
    have hx := HXS.out
    subst hx
    exact ⟨A, c, rfl, own_i32 (Owns.of_row o3), hge, HS1.out.below.trans ((Below.refl _ _).grown (grownBy_putObj' W D _) (by have := HS1.out.below.size; omega) (fun j e => by cases e; have := HDD.out; omega))⟩
  case stop =>
    rintro D c pre W hD hpre h
    exact h.elim
end Go.Proofs.YtgidfmdbaimcnaaDoor
