/- path.Split, walked. -/
import Derived.Test.YtfhgglghofhndaaPsI
import Derived.Test.YtfhgglghofhndaaDirV
import Derived.Test.YtfhgglghofhndaaFptdP
namespace Go.Proofs.Ytfhgglghofhndaa
open Go.RowKit Go.Shelf Go.PlainAid
attribute [local go_sem] Oper.semAt_some

def PsPost (s : ByteArray) (w : World) (e : Ending) (w' : World) : Prop :=
  ∃ D q d, e = .returned (.tuple #[.slice D q d, .int .i64 (psV s).1]) ∧ RowsIn w' w'.heap.size D q d (fun z => [.string z]) 1 (psV s).2 ∧ Below w.heap.size w w'
theorem no_strsP (w : World) (B : Nat) : RowsIn w B none 0 0 (fun z => [.string z]) 1 ([] : List ByteArray) := ⟨rfl, Nat.le_refl _, Nat.zero_le _, fun i x h => by simp at h⟩
theorem psPost_bad {s : ByteArray} {w w' : World} {k : Int} (h : psV s = (k, [])) (hb : Below w.heap.size w w') : PsPost s w (.returned (.tuple #[.slice none 0 0, .int .i64 k])) w' := ⟨none, 0, 0, by rw [h], by rw [h]; exact no_strsP _ _, hb⟩
theorem results_cc {P : Program} {fn : Func} {p q : Tmp} {ty tz : TypeId} (h : fn.results = #[.cell p ty, .cell q tz]) (tmps : Array Value) (w : World) (g k : Nat) (u v : Value)
    (hp : tmps.getD p undef = .pointer (some ⟨g, 0, none⟩)) (hq : tmps.getD q undef = .pointer (some ⟨k, 0, none⟩)) (hg : w.cell? ⟨g, 0, none⟩ = some u) (hk : w.cell? ⟨k, 0, none⟩ = some v)
    (hu : ∀ w, (isAgg ty).run P w = .ok false w) (hv : ∀ w, (isAgg tz).run P w = .ok false w) : (results fn tmps).run P w = .ok (.tuple #[u, v]) w := by
  have hp' : tmps[p]?.getD undef = .pointer (some ⟨g, 0, none⟩) := by simpa using hp
  have hq' : tmps[q]?.getD undef = .pointer (some ⟨k, 0, none⟩) := by simpa using hq
  simp [results, h, hp', hq', asAddr, Sem.run_bind, loadVar, hu, hv, hg, hk, go_sem]
theorem info_strP : (Try.prog.info? 9).map (fun i => (i.zero, i.size, i.bytes)) = some (some (.string ⟨#[]⟩), 1, 16) := by kernel_rfl
theorem names_any (s : ByteArray) (w : World) : Calls Try.prog 72 #[.string s] w fun e w' => e = .returned (.func (.func 96) #[] #[.pointer (some ⟨w.heap.size, 0, none⟩)]) ∧ w' = w.alloc (.cells #[.string s] 9) := by
  go_enter Try.func72, Try.ntmps72
  go_wp2
  go_ret
  exact ⟨rfl, rfl⟩
theorem prefix_slash (s : ByteArray) : Lib.hasPrefix s.data.toList [47] = decide (s.size ≠ 0 ∧ bt s 0 = 47) := by
  cases h : s.data.toList with
  | nil =>
    have h0 : s.size = 0 := by rw [← bl_len]; unfold bl; rw [h]; rfl
    simp [Lib.hasPrefix, h0]
  | cons c r =>
    have h0 : 0 < s.size := by rw [← bl_len]; unfold bl; rw [h]; simp
    have hb : bt s 0 = (c.toNat : Int) := by
      rw [← get_bt s 0 h0]
      have e : s.data.toList[0]? = some c := by rw [h]; rfl
      have e2 : s.data.toList[0]? = some (s[0]'h0) := by rw [List.getElem?_eq_getElem (by simpa using h0)]; rfl
      rw [e2] at e; injection e with e; rw [e]
    have hs : s.size ≠ 0 := by omega
    rw [hb]
    by_cases hc : c = 47
    · subst hc; simp [Lib.hasPrefix, hs]
    · have : ¬ ((c.toNat : Int) = 47) := fun e => hc (UInt8.toNat_inj.1 (by show _ = 47; omega))
      have hc2 : (47 == c) = false := beq_eq_false_iff_ne.2 fun e => hc e.symm
      simp [Lib.hasPrefix, hs, this, List.isPrefixOf, hc2]
/-- path.Split between two pieces. -/
structure PsS (w : World) (xs : List ByteArray) (out : List ByteArray) (v : Value) (pre : List ByteArray) (W : World) : Prop where
  bx : W.heap[w.heap.size + 2]? = some (.cells #[v] 22 (0, 0))
  own : W.ownsRow (w.heap.size + 4) 9 1 v out.length (out.map Value.string)
  go : pGo out (xs.drop pre.length) = pGo [] xs
  len : out.length ≤ 8
  r0 : W.heap[w.heap.size]? = some (.cells #[.slice none 0 0] 22 (0, 0))
  r1 : W.heap[w.heap.size + 1]? = some (.cells #[.int .i64 0] 25 (0, 0))
  below : Below w.heap.size w W
  size : w.heap.size + 4 ≤ W.heap.size
structure PsX (w : World) (xs : List ByteArray) (k : Int) (W : World) : Prop where
  go : pGo [] xs = (k, [])
  r0 : W.heap[w.heap.size]? = some (.cells #[.slice none 0 0] 22 (0, 0))
  r1 : W.heap[w.heap.size + 1]? = some (.cells #[.int .i64 k] 25 (0, 0))
  below : Below w.heap.size w W
  size : w.heap.size + 4 ≤ W.heap.size
theorem ownsRow_keep {W W' : World} {base n : Nat} {e : TypeId} {v : Value} {xs : List Value} (h : W.ownsRow base e 1 v n xs) (hk : ∀ (g : Nat) cs, base ≤ g → W.heap[g]? = some (.cells cs e (0, 0)) → W'.heap[g]? = some (.cells cs e (0, 0))) : W'.ownsRow base e 1 v n xs := by
  refine ⟨h.1, ?_⟩
  rcases h.2 with h2 | ⟨g, cap, cur, e1, e2, e3, e4⟩
  · exact .inl h2
  · exact .inr ⟨g, cap, cur, e1, e2, hk g cur e2 e3, e4⟩
section
variable {w W W' : World} {xs out pre : List ByteArray} {v : Value} {k : Int}
theorem PsS.own' : OwnFrom (w.heap.size + 4) (fun pre W => ∃ out v, PsS w xs out v pre W) := fun s A B row ⟨out, v, h⟩ hg hr => by
  have key : ∀ (j : Nat) o, A.heap[j]? = some o → (j < w.heap.size + 4 ∨ o.isCells = true) → B.heap[j]? = some o := fun j o hj hc => by
    refine (hg.block j (Array.getElem?_eq_some_iff.1 hj).1 ?_).trans hj
    intro e
    obtain ⟨h1, o', ho, hw⟩ := hr j e.symm
    rcases hc with hc | hc
    · omega
    · rw [hj] at ho; cases ho; rw [hc] at hw; cases hw
  exact ⟨out, v, { bx := key _ _ h.bx (.inl (by omega)), own := ownsRow_keep h.own fun _ _ _ hh => key _ _ hh (.inr rfl), go := h.go, len := h.len, r0 := key _ _ h.r0 (.inl (by omega)), r1 := key _ _ h.r1 (.inl (by omega)), below := h.below.grown hg h.below.size (fun j e => by have := (hr j e).1; omega), size := Nat.le_trans h.size hg.size }⟩
theorem PsX.own' {c : Code} : OwnFrom (w.heap.size + 4) (fun (_ : List ByteArray) W => c = .ret ∧ ∃ k, PsX w xs k W) := fun s A B row ⟨hc, k, h⟩ hg hr => by
  have key : ∀ (j : Nat) o, A.heap[j]? = some o → (j < w.heap.size + 4 ∨ o.isCells = true) → B.heap[j]? = some o := fun j o hj hc => by
    refine (hg.block j (Array.getElem?_eq_some_iff.1 hj).1 ?_).trans hj
    intro e
    obtain ⟨h1, o', ho, hw⟩ := hr j e.symm
    rcases hc with hc | hc
    · omega
    · rw [hj] at ho; cases ho; rw [hc] at hw; cases hw
  exact ⟨hc, k, { go := h.go, r0 := key _ _ h.r0 (.inl (by omega)), r1 := key _ _ h.r1 (.inl (by omega)), below := h.below.grown hg h.below.size (fun j e => by have := (hr j e).1; omega), size := Nat.le_trans h.size hg.size }⟩
theorem PsS.box (h : PsS w xs out v pre W) (u : Value) : PsS w xs out v pre (W.setCell ⟨w.heap.size + 3, 0, none⟩ u) :=
  { bx := row_other h.bx (by simp), own := ownsRow_keep h.own fun g cs hb hh => row_other hh (by show g ≠ _; simp; omega), go := h.go, len := h.len, r0 := row_other h.r0 (by simp), r1 := row_other h.r1 (by simp), below := h.below.setCell (p := ⟨w.heap.size + 3, 0, none⟩) (by show _ ≤ w.heap.size + 3; omega) _, size := by simp [World.setCell]; exact h.size }
theorem PsS.go' (h : PsS w xs out v pre W) (hb : Below W.heap.size W W') : PsS w xs out v pre W' :=
  { bx := row_below h.bx (row_lt h.bx) hb, own := ownsRow_keep h.own fun _ _ _ hh => row_below hh (row_lt hh) hb, go := h.go, len := h.len, r0 := row_below h.r0 (row_lt h.r0) hb, r1 := row_below h.r1 (row_lt h.r1) hb, below := h.below.trans (hb.mono h.below.size), size := Nat.le_trans h.size hb.size }
theorem keeps_below (hb : Below W.heap.size W W') : KeepsOthers W W' := ⟨hb.size, fun k _ hk _ => (hb.block k (Array.getElem?_eq_some_iff.1 hk).1).trans hk⟩
end
theorem ownsRow_take {W : World} {base n c : Nat} {e : TypeId} {A : Option Addr} {l : List ByteArray} (h : W.ownsRow base e 1 (.slice A n c) n (l.map Value.string)) (hl : l.length = n) : W.ownsRow base e 1 (.slice A (n - 1) c) l.dropLast.length (l.dropLast.map Value.string) := by
  refine ⟨by simp, ?_⟩
  rcases h.2 with ⟨e1, h0⟩ | ⟨g, cap, cur, e1, e2, e3, e4, e5, e6, e7⟩
  · injection e1 with e1 e2 e3
    subst e1; subst e3
    left
    rw [h0]
    refine ⟨rfl, ?_⟩
    rw [List.length_dropLast, hl, h0]
  · injection e1 with e1 _ e3
    subst e1; subst e3
    right
    refine ⟨g, c, cur, by rw [List.length_dropLast, hl], e2, e3, by rw [List.length_dropLast, hl]; omega, e5, e6, ?_⟩
    have h9 := congrArg (fun z => z.take (n - 1)) e7
    simp only [Nat.mul_one, List.take_take] at h9
    rw [List.length_dropLast, hl, Nat.mul_one]
    rw [Nat.min_eq_left (by omega)] at h9
    rw [h9, List.dropLast_eq_take, List.map_take, hl]
section
variable {w W W' : World} {xs out pre pre' : List ByteArray} {v : Value} {k : Int} {A : Option Addr} {c : Nat}
theorem PsS.up (h : PsS w xs out (.slice A out.length c) pre W) (hg : pGo out.dropLast (xs.drop pre'.length) = pGo [] xs) : PsS w xs out.dropLast (.slice A (out.length - 1) c) pre' (W.setCell ⟨w.heap.size + 2, 0, none⟩ (.slice A (out.length - 1) c)) := by
  have hbx := row_store (j := 0) (v := .slice A (out.length - 1) c) h.bx
  have hl := h.len
  exact { bx := by simpa using hbx, own := ownsRow_keep (ownsRow_take h.own rfl) (fun g cs hb hh => row_other hh (by show g ≠ _; simp; omega)), go := hg, len := by rw [List.length_dropLast]; omega, r0 := row_other h.r0 (by simp), r1 := row_other h.r1 (by simp), below := h.below.setCell (p := ⟨w.heap.size + 2, 0, none⟩) (by show _ ≤ w.heap.size + 2; omega) _, size := by simp [World.setCell]; exact h.size }
theorem PsS.fail (h : PsS w xs out v pre W) (hg : (k, []) = pGo [] xs) : PsX w xs k ((W.setCell ⟨w.heap.size, 0, none⟩ (.slice none 0 0)).setCell ⟨w.heap.size + 1, 0, none⟩ (.int .i64 k)) := by
  have h0 := row_store (j := 0) (v := .slice none 0 0) h.r0
  have h1 : (W.setCell ⟨w.heap.size, 0, none⟩ (.slice none 0 0)).heap[w.heap.size + 1]? = some (.cells #[.int .i64 0] 25 (0, 0)) := row_other h.r1 (by simp)
  have h2 := row_store (j := 0) (v := .int .i64 k) h1
  exact { go := hg.symm, r0 := row_other (by simpa using h0) (by simp), r1 := by simpa using h2, below := (h.below.setCell (p := ⟨w.heap.size, 0, none⟩) (Nat.le_refl _) _).setCell (p := ⟨w.heap.size + 1, 0, none⟩) (by show _ ≤ w.heap.size + 1; omega) _, size := by simp [World.setCell]; exact h.size }
theorem one_cell {W : World} {t : TypeId} {x : Value} : ∀ j u, [x][j]? = some u → (W.alloc (.cells #[x] t)).cell? (Addr.add ⟨W.heap.size, 0, none⟩ j) = some u := fun j u hu => by
  match j, hu with
  | 0, hu =>
    simp at hu; subst hu
    simp [Addr.add]
theorem own_ge {W : World} {base n : Nat} {e : TypeId} {v : Value} {xs : List Value} (h : W.ownsRow base e 1 v n xs) : ∀ g, v.ownBlock = some g → base ≤ g := fun g hg => by
  rcases h.2 with ⟨rfl, _⟩ | ⟨g', cap, cur, rfl, h1, _⟩
  · cases hg
  · cases hg; exact h1
theorem PsS.mid (h : PsS w xs out v pre W) (o : Obj) (hg : (W.alloc o).grownBy W' v.ownBlock) : W'.heap[w.heap.size + 2]? = some (.cells #[v] 22 (0, 0)) ∧ W'.heap[w.heap.size]? = some (.cells #[.slice none 0 0] 22 (0, 0)) ∧ W'.heap[w.heap.size + 1]? = some (.cells #[.int .i64 0] 25 (0, 0)) ∧ Below w.heap.size w W' ∧ w.heap.size + 4 ≤ W'.heap.size ∧ W'.heap[w.heap.size + 3]? = W.heap[w.heap.size + 3]? := by
  have hs := h.size
  have key : ∀ (j : Nat), j < w.heap.size + 4 → W'.heap[j]? = W.heap[j]? := fun j hj =>
    (hg.block j (by simp; omega) (fun e => by have := own_ge h.own j e.symm; omega)).trans (Below.heap_alloc _ _ _ (by omega))
  exact ⟨(key _ (by omega)).trans h.bx, (key _ (by omega)).trans h.r0, (key _ (by omega)).trans h.r1, (h.below.alloc h.below.size o).grown hg (by have := h.below.size; simp; omega) (fun k e => by have := own_ge h.own k e; omega), Nat.le_trans (by simp; omega) hg.size, key _ (by omega)⟩
theorem PsS.add (h : PsS w xs out v pre W) (o : Obj) (hg : (W.alloc o).grownBy W' v.ownBlock) {x : ByteArray} {v' : Value} (hown : W'.ownsRow (w.heap.size + 4) 9 1 v' (out.length + 1) (out.map Value.string ++ [.string x])) (hl : out.length < 8) (hgo : pGo (out ++ [x]) (xs.drop pre'.length) = pGo [] xs) :
    PsS w xs (out ++ [x]) v' pre' (W'.setCell ⟨w.heap.size + 2, 0, none⟩ v') := by
  obtain ⟨m1, m2, m3, m4, m5, _⟩ := h.mid o hg
  have hbx := row_store (j := 0) (v := v') m1
  have ho : W'.ownsRow (w.heap.size + 4) 9 1 v' (out ++ [x]).length ((out ++ [x]).map Value.string) := by rw [List.length_append, List.map_append]; exact hown
  exact { bx := by simpa using hbx, own := ownsRow_keep ho (fun g cs hb hh => row_other hh (by show g ≠ _; simp; omega)), go := hgo, len := by rw [List.length_append]; simp; omega, r0 := row_other m2 (by simp), r1 := row_other m3 (by simp), below := m4.setCell (p := ⟨w.heap.size + 2, 0, none⟩) (by show _ ≤ w.heap.size + 2; omega) _, size := by simp [World.setCell]; exact m5 }
theorem keeps_grow {o : Obj} (hg : (W.alloc o).grownBy W' v.ownBlock) {base n : Nat} {e : TypeId} {ys : List Value} (h : W.ownsRow base e 1 v n ys) : KeepsOthers W W' := by
  refine (KeepsOthers.alloc W o).trans (KeepsOthers.of_grownBy hg fun j o' hj hh => ?_)
  rcases h.2 with ⟨rfl, _⟩ | ⟨g', cap, cur, rfl, _, h2, _⟩
  · cases hj
  · cases hj
    rw [(Below.heap_alloc W o g' (Array.getElem?_eq_some_iff.1 h2).1).trans h2] at hh
    cases hh; rfl
theorem keeps_two (u v : Value) (a b : Addr) : KeepsOthers W ((W.setCell a u).setCell b v) := (KeepsOthers.setCell _ _ _).trans (KeepsOthers.setCell _ _ _)
end
set_option maxRecDepth 100000 in
set_option maxHeartbeats 2000000 in
theorem psplit_any (s : ByteArray) (w : World) : Calls Try.prog 37 #[.string s] w (PsPost s w) := by
  refine (callsIn_wide (n := 6)).1 ?_
  have HP : Hid (∀ W, CallsIn Fence.wide (6 - 1) Try.prog 71 #[.string s, .string ⟨#[47]⟩] W fun e w' => e = .returned (.bool (decide (s.size ≠ 0 ∧ bt s 0 = 47))) ∧ w' = W) := fun W => by
    have := Try.strings_HasPrefix s ⟨#[47]⟩ W
    rw [show (⟨#[47]⟩ : ByteArray).data.toList = [47] from rfl, prefix_slash] at this
    exact callsIn_wide.2 this
  refine callsIn_of_wp_marks Try.func37 rfl trivial ?_ rfl
  simp only [Try.ntmps37, List.size_toArray, List.length_cons, List.length_nil, Nat.reduceAdd, Nat.reduceSub, Array.replicate_succ, Array.replicate_zero, List.push_toArray, List.append_toArray, List.nil_append, List.cons_append]
  by_cases h1 : 200 < s.size
  · have F := Lib.hid (ps_large h1)
    have i1 : 200 < (s.size : Int) := by omega
    clear h1
    gi_wp2
    refine ⟨_, results_cc rfl _ _ w.heap.size (w.heap.size + 1) (.slice none 0 0) (.int .i64 2) rfl rfl (by simp [go_sem]) (by simp [go_sem]) Try.isAgg22 Try.isAgg25, ?_⟩
    exact psPost_bad F.out (((Below.refl _ _).alloc (Nat.le_refl _) _).alloc (by simp) _)
  · have i1 : ¬ 200 < (s.size : Int) := by omega
    by_cases h2 : s.size ≠ 0 ∧ bt s 0 = 47
    · have F := Lib.hid (ps_go h1 h2.1 h2.2)
      rw [decide_eq_true h2] at HP
      have HN : Hid (∀ W, CallsIn Fence.wide (6 - 1) Try.prog 72 #[.string s] W fun e w' => e = .returned (.func (.func 96) #[] #[.pointer (some ⟨W.heap.size, 0, none⟩)]) ∧ w' = W.alloc (.cells #[.string s] 9)) := fun W => callsIn_wide.2 (names_any s W)
      have hs200 : s.size ≤ 200 := by omega
      have HS := Lib.hid hs200
      clear h1 hs200
      gi_wp2_with (first
        | (refine ⟨trivial, ?_⟩; gi_at_call 71; refine (HP.out _).mono ?_; rintro e w' ⟨rfl, hw'⟩; rw [hw']; clear hw')
        | (refine ⟨trivial, ?_⟩; gi_at_call 72; refine (HN.out _).mono ?_; rintro e w' ⟨rfl, hw'⟩; rw [hw']; clear hw'))
      obtain ⟨w3, hw3⟩ : ∃ w3, w3 = (((w.alloc (.cells #[.slice none 0 0] 22)).alloc (.cells #[.int .i64 0] 25)).alloc (.cells #[.slice none 0 0] 22)).alloc (.cells #[.string s] 9) := ⟨_, rfl⟩
      have hz3 : w3.heap.size = w.heap.size + 4 := by rw [hw3]; simp
      obtain ⟨xs, hxs⟩ : ∃ xs, xs = pcs [] (bl s) := ⟨_, rfl⟩
      have hF : psV s = pGo [] xs := by
        rw [F.out, hxs]
        cases hl : bl s with
        | nil => exact absurd (by rw [← bl_len, hl]; rfl) h2.1
        | cons c r =>
          have hc : c = 47 := by
            have h0 : 0 < s.size := by omega
            have e2 : (bl s)[0]? = some (s[0]'h0) := by rw [List.getElem?_eq_getElem (by rw [bl_len]; exact h0)]; rfl
            rw [hl] at e2
            simp only [List.getElem?_cons_zero, Option.some.injEq] at e2
            have h3 := h2.2
            rw [← get_bt s 0 h0, ← e2] at h3
            exact UInt8.toNat_inj.1 (by show _ = 47; omega)
          rw [hc, pcs_slash]; rfl
      have e1 : (w.alloc (.cells #[.slice none 0 0] 22)).heap.size = w.heap.size + 1 := by simp
      have e2 : ((w.alloc (.cells #[.slice none 0 0] 22)).alloc (.cells #[.int .i64 0] 25)).heap.size = w.heap.size + 2 := by simp
      have e3 : (((w.alloc (.cells #[.slice none 0 0] 22)).alloc (.cells #[.int .i64 0] 25)).alloc (.cells #[.slice none 0 0] 22)).heap.size = w.heap.size + 3 := by simp
      have q1 := heap_alloc_new (w.alloc (.cells #[.slice none 0 0] 22)) (.cells #[.int .i64 0] 25)
      have q2 := heap_alloc_new ((w.alloc (.cells #[.slice none 0 0] 22)).alloc (.cells #[.int .i64 0] 25)) (.cells #[.slice none 0 0] 22)
      have q3 := heap_alloc_new (((w.alloc (.cells #[.slice none 0 0] 22)).alloc (.cells #[.int .i64 0] 25)).alloc (.cells #[.slice none 0 0] 22)) (.cells #[.string s] 9)
      rw [e1] at q1; rw [e2] at q2; rw [e3] at q3
      have hbox : w3.heap[w.heap.size + 3]? = some (.cells #[.string s] 9 (0, 0)) := by rw [hw3]; exact q3
      have S0 : PsS w xs [] (.slice none 0 0) [] w3 := by
        rw [hw3]
        exact { bx := row_alloc q2 _, own := ⟨rfl, .inl ⟨rfl, rfl⟩⟩, go := rfl, len := by decide, r0 := row_alloc (row_alloc (row_alloc (heap_alloc_new w _) _) _) _, r1 := row_alloc (row_alloc q1 _) _, below := ((((Below.refl _ _).alloc (Nat.le_refl _) _).alloc (by simp) _).alloc (by simp; omega) _).alloc (by simp; omega) _, size := by simp }
      have hseq := names_seq (6 - 1) (by decide) (w.heap.size + 3) s HS.out w3 hbox
      rw [← hxs] at hseq
      rw [← hw3]
      have HF := Lib.hid hF
      clear hF hxs hw3 q1 q2 q3 e1 e2 e3 h2
      refine wpIn_rangeFunc_box rfl (by decide) (gf := 96) (b := w.heap.size + 3) rfl trivial (enters_of Try.func96 (by kernel_rfl) rfl) (xs := xs) (by omega) hseq rfl
        (fun pre W => ∃ out v, PsS w xs out v pre W) (fun c _ W => c = .ret ∧ ∃ k, PsX w xs k W) (by rw [hz3]; exact PsS.own') (fun c => by rw [hz3]; exact PsX.own') (fun pre W u ⟨out, v, h⟩ => ⟨out, v, h.box u⟩) ⟨[], _, S0⟩ ?acts ?assign ?body ?done ?stop
      case assign =>
        intro l x W K hK
        gi_wp2
        exact hK
      case body =>
        rintro l pre x W ⟨out, v, hS⟩ ⟨t, ht⟩
        have hdrop : xs.drop pre.length = x :: t := by rw [← ht, List.append_assoc, List.drop_left]; rfl
        have hdrop2 : xs.drop (pre ++ [x]).length = t := by rw [← ht, List.drop_left]
        have hgo := hS.go
        rw [hdrop] at hgo
        obtain ⟨A, c, rfl⟩ : ∃ A c, v = .slice A out.length c := by
          rcases hS.own.2 with ⟨e, h0⟩ | ⟨g, cap, cur, e, _⟩
          · exact ⟨none, 0, by rw [e, h0]⟩
          · exact ⟨_, _, e⟩
        have c0 := row_cell hS.bx 0
        have f0 := row_cold hS.bx 0
        have c1 := row_cell hS.r0 0
        have c2 := row_cell hS.r1 0
        have f1 := row_cold hS.r0 0
        have f2 := row_cold hS.r1 0
        have HS1 := Lib.hid hS
        have hlen := hS.len
        have hle : out.length ≤ c ∨ (A = none ∧ out.length = 0 ∧ c = 0) := by
          rcases hS.own.2 with ⟨e, h0⟩ | ⟨g, cap, cur, e, _, _, h, _⟩
          · injection e with e1 e2 e3; exact .inr ⟨e1, h0, e3⟩
          · injection e with e1 e2 e3; exact .inl (by omega)
        have hlc : (out.length : Int) ≤ (c : Int) := by omega
        have hl8 : (out.length : Int) ≤ 8 := by omega
        by_cases x1 : x = ⟨#[46]⟩
        · subst x1
          rw [pgo_dot] at hgo
          have HG := Lib.hid hgo
          clear hgo hS
          gi_wp2
          exact ⟨KeepsOthers.refl _, rfl, out, _, { HS1.out with go := by rw [hdrop2]; exact HG.out }⟩
        · obtain ⟨n1, n1'⟩ := str_ne46 x1
          by_cases x2 : x = ⟨#[46, 46]⟩
          · subst x2
            rw [pgo_up] at hgo
            have HG := Lib.hid hgo
            obtain ⟨m, hm⟩ : ∃ m, m = out.length - 1 := ⟨_, rfl⟩
            have hmx : max (0 : Int) ((out.length : Int) - 1) = (m : Int) := by omega
            have hmc : (m : Int) ≤ (c : Int) := by omega
            have hml : (out.dropLast).length = m := by rw [List.length_dropLast, hm]
            have HML := Lib.hid hml
            clear hgo hS
            gi_wp2
            exact ⟨KeepsOthers.setCell _ _ _, Below.heap_setCell _ _ _ _ (by simp), out.dropLast, _, HS1.out.up (by rw [hdrop2]; exact HG.out)⟩
          · obtain ⟨n2, n2'⟩ := str_ne4646 x2
            have HGD : Hid (∀ W, CallsIn Fence.wide (6 - 1 - 1 - 1) Try.prog 27 #[.string x] W fun e w' => e = .returned (.int .i64 (nameE x)) ∧ Below W.heap.size W w') := fun W => callsIn_wide.2 (good_any x W)
            by_cases hx : nameE x = 0
            · rw [hx] at HGD
              by_cases h8 : 8 ≤ out.length
              · rw [pgo_full x1 x2 hx h8] at hgo
                have HG := Lib.hid hgo
                have h8i : ((out.length : Int) == 8) = true := beq_iff_eq.2 (by omega)
                clear hgo hS hx h8
                gi_wp2_with (refine ⟨trivial, ?_⟩; gi_at_call 27; refine (CallsIn.inRound l (HGD.out _)).mono ?_; rintro e w4 ⟨rfl, hb4⟩; have HS4 := Lib.hid (HS1.out.go' hb4); have c3 := row_cell HS4.out.bx 0; have c4 := row_cell HS4.out.r0 0; have c5 := row_cell HS4.out.r1 0; have f4 := row_cold HS4.out.r0 0; have f5 := row_cold HS4.out.r1 0; have HB4 := Lib.hid hb4; clear hb4)
                exact ⟨(keeps_below HB4.out).trans (keeps_two _ _ _ _), rfl, 2, HS4.out.fail HG.out⟩
              · rw [pgo_add x1 x2 hx h8] at hgo
                have HG := Lib.hid hgo
                have h8i : ((out.length : Int) == 8) = false := beq_eq_false_iff_ne.2 (by omega)
                obtain ⟨i0, hi, hz0, hz1, hz2⟩ := info_parts info_strP
                have H8 : Hid (out.length < 8) := by simp only [Hid]; omega
                clear hgo hS hx h8
                gi_wp2_with (first
                  | (refine ⟨trivial, ?_⟩; gi_at_call 27; refine (CallsIn.inRound l (HGD.out _)).mono ?_; rintro e w4 ⟨rfl, hb4⟩; have HS4 := Lib.hid (HS1.out.go' hb4); have c3 := row_cell HS4.out.bx 0; have f3 := row_cold HS4.out.bx 0; have HB4 := Lib.hid hb4; clear hb4)
                  | (gi_at_builtin; refine wpListIn_append_own _ rfl _ _ 22 rfl (w.heap.size + 4) 9 i0 (.string ⟨#[]⟩) 1 16 Try.underlying22 hi hz0 hz1 hz2 rfl (by decide) _ _ _ rfl (HS4.out.own.alloc _) ⟨w4.heap.size, 0, none⟩ 1 1 [.string x] rfl rfl one_cell (by simp [Value.oneCell']) (by have := H8.out; unfold maxLen; omega) (by have := H8.out; omega) (by have := HS4.out.size; simp; omega) ?_; intro v' w5 hown' hgrow _; obtain ⟨A', c', rfl⟩ : ∃ A' c', v' = .slice A' (out.length + 1) c' := (by rcases hown'.2 with ⟨_, h0⟩ | ⟨g, cap, cur, e, _⟩; exact absurd h0 (Nat.succ_ne_zero _); exact ⟨_, _, e⟩); obtain ⟨m1, _⟩ := HS4.out.mid _ hgrow; have c6 := row_cell m1 0; have f6 := row_cold m1 0; have HOW := Lib.hid hown'; have HGR := Lib.hid hgrow; clear hown' hgrow m1))
                have HM := (HS4.out.mid _ HGR.out).2.2.2.2.2
                refine ⟨(keeps_below HB4.out).trans ((keeps_grow HGR.out HS4.out.own).trans (KeepsOthers.setCell _ _ _)), ?_, out ++ [x], _, HS4.out.add _ HGR.out HOW.out H8.out (by rw [hdrop2]; exact HG.out)⟩
                exact (Below.heap_setCell _ _ _ _ (by simp)).trans (HM.trans (HB4.out.block _ (by have := HS1.out.size; omega)))
            · have he : nameE x = 11 := (name_two x).resolve_left hx
              rw [pgo_bad x1 x2 hx] at hgo
              rw [he] at HGD
              have HG := Lib.hid hgo
              clear hgo hS he hx
              gi_wp2_with (refine ⟨trivial, ?_⟩; gi_at_call 27; refine (CallsIn.inRound l (HGD.out _)).mono ?_; rintro e w4 ⟨rfl, hb4⟩; have HS4 := Lib.hid (HS1.out.go' hb4); have c3 := row_cell HS4.out.bx 0; have c4 := row_cell HS4.out.r0 0; have c5 := row_cell HS4.out.r1 0; have f4 := row_cold HS4.out.r0 0; have f5 := row_cold HS4.out.r1 0; have HB4 := Lib.hid hb4; clear hb4)
              exact ⟨(keeps_below HB4.out).trans (keeps_two _ _ _ _), rfl, 11, HS4.out.fail HG.out⟩
      case done =>
        rintro D W hD ⟨out, v, hS⟩ hK
        have hgo := hS.go
        rw [List.drop_length] at hgo
        have hps : psV s = (0, out) := by rw [HF.out, ← hgo]; rfl
        have HPS := Lib.hid hps
        obtain ⟨A, c, rfl⟩ : ∃ A c, v = .slice A out.length c := by
          rcases hS.own.2 with ⟨e, h0⟩ | ⟨g, cap, cur, e, _⟩
          · exact ⟨none, 0, by rw [e, h0]⟩
          · exact ⟨_, _, e⟩
        have c0 := row_cell hS.bx 0
        have c1 := row_cell hS.r0 0
        have c2 := row_cell hS.r1 0
        have f1 := row_cold hS.r0 0
        have f2 := row_cold hS.r1 0
        have HS1 := Lib.hid hS
        have HK := Lib.hid hK
        have HDD : Hid (w.heap.size + 4 ≤ D) := by show _ ≤ D; omega
        clear hgo hps hS hK
        gi_wp2
        obtain ⟨W1, hW1⟩ : ∃ W1, W1 = W.setCell ⟨w.heap.size, 0, none⟩ (.slice A out.length c) := ⟨_, rfl⟩
        obtain ⟨W2, hW2⟩ : ∃ W2, W2 = W1.setCell ⟨w.heap.size + 1, 0, none⟩ (.int .i64 0) := ⟨_, rfl⟩
        have r0 : W1.heap[w.heap.size]? = some (.cells #[.slice A out.length c] 22 (0, 0)) := by
          have := row_store (j := 0) (v := .slice A out.length c) HS1.out.r0
          rw [hW1]; simpa using this
        have r1 : W1.heap[w.heap.size + 1]? = some (.cells #[.int .i64 0] 25 (0, 0)) := by rw [hW1]; exact row_other HS1.out.r1 (by simp)
        have o1 : W1.ownsRow (w.heap.size + 4) 9 1 (.slice A out.length c) out.length (out.map Value.string) := by rw [hW1]; exact ownsRow_keep HS1.out.own fun g cs hb hh => row_other hh (by show g ≠ _; simp; omega)
        have hb1 : Below w.heap.size w W1 := by rw [hW1]; exact HS1.out.below.setCell (p := ⟨w.heap.size, 0, none⟩) (Nat.le_refl _) _
        have hk1 : W1.heap[D]? = some (.deferred (some [])) := by rw [hW1]; exact (KeepsOthers.setCell _ _ _).same D _ HK.out rfl
        have r0' : W2.heap[w.heap.size]? = some (.cells #[.slice A out.length c] 22 (0, 0)) := by rw [hW2]; exact row_other r0 (by simp)
        have r1' : W2.heap[w.heap.size + 1]? = some (.cells #[.int .i64 0] 25 (0, 0)) := by
          have := row_store (j := 0) (v := .int .i64 0) r1
          rw [hW2]; simpa using this
        have o2 : W2.ownsRow (w.heap.size + 4) 9 1 (.slice A out.length c) out.length (out.map Value.string) := by rw [hW2]; exact ownsRow_keep o1 fun g cs hb hh => row_other hh (by show g ≠ _; simp; omega)
        have hb2 : Below w.heap.size w W2 := by rw [hW2]; exact hb1.setCell (p := ⟨w.heap.size + 1, 0, none⟩) (by show _ ≤ w.heap.size + 1; omega) _
        have hk2 : W2.heap[D]? = some (.deferred (some [])) := by rw [hW2]; exact (KeepsOthers.setCell _ _ _).same D _ hk1 rfl
        rw [← hW1, ← hW2]
        refine ⟨by simp, .inl ⟨_, _, rfl, run_takeDeferred hk2, ?_⟩⟩
        have hD4 := HDD.out
        have hDl := (Array.getElem?_eq_some_iff.1 hk2).1
        refine ⟨_, results_cc rfl _ _ w.heap.size (w.heap.size + 1) (.slice A out.length c) (.int .i64 0) rfl rfl (row_cell ((World.putObj_heap_other (by omega)).trans r0') 0) (row_cell ((World.putObj_heap_other (by omega)).trans r1') 0) Try.isAgg22 Try.isAgg25, ?_⟩
        have o3 : (W2.putObj D (.deferred none)).ownsRow (w.heap.size + 4) 9 1 (.slice A out.length c) out.length (out.map Value.string) := ownsRow_keep o2 fun g cs hb hh => (World.putObj_heap_other (by intro e; subst e; rw [hk2] at hh; cases hh)).trans hh
        refine ⟨A, out.length, c, by rw [HPS.out], ?_, hb2.trans ((Below.refl _ _).grown (grownBy_putObj' W2 D _) (by have := hb2.size; omega) (fun j e => by cases e; omega))⟩
        rw [HPS.out]
        exact own_strsF (Owns.of_row o3)
      case stop =>
        rintro D c pre W hD hpre ⟨rfl, k, hX⟩ hK
        gi_wp2
        refine ⟨by simp, .inl ⟨_, _, rfl, run_takeDeferred hK, ?_⟩⟩
        have hDl := (Array.getElem?_eq_some_iff.1 hK).1
        refine ⟨_, results_cc rfl _ _ w.heap.size (w.heap.size + 1) (.slice none 0 0) (.int .i64 k) rfl rfl (row_cell ((World.putObj_heap_other (by omega)).trans hX.r0) 0) (row_cell ((World.putObj_heap_other (by omega)).trans hX.r1) 0) Try.isAgg22 Try.isAgg25, ?_⟩
        exact psPost_bad (by rw [HF.out]; exact hX.go) (hX.below.trans ((Below.refl _ _).grown (grownBy_putObj' W D _) (by have := hX.below.size; omega) (fun j e => by cases e; omega)))
    · have F := Lib.hid (ps_name h1 (by by_cases h : s.size = 0; exact .inl h; exact .inr fun e => h2 ⟨h, e⟩))
      rw [decide_eq_false h2] at HP
      clear h1 h2
      gi_wp2_with (refine ⟨trivial, ?_⟩; gi_at_call 71; refine (HP.out _).mono ?_; rintro e w' ⟨rfl, hw'⟩; rw [hw']; clear hw')
      refine ⟨_, results_cc rfl _ _ w.heap.size (w.heap.size + 1) (.slice none 0 0) (.int .i64 11) rfl rfl (by simp [go_sem]) (by simp [go_sem]) Try.isAgg22 Try.isAgg25, ?_⟩
      exact psPost_bad F.out (((Below.refl _ _).alloc (Nat.le_refl _) _).alloc (by simp) _)
end Go.Proofs.Ytfhgglghofhndaa
