/- The starter's way behind the join: what it may touch, its rows of strings, an append. No condition of ours. -/
import Derived.Test.YtebgcemglicjiaaCvJa
import Derived.Test.YtebgcemglicjiaaCwJd
namespace Go.Proofs.Ytebgcemglicjiaa
open Go.Conc Go.ConcN Go.RowKit
/-- The starter's state behind the join: all that stood ahead of the hands but the group's block is its own, and stands. -/
structure TS (c : Cfg) (wt : World) (own : Nat → Prop) (w : World) : Prop where
  hB : ∀ b, b < c.B → b ≠ c.Wg → own b
  hS : ∀ b, own b → b < w.heap.size
  hK : ∀ b, b < c.B → b ≠ c.Wg → w.heap[b]? = wt.heap[b]?
  hN : c.B ≤ w.heap.size
section
variable {c : Cfg} {wt : World} {own own' : Nat → Prop} {w w₁ : World}
theorem TS.rely (h : TS c wt own w) (r : Rly own w w₁) : TS c wt own w₁ :=
  ⟨h.hB, fun b hb => Nat.lt_of_lt_of_le (h.hS b hb) r.size, fun b h1 h2 => (r.kept b (h.hB b h1 h2)).trans (h.hK b h1 h2), Nat.le_trans h.hN r.size⟩
theorem TS.step {Rd : Nat → Prop} {es : Array Event} (h : TS c wt own w) (A : ActK Rd own own' w w₁ es) (hk : ∀ b, b < c.B → b ≠ c.Wg → w₁.heap[b]? = w.heap[b]?) : TS c wt own' w₁ :=
  ⟨fun b h1 h2 => A.old b (h.hB b h1 h2), fun b hb => by
    rcases A.new b hb with h1 | h1
    · exact Nat.lt_of_lt_of_le (h.hS b h1) A.size
    · exact h1.2, fun b h1 h2 => (hk b h1 h2).trans (h.hK b h1 h2), Nat.le_trans h.hN A.size⟩
theorem TS.cell (h : TS c wt own w) {a : Addr} (h1 : a.block < c.B) (h2 : a.block ≠ c.Wg) : w.cell? a = wt.cell? a := by
  unfold World.cell?; rw [h.hK _ h1 h2]
theorem actK_of_act1 {Rd o1 o2 : Nat → Prop} {es : Array Event} (A : Act1 o1 o2 w w₁ es) (h : ∀ b, o1 b → own b) : ActK Rd own (fun b => own b ∨ o2 b) w w₁ es where
  tape := A.tape
  os := A.os
  output := A.output
  size := A.size
  others b h1 h2 := A.others b h1 fun h => h2 (.inr h)
  mine b h1 h2 := .inr (A.mine b h1 h2)
  new b hb := by
    rcases hb with hb | hb
    · exact .inl hb
    · rcases A.new b hb with h1 | h1
      · exact .inl (h b h1)
      · exact .inr h1
  old b hb := .inl hb
  evs e he := by
    rcases A.evs e he with ⟨a, x, rfl, hm⟩ | ⟨r, rfl, hm⟩ | hm
    · exact .inl (.inl ⟨a, x, rfl, .inr hm⟩)
    · exact .inl (.inr (.inl ⟨r, rfl, .inr hm⟩))
    · exact .inl (.inr (.inr hm))
end
/-! ### blocks that stand for themselves -/
def Ren.on (N : Nat) (S : List Nat) (h : ∀ b ∈ S, N ≤ b) : Ren N where
  f b := if b ∈ S then some b else Option.none
  inj a b d ha hb := by
    split at ha <;> split at hb <;> simp_all
  low b d hd := by
    split at hd
    · rename_i hm; cases hd; exact ⟨h b hm, h b hm⟩
    · cases hd
theorem Ren.on_at {N : Nat} {S : List Nat} {h : ∀ b ∈ S, N ≤ b} {b : Nat} (hb : b ∈ S) : (Ren.on N S h) b = some b := by show (if b ∈ S then some b else Option.none) = some b; rw [if_pos hb]
theorem Ren.on_img {N : Nat} {S : List Nat} {h : ∀ b ∈ S, N ≤ b} {d : Nat} (hd : (Ren.on N S h).img d) : d ∈ S := by
  obtain ⟨b, hb⟩ := hd
  have hb' : (if b ∈ S then some b else Option.none) = some d := hb
  split at hb'
  · cases hb'; assumption
  · cases hb'
/-- A row of plain cells. -/
def FlatAt (w : World) (b : Nat) : Prop := ∃ cs t fz, w.heap[b]? = some (.cells cs t fz) ∧ cs.all flatV = true
theorem hr_on {P : Program} {F : Nat → Bool} {S : List Nat} {h : ∀ b ∈ S, P.globals.size ≤ b} {w : World} (hN : P.globals.size ≤ w.heap.size) (hf : ∀ b ∈ S, FlatAt w b) : HR F (Ren.on P.globals.size S h) w.heap w.heap :=
  ⟨hN, hN, fun b d hb => by
    have hb' : (if b ∈ S then some b else Option.none) = some d := hb
    split at hb'
    · rename_i hm
      cases hb'
      obtain ⟨cs, t, fz, h1, h2⟩ := hf b hm
      exact ⟨_, _, h1, h1, .inl ⟨cs, cs, t, fz, rfl, rfl, AR.flat h2⟩⟩
    · cases hb'⟩
/-! ### rows of strings -/
def SRow (B : Nat) (e : TypeId) (w : World) (v : Value) (xs : List ByteArray) : Prop :=
  (v = .slice none 0 0 ∧ xs = []) ∨ ∃ g cap cur, v = .slice (some ⟨g, 0, none⟩) xs.length cap ∧ B ≤ g ∧ w.heap[g]? = some (.cells cur e (0, 0)) ∧ xs.length ≤ cap ∧ cap ≤ maxLen ∧ cur.size = cap ∧ cur.toList.take xs.length = xs.map Value.string ∧ cur.all flatV = true
theorem srow_nil (B : Nat) (e : TypeId) (w : World) : SRow B e w (.slice none 0 0) [] := .inl ⟨rfl, rfl⟩
/-- What a row's block must be, to stand. -/
def RowIn (own : Nat → Prop) (v : Value) : Prop := ∀ g o n m, v = .slice (some ⟨g, o, none⟩) n m → own g
theorem SRow.kept {B : Nat} {e : TypeId} {w w' : World} {v : Value} {xs : List ByteArray} (h : SRow B e w v xs) (hk : ∀ g o n m, v = .slice (some ⟨g, o, none⟩) n m → w'.heap[g]? = w.heap[g]?) : SRow B e w' v xs := by
  rcases h with h | ⟨g, cap, cur, rfl, h1, h2, h3⟩
  · exact .inl h
  · exact .inr ⟨g, cap, cur, rfl, h1, (hk g 0 _ _ rfl).trans h2, h3⟩
theorem SRow.rely {B : Nat} {e : TypeId} {own : Nat → Prop} {w w' : World} {v : Value} {xs : List ByteArray} (h : SRow B e w v xs) (hi : RowIn own v) (r : Rly own w w') : SRow B e w' v xs :=
  h.kept fun g o n m e => r.kept g (hi g o n m e)
theorem take_flat {xs : List ByteArray} {s : ByteArray} {cur : Array Value} {n : Nat} (h : cur.toList.take n = xs.map Value.string) (hn : xs.length = n) (hf : cur.all flatV = true) (hc : n < cur.size) :
    (cur.toList.take n ++ [Value.string s] ++ cur.toList.drop (n + 1)).toArray.size = cur.size ∧ (cur.toList.take n ++ [Value.string s] ++ cur.toList.drop (n + 1)).toArray.toList.take (n + 1) = (xs ++ [s]).map Value.string ∧ (cur.toList.take n ++ [Value.string s] ++ cur.toList.drop (n + 1)).toArray.all flatV = true := by
  refine ⟨?_, ?_, ?_⟩
  · simp; omega
  · rw [h, ← hn]
    have e : ((xs.map Value.string) ++ [Value.string s]).length = xs.length + 1 := by simp
    rw [List.toList_toArray, ← e, List.take_left]
    simp
  · rw [Array.all_eq_true'] at hf ⊢
    intro x hx
    simp only [List.mem_toArray, List.mem_append, List.mem_singleton] at hx
    rcases hx with (hx | rfl) | hx
    · exact hf x (Array.mem_toList_iff.1 (List.mem_of_mem_take hx))
    · rfl
    · exact hf x (Array.mem_toList_iff.1 (List.mem_of_mem_drop hx))
section
variable {P : Program}
/-- What append does to a row of one's own: its value, its world, what it touches. -/
theorem append_row {t ty e : TypeId} (ht : P.underlying t = some (.slice e)) (hinfo : (P.info? e).map (fun i => (i.zero, i.size, i.bytes)) = some (some (.string ⟨#[]⟩), 1, 16)) (ho : okApp P #[t, t] = true)
    {B : Nat} {w : World} {v : Value} {xs : List ByteArray} {s : ByteArray} {h : Nat} (hv : SRow B e w v xs) (hs : w.heap[h]? = some (.cells #[.string s] e (0, 0))) (hBh : B ≤ h) (hPB : P.globals.size ≤ B) (hl : xs.length ≤ 1000) (hBw : B ≤ w.heap.size)
    (hne : ∀ g o n m, v = .slice (some ⟨g, o, none⟩) n m → g ≠ h) :
    ∃ (v' : Value) (w' : World) (S : List Nat) (own' : Nat → Prop), (Builtin.append_ #[t, t] ty #[v, .slice (some ⟨h, 0, none⟩) 1 1]).run P w = .ok v' w' ∧ Act1 (fun b => b ∈ S) own' w w' ((Builtin.append_ #[t, t] ty #[v, .slice (some ⟨h, 0, none⟩) 1 1]).events P w #[]) ∧
      (∀ b ∈ S, b = h ∨ ∃ o n m, v = .slice (some ⟨b, o, none⟩) n m) ∧ SRow B e w' v' (xs ++ [s]) ∧ RowIn own' v' ∧ (∀ b, b < B → w'.heap[b]? = w.heap[b]?) ∧ ∀ g o n m, v' = .slice (some ⟨g, o, none⟩) n m → (∃ o n m, v = .slice (some ⟨g, o, none⟩) n m) ∨ w.heap.size ≤ g := by
  obtain ⟨i, hi, hii⟩ := Option.map_eq_some_iff.1 hinfo
  simp only [Prod.mk.injEq] at hii
  obtain ⟨hz, hsz, hby⟩ := hii
  have hcell : w.cell? ⟨h, 0, none⟩ = some (.string s) := by simp [World.cell?, hs]
  have hnews : ∀ j u, [Value.string s][j]? = some u → w.cell? ((⟨h, 0, none⟩ : Addr).add j) = some u := by
    intro j u hu
    cases j with
    | zero => rw [show (⟨h, 0, none⟩ : Addr).add 0 = ⟨h, 0, none⟩ from rfl, hcell]; simpa using hu
    | succ j => simp at hu
  have fh : FlatAt w h := ⟨_, _, _, hs, by simp [flatV]⟩
  obtain ⟨S, hS, hSf, hSB, hSr, hSh⟩ : ∃ S : List Nat, (∀ b ∈ S, b = h ∨ ∃ o n m, v = .slice (some ⟨b, o, none⟩) n m) ∧ (∀ b ∈ S, FlatAt w b) ∧ (∀ b ∈ S, P.globals.size ≤ b) ∧ (∀ g o n m, v = .slice (some ⟨g, o, none⟩) n m → g ∈ S) ∧ h ∈ S := by
    rcases hv with ⟨rfl, _⟩ | ⟨g, cap, cur, rfl, h1, h2, h3, h4, h5, h6, h7⟩
    · exact ⟨[h], fun b hb => .inl (by simpa using hb), fun b hb => (by simp at hb; subst hb; exact fh), fun b hb => (by simp at hb; omega), fun g o n m e => (by cases e), by simp⟩
    · refine ⟨[h, g], fun b hb => ?_, fun b hb => ?_, fun b hb => ?_, fun g o n m e => ?_, by simp⟩
      · simp at hb
        rcases hb with rfl | rfl
        · exact .inl rfl
        · exact .inr ⟨_, _, _, rfl⟩
      · simp at hb
        rcases hb with rfl | rfl
        · exact fh
        · exact ⟨_, _, _, h2, h7⟩
      · simp at hb; rcases hb with rfl | rfl <;> omega
      · cases e; simp
  have hvr : VR (fun _ => false) (Ren.on P.globals.size S hSB) v v := by
    rcases hv with ⟨rfl, _⟩ | ⟨g, cap, cur, rfl, _⟩
    · exact .snil 0 0
    · exact .slice _ _ (Ren.on_at (hSr _ _ _ _ rfl))
  have har : AR (fun _ => false) (Ren.on P.globals.size S hSB) #[v, .slice (some ⟨h, 0, none⟩) 1 1] #[v, .slice (some ⟨h, 0, none⟩) 1 1] := by
    have := (AR.empty (F := fun _ => false) (p := Ren.on P.globals.size S hSB)).push hvr
    exact this.push (.slice 1 1 (Ren.on_at hSh))
  have tw := (sr_append (P := P) (F := fun _ => false) ho ty har).twin w w (hr_on (by omega) hSf)
  obtain ⟨v', w', hr, hrow, hBlk, hnew⟩ : ∃ v' w', (Builtin.append_ #[t, t] ty #[v, .slice (some ⟨h, 0, none⟩) 1 1]).run P w = .ok v' w' ∧ SRow B e w' v' (xs ++ [s]) ∧ (∀ b, b < B → w'.heap[b]? = w.heap[b]?) ∧ ∀ g o n m, v' = .slice (some ⟨g, o, none⟩) n m → (∃ o n m, v = .slice (some ⟨g, o, none⟩) n m) ∨ w.heap.size ≤ g := by
    have zc : ∀ n, (Builtin.zeroCells (Value.string ⟨#[]⟩).cells n).all flatV = true := by
      intro n
      rw [Array.all_eq_true']
      intro x hx
      simp [Builtin.zeroCells, Value.cells] at hx
      obtain ⟨k, _, rfl⟩ := hx
      rw [Nat.mod_one]; rfl
    have zs : ∀ n, (Builtin.zeroCells (Value.string ⟨#[]⟩).cells n).size = n := fun n => by simp [size_zeroCells, Value.cells]
    rcases hv with ⟨rfl, rfl⟩ | ⟨g, cap, cur, rfl, h1, h2, h3, h4, h5, h6, h7⟩
    · refine ⟨_, _, run_append_nil (P := P) w t ty e i (.string ⟨#[]⟩) ht hi hz ⟨h, 0, none⟩ 1 1 [.string s] (by simp [hsz]) hnews (by omega) (by omega) (by rw [hby]; omega), .inr ⟨w.heap.size, grownCap w 1 0 e, _, rfl, hBw, heap_alloc_new w.drew _, ?_, ?_, ?_, ?_, ?_⟩, fun b hb => heap_alloc_old w.drew _ (by show b < w.heap.size; omega), fun g o n m e => by cases e; exact .inr (Nat.le_refl _)⟩
      · exact grownCap_ge w 1 0 e
      · exact grownCap_le_maxLen w 1 0 e (by simp only [maxLen]; omega)
      · have := grownCap_ge w 1 0 e
        simp [zs]; omega
      · rw [Array.toList_append, List.take_left' (by simp)]
        simp
      · rw [Array.all_append, zc]; simp [flatV]
    · by_cases hroom : xs.length + 1 ≤ cap
      · obtain ⟨k1, k2, k3⟩ := take_flat (s := s) h6 rfl h7 (by omega)
        refine ⟨_, _, run_append_room (P := P) w t ty e i ht hi g xs.length cap cur h2 ⟨h, 0, none⟩ 1 1 [.string s] (by simp [hsz]) hnews (by simp [Value.oneCell']) hroom (by simp [hsz]; omega), .inr ⟨g, cap, _, by simp, h1, setRow_heap w g cur _ e _ h2, by simpa using hroom, h4, ?_, ?_, ?_⟩, fun b hb => setRow_other w g b _ (by omega), fun g o n m e => by cases e; exact .inl ⟨_, _, _, rfl⟩⟩
        · simp only [hsz, Nat.mul_one, List.length_singleton]; rw [k1]; exact h5
        · simp only [hsz, Nat.mul_one, List.length_singleton, List.length_append]; exact k2
        · simp only [hsz, Nat.mul_one, List.length_singleton]; exact k3
      · have holds : ∀ j u, (xs.map Value.string)[j]? = some u → w.cell? ((⟨g, 0, none⟩ : Addr).add j) = some u := by
          intro j u hu
          have hadd : (⟨g, 0, none⟩ : Addr).add j = ⟨g, j, none⟩ := by unfold Addr.add; split <;> simp_all
          rw [hadd, cell_of_row w g j cur e (0, 0) h2]
          rw [← h6, List.getElem?_take] at hu
          split at hu
          · simpa using hu
          · cases hu
        have hn16 : Builtin.nextslicecap (xs.length + 1) cap * 16 ≤ 281474976710656 := growslice_fits (need := xs.length + 1) (old := cap) (bytes := 16) (by omega) (by omega)
        refine ⟨_, _, run_append_grow (P := P) w t ty e i (.string ⟨#[]⟩) ht hi hz ⟨g, 0, none⟩ xs.length cap (xs.map Value.string) (by simp [hsz]) holds ⟨h, 0, none⟩ 1 1 [.string s] (by simp [hsz]) hnews (by omega) (by omega) (by rw [hby]; exact hn16), .inr ⟨w.heap.size, grownCap w (xs.length + 1) cap e, _, by simp, hBw, heap_alloc_new w.drew _, ?_, ?_, ?_, ?_, ?_⟩, fun b hb => heap_alloc_old w.drew _ (by show b < w.heap.size; omega), fun g o n m e => by cases e; exact .inr (Nat.le_refl _)⟩
        · have := grownCap_ge w (xs.length + 1) cap e; simpa using this
        · exact grownCap_le_maxLen w (xs.length + 1) cap e (by simp only [maxLen]; omega)
        · have := grownCap_ge w (xs.length + 1) cap e
          simp [zs]; omega
        · rw [Array.toList_append, List.take_left' (by simp)]
          simp
        · have e1 : ∀ x ∈ (xs.map Value.string).toArray ++ [Value.string s].toArray ++ Builtin.zeroCells (Value.string ⟨#[]⟩).cells (grownCap w (xs.length + 1) cap e - (xs.length + 1)), flatV x = true := by
            intro x hx
            rcases Array.mem_append.1 hx with hx | hx
            · rcases Array.mem_append.1 hx with hx | hx
              · obtain ⟨y, _, rfl⟩ := List.mem_map.1 (List.mem_toArray.1 hx); rfl
              · simp at hx; subst hx; rfl
            · have z := zc (grownCap w (xs.length + 1) cap e - (xs.length + 1))
              rw [Array.all_eq_true'] at z
              exact z x hx
          rw [Array.all_eq_true']
          exact e1
  rcases tw with ⟨m, a, b, q, h₁, w₁', es, hA, hH, hD, _, hl2, hrr⟩ | ⟨m, hbad⟩
  · have e1 : (Builtin.append_ #[t, t] ty #[v, .slice (some ⟨h, 0, none⟩) 1 1]).run P w = .ok b w₁' := by rw [← Sem.runT_fst P _ w #[], hrr]
    rw [hr] at e1
    injection e1 with e1 e2
    subst e1 e2
    have e3 : (Builtin.append_ #[t, t] ty #[v, .slice (some ⟨h, 0, none⟩) 1 1]).events P w #[] = es := by unfold Sem.events; rw [hrr]; simp
    refine ⟨v', w', S, q.img, hr, ?_, hS, hrow, ?_, hBlk, hnew⟩
    · rw [e3]
      have A := hD.act hH
      exact { A with new := fun b hb => (A.new b hb).imp (fun h => Ren.on_img h) id, old := fun b hb => A.old b ⟨b, Ren.on_at hb⟩ }
    · intro g o n m e
      subst e
      cases hA with
      | slice n m h => exact ⟨_, h⟩
  · obtain ⟨hh, wz, _, e1⟩ := hbad w.tape fun _ _ _ => rfl
    have : (Builtin.append_ #[t, t] ty #[v, .slice (some ⟨h, 0, none⟩) 1 1]).run P w = .halt hh wz := e1
    rw [hr] at this
    cases this
end
end Go.Proofs.Ytebgcemglicjiaa
