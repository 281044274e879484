/- bits.From's making and bits.Unpack, walked. -/
import Derived.Test.YtnnmiolgffcgkaaFromW
import Derived.Test.YtnnmiolgffcgkaaApp
import Derived.Test.YtnnmiolgffcgkaaFirst
import Derived.Test.YtnnmiolgffcgkaaBlk
import Derived.OneCell
namespace Go.Proofs.Ytnnmiolgffcgkaa
open Go.RowKit Go.PlainAid

set_option maxRecDepth 20000 in
set_option maxHeartbeats 400000 in
theorem from_any (s : ByteArray) (p : Nat) (w : World) :
    Calls Try.prog 79 #[.string s, .int .i64 p] w fun e w' => ∃ ba bs, e = .returned (.func (.func 106) #[] #[.pointer (some ⟨ba, 0, none⟩), .pointer (some ⟨bs, 0, none⟩)]) ∧ Rd w' w.heap.size ba bs s p ∧ Below w.heap.size w w' := by
  go_enter Try.func79, Try.ntmps79
  go_wp2
  go_ret
  have e0 : ∀ (a b : Obj), ((w.alloc a).alloc b).heap[w.heap.size]? = some a := fun a b => by
    rw [heap_alloc_old _ _ (by simp)]; exact heap_alloc_new w a
  have e1 : ∀ (a b : Obj), ((w.alloc a).alloc b).heap[w.heap.size + 1]? = some b := fun a b => by
    have := heap_alloc_new (w.alloc a) b
    simpa using this
  exact ⟨w.heap.size + 1, w.heap.size, rfl, ⟨by omega, by omega, by simp, by simp; omega, by omega, cell_of_one (e1 _ _), free_of_one (e1 _ _), cell_of_one (e0 _ _)⟩, ((Below.refl _ _).alloc (Nat.le_refl _) _).alloc (by simp) _⟩

theorem info_u64u : (Try.prog.info? 51).map (fun i => (i.zero, i.size, i.bytes)) = some (some (.int .u64 0), 1, 8) := by kernel_rfl
theorem no_u64s (w : World) (B : Nat) : RowsIn w B none 0 0 (fun z => [.int .u64 z]) 1 ([] : List Int) := ⟨rfl, Nat.le_refl _, Nat.zero_le _, fun i x h => by simp at h⟩
theorem flat_u64s (xs : List Int) : xs.flatMap (fun z => [Value.int .u64 z]) = xs.map (Value.int .u64) := by
  induction xs with
  | nil => rfl
  | cons x r ih => simp [List.flatMap_cons, ih]
theorem own_u64s {w : World} {base n c : Nat} {A : Option Addr} {xs : List Int} (h : Owns w base 1 (.slice A n c) n (xs.map (Value.int .u64))) : RowsIn w w.heap.size A n c (fun z => [.int .u64 z]) 1 xs := by
  rw [← flat_u64s] at h
  exact h.rows (enc := fun z => [Value.int .u64 z]) (k := 1) (fun _ => rfl) Nat.one_pos
theorem Rd.left {W w' : World} {base B ba bs p : Nat} {s : ByteArray} {row : Option Nat} (h : Rd W base ba bs s p) (hl : Left W w' B row) (hB : ∀ g, row = some g → ba < g ∧ bs < g) : Rd w' base ba bs s p :=
  h.on hl.size (hl.grown.block bs h.lt' (fun e => by have := (hB bs e.symm).2; omega))
    ((World.cell?_of_block (a := ⟨ba, 0, none⟩) (hl.grown.block ba h.lt (fun e => by have := (hB ba e.symm).1; omega))).trans h.at_)
    ((World.frozen?_of_block (a := ⟨ba, 0, none⟩) (hl.grown.block ba h.lt (fun e => by have := (hB ba e.symm).1; omega))).trans h.free)
theorem unp_first (ws : List Int) : ∃ J, J ≤ ws.length ∧ (∀ i, i < J → ∃ x : Nat, ws[i]? = some (x : Int) ∧ x ≤ 64) ∧ (J < ws.length → ∃ x, ws[J]? = some x ∧ ¬ WOk x) := by
  obtain ⟨J, a, b, c⟩ := first_to (G := fun i => ∃ x : Nat, ws[i]? = some (x : Int) ∧ x ≤ 64) (B := fun i => ∃ x, ws[i]? = some x ∧ ¬ WOk x) ws.length (fun i hi => by
    have e := List.getElem?_eq_getElem hi
    by_cases h : WOk ws[i]
    · exact .inl ⟨ws[i].toNat, by rw [e]; congr 1; have := h.1; omega, by have := h.2; omega⟩
    · exact .inr ⟨_, e, h⟩)
  exact ⟨J, a, b, c⟩
theorem unp_all {ws : List Int} {J : Nat} (hJ : J = ws.length) (h : ∀ i, i < J → ∃ x : Nat, ws[i]? = some (x : Int) ∧ x ≤ 64) : ∀ x ∈ ws, WOk x := fun x hx => by
  obtain ⟨i, hi, rfl⟩ := List.mem_iff_getElem.1 hx
  obtain ⟨y, e, hy⟩ := h i (by omega)
  rw [List.getElem?_eq_getElem hi] at e
  injection e with e
  rw [e]; exact ⟨by omega, by omega⟩

def UnPost (s : ByteArray) (ws : List Int) (w : World) (e : Ending) (w' : World) : Prop := ∃ A q d, e = .returned (.tuple #[.slice A q d, .int .i64 (unpE s ws)]) ∧ RowsIn w' w'.heap.size A q d (fun z => [.int .u64 z]) 1 (unpX s ws) ∧ Below w.heap.size w w'
theorem unPost_no {s : ByteArray} {ws : List Int} {w w' : World} {k : Int} (h : unpE s ws = k ∧ unpX s ws = []) (hb : Below w.heap.size w w') : UnPost s ws w (.returned (.tuple #[.slice none 0 0, .int .i64 k])) w' :=
  ⟨none, 0, 0, by rw [h.1], by rw [h.2]; exact no_u64s _ _, hb⟩

set_option maxRecDepth 20000 in
set_option maxHeartbeats 2000000 in
theorem unp_any (s : ByteArray) (A : Option Addr) (n c : Nat) (ws : List Int) (w : World) (r : RowsIn w w.heap.size A n c (fun z => [.int .i64 z]) 1 ws) (hs : s.size ≤ 1048575) (hn : n ≤ 1048575) :
    Calls Try.prog 44 #[.string s, .slice A n c] w (UnPost s ws w) := by
  have hlen := r.len
  obtain rfl := hlen
  obtain ⟨J, hJ, hg, hbd⟩ := unp_first ws
  have HG := Lib.hid hg
  have HBD := Lib.hid hbd
  have HF := Lib.hid (fun W => from_any s 0 W)
  clear hg hbd
  have hz0 : wsum (ws.take 0) = 0 := by simp [wsum]
  go_enter Try.func44, Try.ntmps44
  go_wp2
  go_loop [6, 15] (fun v6 v15 => ∃ i : Nat, i ≤ J ∧ v15 = .int .i64 i ∧ v6 = .int .i64 (wsum (ws.take i)) ∧ wsum (ws.take i) ≤ 64 * i) (fun _ v15 => ws.length - (intOf v15).toNat)
  case atStart => exact ⟨0, Nat.zero_le _, rfl, by rw [hz0]; rfl, by omega⟩
  case round =>
    obtain ⟨i, hi, rfl, rfl, hti⟩ := hrel
    clear hz0
    by_cases hlt : i < J
    · obtain ⟨x, e1, hx⟩ := HG.out i hlt
      obtain ⟨b, o, rfl, hbB, hc⟩ := r.one e1
      have HT := Lib.hid (wsum_succ e1)
      rw [Int.toNat_natCast] at HT
      have i1 : (i : Int) < (ws.length : Int) := by omega
      generalize wsum (ws.take i) = T at *
      clear e1
      go_wp2
      go_round
      case rel => exact ⟨i + 1, by omega, by go_num, by rw [HT.out]; go_num, by rw [HT.out]; omega⟩
      case measure => (simp [intOf]; try omega)
    · obtain rfl : i = J := by omega
      by_cases hend : i < ws.length
      · obtain ⟨x, e1, hx⟩ := HBD.out hend
        obtain ⟨b, o, rfl, hbB, hc⟩ := r.one e1
        have F := Lib.hid (unp_arg (s := s) e1 hx)
        have i1 : (i : Int) < (ws.length : Int) := by omega
        have hx' : x < 0 ∨ (0 ≤ x ∧ 64 < x) := by unfold WOk at hx; omega
        clear hx e1
        rcases hx' with h | ⟨h, h'⟩
        all_goals
          go_wp2
          go_ret2
          exact unPost_no F.out (Below.refl _ _)
      · have hie : i = ws.length := by omega
        have hall := unp_all hie HG.out
        have hTT : wsum (ws.take i) = wsum ws := by rw [List.take_of_length_le (by omega)]
        rw [hTT] at hti ⊢
        have i1 : ¬ (i : Int) < (ws.length : Int) := by omega
        have HIE := Lib.hid hie
        by_cases hsh : 8 * s.size < wsum ws
        · have F := Lib.hid (unp_short hall hsh)
          have j1 : 8 * (s.size : Int) < (wsum ws : Int) := by omega
          generalize wsum ws = T at *
          clear hie hall hTT
          go_wp2
          go_ret2
          exact unPost_no F.out (Below.refl _ _)
        · have F := Lib.hid (unp_ok hall hsh)
          have j1 : ¬ 8 * (s.size : Int) < (wsum ws : Int) := by omega
          have HSUM : Hid (∀ k, k ≤ ws.length → wsum (ws.take k) ≤ 8 * s.size) := fun k hk => by have := wsum_le k hk; omega
          generalize wsum ws = T at *
          clear hie hall hTT hsh
          go_wp2_with (go_at_call 79; refine (HF.out _).mono ?_; rintro e w1 ⟨ba, bs, rfl, hrd, hb1⟩)
          have hrlt := hrd.lt
          have hrlt' := hrd.lt'
          have hz1 := hb1.size
          have hrd0 : Rd w1 w.heap.size ba bs s (wsum (ws.take 0)) := by simpa [wsum] using hrd
          go_loopw [10, 38] (fun v10 v38 wr => ∃ i : Nat, i ≤ ws.length ∧ v38 = .int .i64 i ∧ Owns wr w1.heap.size 1 v10 i ((unN s ws i).map (Value.int .u64)) ∧ Rd wr w.heap.size ba bs s (wsum (ws.take i)) ∧ Below w.heap.size w wr ∧ w1.heap.size ≤ wr.heap.size) (fun _ v38 _ => ws.length - (intOf v38).toNat)
          case atStart => exact ⟨0, Nat.zero_le _, rfl, Owns.nil _ _ _, hrd0, hb1, Nat.le_refl _⟩
          case round =>
            obtain ⟨k, hk, rfl, hown, hR, hb, hz⟩ := hrel
            obtain ⟨AO, cO, rfl⟩ := hown.form
            by_cases hlt : k < ws.length
            · obtain ⟨x, e1, hx⟩ := HG.out k (by omega)
              obtain ⟨b, o, rfl, hbB, hc⟩ := (r.below hb).one e1
              have HT := Lib.hid (wsum_succ e1)
              have HN := Lib.hid (unN_succ (s := s) e1)
              have hfit := HSUM.out (k + 1) (by omega)
              rw [HT.out] at hfit
              rw [Int.toNat_natCast] at HT hfit HN
              have k1 : (k : Int) < (ws.length : Int) := by omega
              generalize wsum (ws.take k) = a at *
              have HC : Hid (Calls Try.prog 106 #[.int .i64 x, .pointer (some ⟨ba, 0, none⟩), .pointer (some ⟨bs, 0, none⟩)] wr fun e w' => e = .returned (.int .u64 (tn s a x)) ∧ Rd w' w.heap.size ba bs s (a + x) ∧ wr.grownBy w' (some ba)) := rd_any s a x ba bs w.heap.size wr hR hx hfit (by omega)
              have HOW := Lib.hid hown
              have HBB := Lib.hid hb
              generalize hU : (unN s ws k).map (Value.int .u64) = U at *
              have HU := Lib.hid hU
              generalize tn s a x = V at *
              clear e1 hown hb hR hU hfit
              go_wp2_with (first
                | (go_at_call 106; refine HC.out.mono ?_; rintro e w2 ⟨rfl, hR2, hg2⟩; have hz2 := Nat.le_trans hz hg2.size; have hL : Left wr w2 w.heap.size (some ba) := ⟨hg2, HBB.out.size, fun g e => by injection e with e; rw [← e]; exact hR2.hb⟩; have ho2 := HOW.out.left hL (.inr (fun e => by have := (HOW.out.lt _ e).1; omega)))
                | (at_builtin; refine wpList_add1 rfl rfl Try.underlying64 info_u64u rfl (Nat.le_refl 1) ho2 rfl hz2 rfl rfl rfl ?_ ?_ ?_ ?_; simp [Value.oneCell']; (unfold maxLen; omega); omega; intro A3 c3 w3 hown3 hl3 hbk3))
              have HO3 := Lib.hid hown3
              have HR3 := Lib.hid (hR2.left hl3 (fun g e => by have := (ho2.lt g e).1; omega))
              have HB3 := Lib.hid (hl3.below (Nat.le_trans hz1 (Nat.le_refl _)) (hL.below (Nat.le_refl _) HBB.out))
              have HZ3 : w1.heap.size ≤ w3.heap.size := Nat.le_trans hz2 hl3.size
              clear hown3 hl3 hbk3 hR2 hg2 hL ho2
              go_roundw
              case rel => exact ⟨k + 1, by omega, by go_num, by rw [HN.out, List.map_append, HU.out]; exact HO3.out, by rw [HT.out]; exact HR3.out, HB3.out, HZ3⟩
              case measure => (simp [intOf]; try omega)
            · obtain rfl : k = ws.length := by omega
              have k1 : ¬ (ws.length : Int) < (ws.length : Int) := by omega
              have HOO : Hid (RowsIn wr wr.heap.size AO ws.length cO (fun z => [.int .u64 z]) 1 (unN s ws ws.length)) := own_u64s hown
              have HBB := Lib.hid hb
              clear hown hb hR
              go_wp2
              go_ret2
              exact ⟨AO, _, cO, by rw [F.out.1]; rfl, by rw [F.out.2]; exact HOO.out, HBB.out⟩
end Go.Proofs.Ytnnmiolgffcgkaa
