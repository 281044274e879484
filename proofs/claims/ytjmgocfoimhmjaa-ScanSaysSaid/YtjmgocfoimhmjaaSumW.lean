/- sum.Sum, sum.More and the reference, walked. -/
import Derived.Test.YtjmgocfoimhmjaaSumQ
import Derived.Test.YtjmgocfoimhmjaaFlipR
import Derived.Great.BuildSlice
import Derived.Laws.CopyRow
namespace Go.Proofs.Ytjmgocfoimhmjaa
open Go.RowKit

/-- A 32-bit number as the walk holds it. -/
def v32 (c : W32) : Int := c.toNat
theorem v32_bd (c : W32) : 0 ≤ v32 c ∧ v32 c ≤ 4294967295 := by
  have := c.isLt; unfold v32; omega
theorem v32_of (n : Int) (h0 : 0 ≤ n) (h1 : n ≤ 4294967295) : ∃ c, n = v32 c := by
  obtain ⟨m, rfl⟩ := Int.eq_ofNat_of_zero_le h0
  exact ⟨BitVec.ofNat 32 m, by unfold v32; rw [BitVec.toNat_ofNat]; omega⟩
theorem ofInt_v32 (c : W32) : BitVec.ofInt IntKind.u32.bits (v32 c) = c := by
  show BitVec.ofInt 32 (c.toNat : Int) = c
  rw [BitVec.ofInt_natCast, BitVec.ofNat_toNat]; simp
theorem wrap_v32 (c : W32) : IntKind.u32.wrap (v32 c) = v32 c := by
  have := v32_bd c; rw [IntKind.wrap_u32]; omega
theorem xor_v32 (a b : W32) : bits .xor .u32 (v32 a) (v32 b) = v32 (a ^^^ b) := by
  unfold bits
  simp only [ofInt_v32]
  exact wrap_v32 _
theorem and_v32 (a b : W32) : bits .and .u32 (v32 a) (v32 b) = v32 (a &&& b) := by
  unfold bits
  simp only [ofInt_v32]
  exact wrap_v32 _
theorem shr_v32 (a : W32) (k : Nat) : v32 a / ((2 ^ k : Nat) : Int) = v32 (a >>> k) := by
  unfold v32
  rw [BitVec.toNat_ushiftRight, Nat.shiftRight_eq_div_pow, Int.natCast_ediv]
theorem shl_v32 (a : W32) (k : Nat) : v32 a * ((2 ^ k : Nat) : Int) % 4294967296 = v32 (a <<< k) := by
  unfold v32
  rw [BitVec.toNat_shiftLeft, Nat.shiftLeft_eq]
  omega
theorem not_v32 (a : W32) : 4294967295 - v32 a = v32 (~~~ a) := by
  unfold v32
  rw [BitVec.toNat_not]
  have := a.isLt
  omega
theorem and1_v32 (c : W32) : bits .and .u32 (v32 c) 1 = if c.getLsbD 0 then 1 else 0 := by
  have h := and_v32 c 1#32
  rw [show v32 1#32 = 1 from rfl] at h
  rw [h]
  have : c &&& 1#32 = if c.getLsbD 0 then 1#32 else 0#32 := by
    apply BitVec.eq_of_getLsbD_eq
    intro i hi
    rw [BitVec.getLsbD_and]
    by_cases h0 : i = 0
    · subst h0; cases c.getLsbD 0 <;> rfl
    · have : (1#32).getLsbD i = false := by simp [BitVec.getLsbD_one]; omega
      rw [this]
      split <;> simp [h0]
  rw [this]; split <;> rfl

set_option maxHeartbeats 400000 in
theorem step_any (c : W32) (w : World) :
    Calls Try.prog 115 #[.int .u32 (v32 c)] w fun e w' => e = .returned (.int .u32 (v32 (crcStep c))) ∧ w = w' := by
  have hb := v32_bd c
  have h1 := and1_v32 c
  have h2 := shr_v32 c 1
  have h3 := xor_v32 (c >>> 1) crcP
  rw [show v32 crcP = 2197175160 from rfl] at h3
  cases hc : c.getLsbD 0
  · have F : crcStep c = c >>> 1 := by unfold crcStep; rw [hc]; rfl
    rw [hc] at h1
    simp at h1 h2
    go_enter Try.func115, Try.ntmps115
    go_wp2
    go_ret
    exact ⟨by rw [F]; rfl, rfl⟩
  · have F : crcStep c = (c >>> 1) ^^^ crcP := by unfold crcStep; rw [hc]; rfl
    rw [hc] at h1
    simp at h1 h2
    go_enter Try.func115, Try.ntmps115
    go_wp2
    go_ret
    exact ⟨by rw [F]; rfl, rfl⟩

/-- The table: what eight steps make of a byte. -/
def tabV (i : Nat) : Value := .int .u32 (v32 (crcSteps 8 (BitVec.ofNat 32 i)))
def tabRow (k : Nat) : Array Value := ((List.range 256).map fun i => if i < k then tabV i else .int .u32 0).toArray
theorem tabRow_size (k : Nat) : (tabRow k).size = 256 := by simp [tabRow]
theorem tabRow_get (k i : Nat) (h : i < 256) : (tabRow k)[i]? = some (if i < k then tabV i else .int .u32 0) := by simp [tabRow, h]
theorem tabRow_set (k : Nat) (h : k < 256) : (tabRow k).setIfInBounds k (tabV k) = tabRow (k + 1) := by
  apply Array.ext_getElem?
  intro i
  by_cases hi : i < 256
  · rw [tabRow_get _ _ hi, Array.getElem?_setIfInBounds]
    by_cases hk : k = i
    · subst hk; simp [tabRow_size, h]
    · rw [if_neg hk, tabRow_get _ _ hi]
      by_cases h1 : i < k
      · rw [if_pos h1, if_pos (by omega)]
      · rw [if_neg h1, if_neg (by omega)]
  · have h1 := tabRow_size k
    have h2 := tabRow_size (k + 1)
    rw [Array.getElem?_eq_none (by simp; omega), Array.getElem?_eq_none (by omega)]
theorem v32_small (k : Nat) (h : k < 4294967296) : v32 (BitVec.ofNat 32 k) = (k : Int) := by
  unfold v32; rw [BitVec.toNat_ofNat]; omega
theorem tabRow_zero : tabRow 0 = Array.replicate 256 (.int .u32 0) := by
  apply Array.ext_getElem?
  intro i
  by_cases hi : i < 256
  · rw [tabRow_get _ _ hi]; simp [hi]
  · have h1 := tabRow_size 0
    rw [Array.getElem?_eq_none (by omega), Array.getElem?_eq_none (by simp; omega)]

theorem zero_tab (w : World) : (zeroValue 148).run Try.prog w = .ok (.agg (tabRow 0)) w := by
  rw [tabRow_zero]; kernel_rfl
theorem setCell_row (w : World) (g i : Nat) (cs : Array Value) (t : TypeId) (fr : Nat × Nat) (v : Value) (h : w.heap[g]? = some (.cells cs t fr)) : (w.setCell ⟨g, i, none⟩ v).heap[g]? = some (.cells (cs.setIfInBounds i v) t fr) := by
  have hg : g < w.heap.size := (Array.getElem?_eq_some_iff.1 h).1
  simp only [World.setCell, Array.getElem?_modify, h]
  simp
theorem tab_cell (w : World) (g i : Nat) (cs : Array Value) (t : TypeId) (fr : Nat × Nat) (h : w.heap[g]? = some (.cells cs t fr)) : w.cell? ⟨g, i, none⟩ = cs[i]? := by
  unfold World.cell?; simp [h]
theorem row_frozen (w : World) (g i : Nat) (cs : Array Value) (t : TypeId) (h : w.heap[g]? = some (.cells cs t (0, 0))) : w.frozen? ⟨g, i, none⟩ = false := by
  unfold World.frozen?; simp [h]
theorem under_tab : Try.prog.underlying 148 = some (.array 256 129) := by kernel_rfl
theorem info_tab (k : Nat) : (Try.prog.info? 148).map (·.size) = some (tabRow k).size := by rw [tabRow_size]; kernel_rfl
set_option maxRecDepth 20000 in
set_option maxHeartbeats 1000000 in
theorem table_any (w : World) :
    Calls Try.prog 112 #[] w fun e w' => e = .returned (.agg (tabRow 256)) ∧ Below w.heap.size w w' := by
  go_enter Try.func112, Try.ntmps112
  have hz := zero_tab w
  go_wp2
  go_loopw [3] (fun v3 wr => ∃ k : Nat, k ≤ 256 ∧ v3 = .int .i64 k ∧ wr.heap[w.heap.size]? = some (.cells (tabRow k) 148 (0, 0)) ∧ Below w.heap.size w wr) (fun v3 _ => 256 - (intOf v3).toNat)
  case atStart => exact ⟨0, by omega, rfl, heap_alloc_new _ _, (Below.refl _ _).alloc (Nat.le_refl _) _⟩
  case round =>
    obtain ⟨k, hk, rfl, hrow, hb⟩ := hrel
    by_cases hlt : (k : Int) < 256
    · go_wp2
      go_loop [2, 8] (fun v2 v8 => ∃ (j : Nat) (c : W32), j ≤ 8 ∧ v8 = .int .i64 j ∧ v2 = .int .u32 (v32 c) ∧ Hid (c = crcSteps j (BitVec.ofNat 32 k))) (fun _ v8 => 8 - (intOf v8).toNat)
      case atStart => exact ⟨0, BitVec.ofNat 32 k, by omega, rfl, by rw [v32_small k (by omega)], rfl⟩
      case round =>
        obtain ⟨j, c, hj, rfl, rfl, hc⟩ := hrel
        by_cases hj8 : (j : Int) < 8
        · go_wp2_with (go_at_call 115; refine (step_any _ _).mono ?_; rintro e w' ⟨rfl, rfl⟩)
          go_round
          case rel => exact ⟨j + 1, _, by omega, by go_num, rfl, by simp only [Hid]; rw [hc.out]; rfl⟩
          case measure => simp [intOf]; omega
        · have hfz := row_frozen wr w.heap.size k _ _ hrow
          have hcl := tab_cell wr w.heap.size k _ _ _ hrow
          rw [tabRow_get _ _ (by omega), if_neg (Nat.lt_irrefl _)] at hcl
          have hset := setCell_row wr w.heap.size k _ _ _ (.int .u32 (v32 c)) hrow
          have hcv : Value.int .u32 (v32 c) = tabV k := by rw [hc.out, show j = 8 by omega]; rfl
          have HS : Hid ((wr.setCell ⟨w.heap.size, k, none⟩ (.int .u32 (v32 c))).heap[w.heap.size]? = some (.cells (tabRow (k + 1)) 148 (0, 0))) := by
            simp only [Hid]; rw [hset, hcv, tabRow_set _ (by omega)]
          clear hset hcv
          go_wp2
          go_roundw
          case rel => exact ⟨k + 1, by omega, by go_num, HS.out, hb.setCell (Nat.le_refl _) _⟩
          case measure => simp [intOf]; omega
    · obtain rfl : k = 256 := by omega
      have hu := Lib.hid under_tab
      have hi := Lib.hid (info_tab 256)
      have hone : Hid ((tabRow 256).all (·.oneCell') = true) := by
        simp only [Hid, tabRow, tabV]; simp [Value.oneCell']; intro x hx; simp [hx, Value.oneCell']
      go_wp2_with (first
        | (refine wpList_load_row rfl _ _ rfl w.heap.size rfl _ (tabRow 256) (0, 0) _ hrow hu.out rfl hi.out ?_)
        | (refine wpList_store_rowTo rfl _ _ _ rfl rfl w.heap.size (tabRow 256) rfl rfl _ (tabRow 256) hrow hi.out rfl hone.out ?_; rw [setRow_self _ _ _ _ _ hrow]))
      refine bodyPost_ret (results_cell_row rfl _ _ _ _ _ _ _ rfl hrow hu.out rfl hi.out) rfl ?_
      exact ⟨rfl, hb⟩
end Go.Proofs.Ytjmgocfoimhmjaa
