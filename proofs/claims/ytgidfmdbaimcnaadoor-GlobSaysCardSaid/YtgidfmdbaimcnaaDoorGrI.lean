/- linenref.in, walked. -/
import Derived.Test.YtgidfmdbaimcnaaDoorGbT
namespace Go.Proofs.YtgidfmdbaimcnaaDoor
open Go.RowKit Go.Shelf Go.PlainAid

def spnR (z : Int × Int) : List Value := [.int .i64 z.1, .int .i64 z.2]
theorem spnCellsR {w : World} {B n c : Nat} {A : Option Addr} {l : List (Int × Int)} (h : RowsIn w B A n c spnR 2 l) {i : Nat} {x : Int × Int} (hx : l[i]? = some x) :
    ∃ b o, A = some ⟨b, o, none⟩ ∧ b < B ∧ w.cell? ⟨b, o + i * 2, none⟩ = some (.int .i64 x.1) ∧ w.cell? ⟨b, o + i * 2 + 1, none⟩ = some (.int .i64 x.2) := by
  obtain ⟨b, o, e, hb, hc⟩ := h.at_ i x hx
  exact ⟨b, o, e, hb, by simpa using hc 0 _ rfl, hc 1 _ rfl⟩
def anyK (p : Pc) (i : Nat) (r : Int) : Bool := (p.sp.take i).any (inS · r)
theorem anyK_step {p : Pc} {i : Nat} {r : Int} {z : Int × Int} (h : p.sp[i]? = some z) : anyK p (i + 1) r = (anyK p i r || inS z r) := by
  unfold anyK
  rw [List.take_add_one, h, List.any_append]
  simp
theorem anyK_all {p : Pc} {i : Nat} {r : Int} (h : p.sp.length ≤ i) : (anyK p i r != p.neg) = hitP p r := by
  unfold anyK
  rw [List.take_of_length_le h, hitP_eq]
structure InI (w : World) (p : Pc) (A : Option Addr) (c : Nat) (wr : World) : Prop where
  box : wr.heap[w.heap.size]? = some (.cells #[.bool p.run, .bool p.neg, .slice A p.sp.length c] 44 (0, 0))
  below : Below w.heap.size w wr
set_option maxRecDepth 100000 in
set_option maxHeartbeats 2000000 in
theorem in_any (p : Pc) (A : Option Addr) (c : Nat) (r : Int) (w : World) (hr : RowsIn w w.heap.size A p.sp.length c spnR 2 p.sp) :
    Calls Tryd.prog 11 #[.agg #[.bool p.run, .bool p.neg, .slice A p.sp.length c], .int .i64 r] w fun e w' => e = .returned (.bool (hitP p r)) ∧ Below w.heap.size w w' := by
  have hnc := hr.le
  have htop := hr.top
  unfold maxLen at htop
  have HR := Lib.hid hr
  clear hr
  go_enter Tryd.func11, Tryd.ntmps11
  go_wp2
  have I0 : Hid (InI w p A c (w.alloc (.cells #[.bool p.run, .bool p.neg, .slice A p.sp.length c] 44))) := ⟨heap_alloc_new w _, (Below.refl _ _).alloc (Nat.le_refl _) _⟩
  obtain ⟨n, hn⟩ : ∃ n, p.sp.length = n := ⟨_, rfl⟩
  have HN := Lib.hid hn
  rw [hn] at hnc HR I0 ⊢
  clear hn
  go_loopw [5, 11] (fun v5 v11 wr => ∃ i : Nat, v5 = .bool (anyK p i r) ∧ v11 = .int .i64 i ∧ i ≤ n ∧ Hid (InI w p A c wr)) (fun _ v11 _ => n - (intOf v11).toNat)
  case atStart => exact ⟨0, rfl, rfl, Nat.zero_le _, I0⟩
  case round =>
    obtain ⟨i, rfl, rfl, hi, HI⟩ := hrel
    obtain ⟨wq, rfl⟩ : ∃ z : World, z = wr := ⟨_, rfl⟩
    have c1 : wq.cell? ⟨w.heap.size, 1, none⟩ = some (.bool p.neg) := row_cell HI.out.box 1
    have hws : w.heap.size < wq.heap.size := row_lt HI.out.box
    by_cases hlt : i < n
    · obtain ⟨z, hz⟩ : ∃ z, p.sp[i]? = some z := ⟨_, List.getElem?_eq_getElem (by have := HN.out; omega)⟩
      obtain ⟨g, o, rfl, hg, h0, h1⟩ := spnCellsR (HR.out.below HI.out.below) hz
      have HZ := Lib.hid (anyK_step (r := r) hz)
      have hlc : (i : Int) < (n : Int) := by omega
      have hw1 : wrap64 ((i : Int) + 1) = (i : Int) + 1 := by unfold wrap64; omega
      have hgs : g < wq.heap.size := by have := HI.out.below.size; omega
      obtain ⟨lo, hi'⟩ := z
      clear hz

      rcases Bool.eq_false_or_eq_true (anyK p i r) with ha | ha
      · rw [ha]
        rw [ha] at HZ
        have HE : Hid (anyK p (i + 1) r = true) := by show _ = _; rw [HZ.out]; rfl
        clear ha HZ
        go_wp2
        go_roundw
        case rel => exact ⟨i + 1, by rw [HE.out], by go_num, by omega, row_alloc HI.out.box _, HI.out.below.alloc HI.out.below.size _⟩
        case measure => (simp [intOf]; try omega)
      · rw [ha]
        rw [ha] at HZ
        by_cases q1 : lo ≤ r
        · by_cases q2 : r ≤ hi'
          · have HE : Hid (anyK p (i + 1) r = true) := by show _ = _; rw [HZ.out]; simp [inS, q1, q2]
            clear ha HZ
            go_wp2
            go_roundw
            case rel => exact ⟨i + 1, by rw [HE.out], by go_num, by omega, row_alloc HI.out.box _, HI.out.below.alloc HI.out.below.size _⟩
            case measure => (simp [intOf]; try omega)
          · have HE : Hid (anyK p (i + 1) r = false) := by show _ = _; rw [HZ.out]; simp [inS, q2]
            clear ha HZ
            go_wp2
            go_roundw
            case rel => exact ⟨i + 1, by rw [HE.out], by go_num, by omega, row_alloc HI.out.box _, HI.out.below.alloc HI.out.below.size _⟩
            case measure => (simp [intOf]; try omega)
        · have HE : Hid (anyK p (i + 1) r = false) := by show _ = _; rw [HZ.out]; simp [inS, q1]
          clear ha HZ
          go_wp2
          go_roundw
          case rel => exact ⟨i + 1, by rw [HE.out], by go_num, by omega, row_alloc HI.out.box _, HI.out.below.alloc HI.out.below.size _⟩
          case measure => (simp [intOf]; try omega)
    · have hlc : ¬ (i : Int) < (n : Int) := by omega
      have F : Hid ((anyK p i r != p.neg) = hitP p r) := anyK_all (by have := HN.out; omega)
      go_wp2
      go_ret
      exact ⟨by show Ending.returned (Value.bool (anyK p i r != p.neg)) = _; rw [F.out], HI.out.below⟩
end Go.Proofs.YtgidfmdbaimcnaaDoor
