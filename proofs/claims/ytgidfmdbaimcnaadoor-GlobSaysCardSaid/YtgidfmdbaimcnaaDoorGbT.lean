/- (glob.part).takes, walked. -/
import Derived.Test.YtgidfmdbaimcnaaDoorGbN
namespace Go.Proofs.YtgidfmdbaimcnaaDoor
open Go.RowKit Go.Shelf Go.PlainAid

def spn (z : Int × Int) : List Value := [.int .i32 z.1, .int .i32 z.2]
def inS (z : Int × Int) (r : Int) : Bool := decide (z.1 ≤ r) && decide (r ≤ z.2)
theorem hitP_eq (p : Pc) (r : Int) : hitP p r = (p.sp.any (inS · r) != p.neg) := rfl
theorem hitP_yes {p : Pc} {r : Int} {z : Int × Int} {i : Nat} (h : p.sp[i]? = some z) (hz : inS z r = true) : hitP p r = !p.neg := by
  rw [hitP_eq, List.any_eq_true.2 ⟨z, List.mem_of_getElem? h, hz⟩]; cases p.neg <;> rfl
theorem hitP_no {p : Pc} {r : Int} (h : ∀ (i : Nat) (z : Int × Int), p.sp[i]? = some z → inS z r = false) : hitP p r = p.neg := by
  have : p.sp.any (inS · r) = false := by
    rw [List.any_eq_false]
    intro z hz
    obtain ⟨i, hi⟩ := List.mem_iff_getElem?.1 hz
    rw [h i z hi]; simp
  rw [hitP_eq, this]; cases p.neg <;> rfl
theorem spnCells {w : World} {B n c : Nat} {A : Option Addr} {l : List (Int × Int)} (h : RowsIn w B A n c spn 2 l) {i : Nat} {x : Int × Int} (hx : l[i]? = some x) :
    ∃ b o, A = some ⟨b, o, none⟩ ∧ b < B ∧ w.cell? ⟨b, o + i * 2, none⟩ = some (.int .i32 x.1) ∧ w.cell? ⟨b, o + i * 2 + 1, none⟩ = some (.int .i32 x.2) := by
  obtain ⟨b, o, e, hb, hc⟩ := h.at_ i x hx
  exact ⟨b, o, e, hb, by simpa using hc 0 _ rfl, hc 1 _ rfl⟩
structure TkI (w : World) (p : Pc) (A : Option Addr) (c : Nat) (r : Int) (i : Nat) (wr : World) : Prop where
  box : wr.heap[w.heap.size]? = some (.cells #[.bool p.run, .bool p.neg, .slice A p.sp.length c] 33 (0, 0))
  below : Below w.heap.size w wr
  no : ∀ (j : Nat) (z : Int × Int), j < i → p.sp[j]? = some z → inS z r = false
theorem tk_step {w wq : World} {p : Pc} {A : Option Addr} {c : Nat} {r : Int} {i : Nat} {z : Int × Int} {o : Obj} (h : TkI w p A c r i wq) (hz : p.sp[i]? = some z) (hn : inS z r = false) : TkI w p A c r (i + 1) (wq.alloc o) :=
  ⟨row_alloc h.box _, h.below.alloc h.below.size _, fun j y hj hy => by
    rcases (show j < i ∨ j = i by omega) with e | rfl
    · exact h.no j y e hy
    · rw [hz] at hy; injection hy with hy; rw [← hy]; exact hn⟩
set_option maxRecDepth 100000 in
set_option maxHeartbeats 2000000 in
theorem takes_any (p : Pc) (A : Option Addr) (c : Nat) (r : Int) (w : World) (hr : RowsIn w w.heap.size A p.sp.length c spn 2 p.sp) :
    Calls Tryd.prog 8 #[.agg #[.bool p.run, .bool p.neg, .slice A p.sp.length c], .int .i32 r] w fun e w' => e = .returned (.bool (hitP p r)) ∧ Below w.heap.size w w' := by
  have hnc := hr.le
  have htop := hr.top
  unfold maxLen at htop
  have HR := Lib.hid hr
  clear hr
  go_enter Tryd.func8, Tryd.ntmps8
  go_wp2
  have I0 : Hid (TkI w p A c r 0 (w.alloc (.cells #[.bool p.run, .bool p.neg, .slice A p.sp.length c] 33))) := ⟨heap_alloc_new w _, (Below.refl _ _).alloc (Nat.le_refl _) _, fun j z hj => absurd hj (Nat.not_lt_zero _)⟩
  obtain ⟨n, hn⟩ : ∃ n, p.sp.length = n := ⟨_, rfl⟩
  rw [hn] at hnc HR I0 ⊢
  go_loopw [10] (fun v10 wr => ∃ i : Nat, v10 = .int .i64 i ∧ i ≤ n ∧ Hid (TkI w p A c r i wr)) (fun v10 _ => n - (intOf v10).toNat)
  case atStart => exact ⟨0, rfl, Nat.zero_le _, I0⟩
  case round =>
    obtain ⟨i, rfl, hi, HI⟩ := hrel
    obtain ⟨wq, rfl⟩ : ∃ z : World, z = wr := ⟨_, rfl⟩
    have c1 : wq.cell? ⟨w.heap.size, 1, none⟩ = some (.bool p.neg) := row_cell HI.out.box 1
    have hws : w.heap.size < wq.heap.size := row_lt HI.out.box
    have HN := Lib.hid hn
    by_cases hlt : i < n
    · obtain ⟨z, hz⟩ : ∃ z, p.sp[i]? = some z := ⟨_, List.getElem?_eq_getElem (by omega)⟩
      obtain ⟨g, o, rfl, hg, h0, h1⟩ := spnCells (HR.out.below HI.out.below) hz
      have HZ := Lib.hid hz
      have hlc : (i : Int) < (n : Int) := by omega
      have hw1 : wrap64 ((i : Int) + 1) = (i : Int) + 1 := by unfold wrap64; omega
      have hgs : g < wq.heap.size := by have := HI.out.below.size; omega
      obtain ⟨lo, hi'⟩ := z
      clear hz hn
      by_cases q1 : lo ≤ r
      · by_cases q2 : r ≤ hi'
        · have F : Hid (hitP p r = !p.neg) := hitP_yes HZ.out (by simp [inS, q1, q2])
          go_wp2
          go_ret
          exact ⟨by rw [F.out]; rfl, (HI.out.below.alloc HI.out.below.size _)⟩
        · have HNO : Hid (inS (lo, hi') r = false) := by simp [Hid, inS, q2]
          go_wp2
          go_roundw
          case rel => exact ⟨i + 1, by go_num, by omega, tk_step HI.out HZ.out HNO.out⟩
          case measure => (simp [intOf]; try omega)
      · have HNO : Hid (inS (lo, hi') r = false) := by simp [Hid, inS, q1]
        go_wp2
        go_roundw
        case rel => exact ⟨i + 1, by go_num, by omega, tk_step HI.out HZ.out HNO.out⟩
        case measure => (simp [intOf]; try omega)
    · have hlc : ¬ (i : Int) < (n : Int) := by omega
      have F : Hid (hitP p r = p.neg) := hitP_no fun j z hj => HI.out.no j z (by have := (List.getElem?_eq_some_iff.1 hj).1; omega) hj
      clear hn
      go_wp2
      go_ret
      exact ⟨by rw [F.out]; rfl, HI.out.below⟩
end Go.Proofs.YtgidfmdbaimcnaaDoor
