/- Seals opened: what they hold: plain. -/
import Derived.Test.YtjmgocfoimhmjaaSealP
import Derived.Test.YtjmgocfoimhmjaaFixW
namespace Go.Proofs.Ytjmgocfoimhmjaa
open Go.RowKit Go.PlainAid

theorem strOf_append (a b : List Int) : strOfNums (a ++ b) = strOfNums a ++ strOfNums b := by
  apply ByteArray.ext; simp [strOfNums, ByteArray.data_append]
theorem strOf_btL_k (s : ByteArray) (k : Nat) (hk : k ≤ s.size) : strOfNums (btL s k) = s.extract 0 k := by
  have h := strOf_btL s
  have e : btL s k = (btL s s.size).take k := by
    simp [btL, ← List.map_take, List.take_range, Nat.min_eq_left hk]
  rw [e]
  have := strOfNums_extract (btL s s.size) 0 k
  rw [List.drop_zero, Nat.sub_zero, h] at this
  exact this.symm
theorem extract_join (s : ByteArray) (k : Nat) (hk : k ≤ s.size) : s.extract 0 k ++ s.extract k s.size = s := by
  apply ByteArray.ext
  simp only [ByteArray.data_append, ByteArray.data_extract]
  have : s.data.size = s.size := rfl
  apply Array.ext'
  simp only [Array.toList_append, Array.toList_extract, List.extract_eq_take_drop, List.drop_zero, Nat.sub_zero]
  rw [List.take_of_length_le (l := List.drop k _) (by simp [this])]
  exact List.take_append_drop k _
theorem bt_strOfI {L : List Int} {i : Nat} {x : Int} (h : L[i]? = some x) (h0 : 0 ≤ x) (h1 : x ≤ 255) : bt (strOfNums L) i = x := by
  have hi : i < L.length := (List.getElem?_eq_some_iff.1 h).1
  have hx : L[i] = x := by rw [List.getElem?_eq_getElem hi] at h; injection h
  unfold bt
  rw [dif_pos (by rw [strOfNums_size]; exact hi)]
  have : (strOfNums L)[i]'(by rw [strOfNums_size]; exact hi) = UInt8.ofNat L[i].toNat := by
    simp [strOfNums, ByteArray.getElem_eq_getElem_data]
  rw [this, hx]
  simp
  omega
theorem btL_join (s : ByteArray) (k m : Nat) (h : k + m ≤ s.size) : btL s k ++ btL (s.extract k (k + m)) m = btL s (k + m) := by
  unfold btL
  rw [List.range_add, List.map_append, List.map_map]
  congr 1
  apply List.map_congr_left
  intro i hi
  have := List.mem_range.1 hi
  rw [bt_extract s k (k + m) i (by omega) (by omega)]
  rfl

def oK (s : ByteArray) : Int := bt s 0
def oN (s : ByteArray) : Int := beF (fun i => bt s (1 + i)) 4
def oL (s : ByteArray) : Int := beF (fun i => bt s (5 + i)) 2
theorem unfix_oN (s : ByteArray) (h : 7 ≤ s.size) : unfixV (s.extract 1 5) = oN s := by
  have hz := extract_size s 1 5 (by omega)
  rw [(unfix_ok (by omega)).1, hz]
  exact beF_congr _ _ 4 fun i hi => bt_extract s 1 5 i (by omega) (by omega)
theorem unfix_oL (s : ByteArray) (h : 7 ≤ s.size) : unfixV (s.extract 5 7) = oL s := by
  have hz := extract_size s 5 7 (by omega)
  rw [(unfix_ok (by omega)).1, hz]
  exact beF_congr _ _ 2 fun i hi => bt_extract s 5 7 i (by omega) (by omega)
theorem oN_bd (s : ByteArray) : 0 ≤ oN s ∧ oN s < 4294967296 := beF_bd _ (fun j => bt_nonneg s _) (fun j => bt_le s _) 4
theorem oL_bd (s : ByteArray) : 0 ≤ oL s ∧ oL s < 65536 := beF_bd _ (fun j => bt_nonneg s _) (fun j => bt_le s _) 2

section
variable (s : ByteArray) (m : Nat)
/-- The tail is the head's sum (the head: m places). -/
def OSum : Prop := s.extract m (m + 4) = strOfNums (tail4 (sumV (s.extract 0 m)))
def OFit : Prop := oL s = (m : Int) - 7 ∧ sealE (oK s) (oN s) (m - 7) = 0
open Classical in
noncomputable def openE : Int := if s.size < 11 then 3 else if 1011 < s.size then 2 else if ¬ OSum s (s.size - 4) then 5 else if OFit s (s.size - 4) then 0 else 4
noncomputable def openK : Int := if openE s = 0 then oK s else 0
noncomputable def openN : Int := if openE s = 0 then oN s else 0
noncomputable def openT : ByteArray := if openE s = 0 then s.extract 7 (s.size - 4) else ⟨#[]⟩
end
section
variable {s : ByteArray} {m : Nat}
theorem open_no (h : openE s ≠ 0) : openK s = 0 ∧ openN s = 0 ∧ openT s = ⟨#[]⟩ := by unfold openK openN openT; simp only [if_neg h, and_self]
theorem open_short (h : s.size < 11) : openE s = 3 := if_pos h
theorem open_large (h : 1011 < s.size) : openE s = 2 := by unfold openE; rw [if_neg (by omega), if_pos h]
theorem open_sum (hm : s.size = m + 4) (h1 : 11 ≤ s.size) (h2 : s.size ≤ 1011) (h : ¬ OSum s m) : openE s = 5 := by
  unfold openE; rw [if_neg (by omega), if_neg (by omega), show s.size - 4 = m by omega, if_pos h]
theorem open_form (hm : s.size = m + 4) (h1 : 11 ≤ s.size) (h2 : s.size ≤ 1011) (h : OSum s m) (hf : ¬ OFit s m) : openE s = 4 := by
  unfold openE; rw [if_neg (by omega), if_neg (by omega), show s.size - 4 = m by omega, if_neg (fun e => e h), if_neg hf]
theorem open_ok (hm : s.size = m + 4) (h1 : 11 ≤ s.size) (h2 : s.size ≤ 1011) (h : OSum s m) (hf : OFit s m) : openE s = 0 ∧ openK s = oK s ∧ openN s = oN s ∧ openT s = s.extract 7 m := by
  have e : openE s = 0 := by unfold openE; rw [if_neg (by omega), if_neg (by omega), show s.size - 4 = m by omega, if_neg (fun e => e h), if_pos hf]
  refine ⟨e, ?_, ?_, ?_⟩
  · unfold openK; rw [if_pos e]
  · unfold openN; rw [if_pos e]
  · unfold openT; rw [if_pos e, show s.size - 4 = m by omega]
/-- A seal of what was read is what was read, where the length says so. -/
theorem seal_back (hm : s.size = m + 4) (h7 : 7 ≤ m) (h2 : m ≤ 1007) (h : OSum s m) (he : sealE (oK s) (oN s) (m - 7) = 0) :
    strOfNums (sealS (oK s) (oN s) (s.extract 7 m)) = s ↔ oL s = (m : Int) - 7 := by
  have hz : (s.extract 7 m).size = m - 7 := extract_size s 7 m (by omega)
  have hS := sealS_ok (k := oK s) (n := oN s) (t := s.extract 7 m) (by rw [hz]; exact he)
  constructor
  · intro e
    have a5 : (sealS (oK s) (oN s) (s.extract 7 m))[5]? = some (((m - 7 : Nat) : Int) / 256 % 256) := by
      rw [hS]; unfold sealH; rw [hz]; simp [fixL]
    have a6 : (sealS (oK s) (oN s) (s.extract 7 m))[6]? = some (((m - 7 : Nat) : Int) % 256) := by
      rw [hS]; unfold sealH; rw [hz]; simp [fixL]
    have b5 := bt_strOfI a5 (by omega) (by omega)
    have b6 := bt_strOfI a6 (by omega) (by omega)
    rw [e] at b5 b6
    have : oL s = bt s 5 * 256 + bt s 6 := by simp [oL, beF]
    omega
  · intro e
    have hH : sealH (oK s) (oN s) (s.extract 7 m) = btL s m := by
      unfold sealH
      rw [hz, show ((m - 7 : Nat) : Int) = oL s by omega]
      have a := fix4_back (fun i => bt s (1 + i)) (fun j => bt_nonneg s _) (fun j => bt_le s _)
      have b := fix2_back (fun i => bt s (5 + i)) (fun j => bt_nonneg s _) (fun j => bt_le s _)
      have c : fixL 1 (oK s) = [bt s 0] := by
        have h0 := bt_nonneg s 0; have h1 := bt_le s 0
        simp [fixL, oK]; omega
      rw [show oN s = beF (fun i => bt s (1 + i)) 4 from rfl, show oL s = beF (fun i => bt s (5 + i)) 2 from rfl, a, b, c]
      have hj := btL_join s 7 (m - 7) (by omega)
      rw [show 7 + (m - 7) = m by omega] at hj
      rw [← hj]
      rfl
    rw [hS, hH, strOf_append, strOf_btL_k s m (by omega)]
    have h' : s.extract m (m + 4) = strOfNums (tail4 (sumV (s.extract 0 m))) := h
    rw [← h', ← hm]
    exact extract_join s m (by omega)
end
end Go.Proofs.Ytjmgocfoimhmjaa
