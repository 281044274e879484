/- disk.Now and disk.Read, walked. -/
import Derived.Test.YtjmgocfoimhmjaaDnowP
import Derived.Test.YtjmgocfoimhmjaaDiskW
namespace Go.Proofs.Ytjmgocfoimhmjaa
open Go.RowKit

theorem putCells {w : World} {B n c : Nat} {A : Option Addr} {ws : List PutD} (r : RowsIn w B A n c PutD.cells 2 ws) {i : Nat} {p : PutD} (h : ws[i]? = some p) : ∃ b o, A = some ⟨b, o, none⟩ ∧ b < B ∧ w.cell? ⟨b, o + i * 2, none⟩ = some (.int .i64 p.At) ∧ w.cell? ⟨b, o + i * 2 + 1, none⟩ = some (.string p.Text) := by
  obtain ⟨b, o, e, hb, hc⟩ := r.at_ i p h
  exact ⟨b, o, e, hb, hc 0 _ rfl, hc 1 _ rfl⟩

set_option maxRecDepth 20000 in
set_option maxHeartbeats 1000000 in
theorem now_any (A : Option Addr) (n c : Nat) (cs : List ByteArray) (A' : Option Addr) (n' c' : Nat) (ws : List PutD) (a : Nat) (w : World) (r : RowsIn w w.heap.size A n c (fun z => [.string z]) 1 cs) (r' : RowsIn w w.heap.size A' n' c' PutD.cells 2 ws) (ha : a < cs.length) (hws : ws.length ≤ 400) :
    Calls Try.prog 65 #[.agg #[.slice A n c, .slice A' n' c'], .int .i64 a] w fun e w' => e = .returned (.string (nowS cs ws a)) ∧ Below w.heap.size w w' := by
  have hlen := r.len
  obtain rfl := hlen
  have hlen' := r'.len
  obtain rfl := hlen'
  obtain ⟨p0, p1⟩ := dbox2 w (.slice A cs.length c) (.slice A' ws.length c') 41
  have hwb : Below w.heap.size w (w.alloc (.cells #[.slice A cs.length c, .slice A' ws.length c'] 41)) := (Below.refl _ _).alloc (Nat.le_refl _) _
  have r1 := r.below hwb
  have r2 := r'.below hwb
  have e0 := List.getElem?_eq_getElem ha
  obtain ⟨b0, o0, rfl, hb0, hc0⟩ := r1.one e0
  have hd : nowS cs ws a = lastP a allB 0 ws cs[a] := by unfold nowS; rw [Int.toNat_natCast]; simp [List.getD_eq_getElem?_getD, e0]
  have HD := Lib.hid hd
  obtain ⟨wa, hwa⟩ : ∃ wa, wa = w.alloc (.cells #[.slice (some ⟨b0, o0, none⟩) cs.length c, .slice A' ws.length c'] 41) := ⟨_, rfl⟩
  rw [← hwa] at p0 p1 hwb r1 r2 hc0
  have HWA := Lib.hid hwa
  generalize cs[a] = d at *
  clear hd e0 hwa
  have i2 : (a : Int) < (cs.length : Int) := by omega
  go_enter Try.func65, Try.ntmps65
  go_wp2
  rw [← HWA.out]
  go_loop [5] (fun v5 => ∃ i : Int, -1 ≤ i ∧ i < ws.length ∧ v5 = .int .i64 i ∧ Hid (nowS cs ws a = lastP a allB 0 (ws.take (i + 1).toNat) d)) (fun v5 => (intOf v5 + 1).toNat)
  case atStart => exact ⟨(ws.length : Int) - 1, by omega, by omega, by go_num, by simp only [Hid]; rw [show ((ws.length : Int) - 1 + 1).toNat = ws.length by omega, List.take_length]; exact HD.out⟩
  case round =>
    obtain ⟨i, hi0, hi1, rfl, hN⟩ := hrel
    by_cases hi : 0 ≤ i
    · obtain ⟨k, rfl⟩ : ∃ k : Nat, i = k := ⟨i.toNat, by omega⟩
      have hk : k < ws.length := by omega
      obtain ⟨pa, pt, e1⟩ : ∃ pa pt, ws[k]? = some (⟨pa, pt⟩ : PutD) := ⟨ws[k].At, ws[k].Text, List.getElem?_eq_getElem hk⟩
      obtain ⟨b, o, rfl, hbB, hp0, hp1⟩ := putCells r2 e1
      simp only at hp0 hp1
      have hl := lastP_take (a := a) (K := allB) (d := d) e1
      rw [show ((k : Int) + 1).toNat = k + 1 by omega] at hN
      by_cases he : pa = a
      · subst he
        have F : Hid (nowS cs ws a = pt) := by simp only [Hid]; rw [hN.out, hl, if_pos ⟨rfl, rfl⟩]
        have g : ((a : Int) == (a : Int)) = true := beq_iff_eq.2 rfl
        clear hl hN e1 HD
        go_wp2
        go_ret
        exact ⟨by rw [F.out]; rfl, hwb⟩
      · have F : Hid (nowS cs ws a = lastP a allB 0 (ws.take k) d) := by simp only [Hid]; rw [hN.out, hl, if_neg (fun h => he h.1)]
        have g : (pa == (a : Int)) = false := beq_eq_false_iff_ne.2 he
        clear hl hN e1 HD he
        go_wp2
        go_round
        case rel => exact ⟨(k : Int) - 1, by omega, by omega, by go_num, by simp only [Hid]; rw [show ((k : Int) - 1 + 1).toNat = k by omega]; exact F.out⟩
        case measure => (simp [intOf]; try omega)
    · have F : Hid (nowS cs ws a = d) := by simp only [Hid]; rw [hN.out, show (i + 1).toNat = 0 by omega]; rfl
      clear hN HD
      go_wp2
      go_ret
      exact ⟨by rw [F.out]; rfl, hwb⟩
end Go.Proofs.Ytjmgocfoimhmjaa
