/- linenref.Cell, walked, for whatever function says which writes land. -/
import Derived.Test.YtjmgocfoimhmjaaDnowW
namespace Go.Proofs.Ytjmgocfoimhmjaa
open Go.RowKit

/-- A function value that says K, in each world in which what lies below B is as it was. -/
def Keeps (f : FuncId) (caps : Array Value) (B : Nat) (w : World) (N : Nat) (K : Nat → Bool) : Prop :=
  ∀ (i : Nat) (W : World), i < N → Below B w W → Calls Try.prog f (#[.int .i64 (i : Int)] ++ caps) W fun e w' => e = .returned (.bool (K i)) ∧ Below W.heap.size W w'

set_option maxRecDepth 20000 in
set_option maxHeartbeats 1000000 in
theorem cell_any (f : FuncId) (caps : Array Value) (K : Nat → Bool) (A : Option Addr) (n c : Nat) (cs : List ByteArray) (A' : Option Addr) (n' c' : Nat) (ws : List PutD) (a : Nat) (w : World) (r : RowsIn w w.heap.size A n c (fun z => [.string z]) 1 cs) (r' : RowsIn w w.heap.size A' n' c' PutD.cells 2 ws) (ha : a < cs.length) (hws : ws.length ≤ 400) (hK : Keeps f caps w.heap.size w ws.length K) (hcf : ∀ args W, (callFunc f args).run Try.prog W = .ok (.enter f args) W) :
    Calls Try.prog 27 #[.agg #[.slice A n c, .slice A' n' c'], .int .i64 a, .func (.func f) #[] caps] w fun e w' => e = .returned (.string (lastP a K 0 ws (cs.getD a ⟨#[]⟩))) ∧ Below w.heap.size w w' := by
  have hlen := r.len
  obtain rfl := hlen
  have hlen' := r'.len
  obtain rfl := hlen'
  obtain ⟨p0, p1⟩ := dbox2 w (.slice A cs.length c) (.slice A' ws.length c') 41
  have hwb : Below w.heap.size w (w.alloc (.cells #[.slice A cs.length c, .slice A' ws.length c'] 41)) := (Below.refl _ _).alloc (Nat.le_refl _) _
  have e0 := List.getElem?_eq_getElem ha
  obtain ⟨b0, o0, rfl, hb0, hc0⟩ := (r.below hwb).one e0
  have hc0l := hc0
  have hd : cs.getD a ⟨#[]⟩ = cs[a] := by simp [List.getD_eq_getElem?_getD, e0]
  rw [hd]
  have HK := Lib.hid hK
  obtain ⟨wa, hwa⟩ : ∃ wa, wa = w.alloc (.cells #[.slice (some ⟨b0, o0, none⟩) cs.length c, .slice A' ws.length c'] 41) := ⟨_, rfl⟩
  have hz : w.heap.size < wa.heap.size := by rw [hwa]; simp
  rw [← hwa] at p0 p1 hwb hc0
  have r2 := r'.below hwb
  have HWA := Lib.hid hwa
  generalize cs[a] = d at *
  clear hd e0 hwa hK
  have i2 : (a : Int) < (cs.length : Int) := by omega
  go_enter Try.func27, Try.ntmps27
  go_wp2
  rw [← HWA.out]
  clear hc0l
  go_loopw [7, 8, 9, 18] (fun v7 _ _ v18 wr => ∃ i : Nat, i ≤ ws.length ∧ v18 = .int .i64 i ∧ v7 = .string (lastP a K 0 (ws.take i) d) ∧ Below wa.heap.size wa wr) (fun _ _ _ v18 _ => ws.length - (intOf v18).toNat)
  case atStart => exact ⟨0, Nat.zero_le _, rfl, rfl, Below.refl _ _⟩
  case round =>
    obtain ⟨i, hi, rfl, rfl, hb⟩ := hrel
    have hsz := hb.size
    have hbw : Below w.heap.size w wr := hwb.trans (hb.mono (by omega))
    by_cases hlt : i < ws.length
    · obtain ⟨pa, pt, e1⟩ : ∃ pa pt, ws[i]? = some (⟨pa, pt⟩ : PutD) := ⟨ws[i].At, ws[i].Text, List.getElem?_eq_getElem hlt⟩
      obtain ⟨b, o, rfl, hbB, hp0, hp1⟩ := putCells (r'.below hbw) e1
      simp only at hp0 hp1
      have hl := lastP_take (a := a) (K := K) (d := d) e1
      have HL := Lib.hid hl
      generalize lastP a K 0 (ws.take i) d = L at *
      have i1 : (i : Int) < (ws.length : Int) := by omega
      have HB := Lib.hid hb
      have HC := Lib.hid (HK.out i)
      clear hl e1 hb
      by_cases he : pa = a
      · subst he
        have g : ((a : Int) == (a : Int)) = true := beq_iff_eq.2 rfl
        have HC2 : Hid (Calls Try.prog f (#[.int .i64 (i : Int)] ++ caps) (wr.alloc (.cells #[.int .i64 (a : Int), .string pt] 100)) fun e w' => e = .returned (.bool (K i)) ∧ Below (wr.alloc (.cells #[.int .i64 (a : Int), .string pt] 100)).heap.size (wr.alloc (.cells #[.int .i64 (a : Int), .string pt] 100)) w') := HC.out _ hlt (hbw.alloc hbw.size _)
        have HL2 : Hid (∀ x, x = K i → lastP a K 0 (ws.take (i + 1)) d = if x = true then pt else L) := fun x hx => by rw [HL.out, hx]; by_cases h : K i = true <;> simp [h]
        generalize K i = x at *
        cases x
        all_goals
          go_wp2_with (refine HC2.out.mono ?_; rintro e w2 ⟨rfl, hb2⟩; obtain ⟨k0, k1, kz⟩ := kept2 hb2; have HB2 := Lib.hid (HB.out.trans (((Below.refl _ _).alloc (Nat.le_refl _) _ |>.trans (hb2.mono (by simp))).mono hsz)); clear hb2)
          go_roundw
          case rel => exact ⟨i + 1, by omega, by go_num, by rw [HL2.out _ rfl]; rfl, HB2.out⟩
          case measure => (simp [intOf]; try omega)
      · have g : (pa == (a : Int)) = false := beq_eq_false_iff_ne.2 he
        have HL2 : Hid (lastP a K 0 (ws.take (i + 1)) d = L) := by simp only [Hid]; rw [HL.out, if_neg (fun h => he h.1)]
        have HB2 := Lib.hid (HB.out.alloc (show wa.heap.size ≤ wr.heap.size from hsz) (.cells #[.int .i64 pa, .string pt] 100))
        clear he
        go_wp2
        go_roundw
        case rel => exact ⟨i + 1, by omega, by go_num, by rw [HL2.out], HB2.out⟩
        case measure => (simp [intOf]; try omega)
    · obtain rfl : i = ws.length := by omega
      have i1 : ¬ (ws.length : Int) < (ws.length : Int) := by omega
      have F : Hid (lastP a K 0 (ws.take ws.length) d = lastP a K 0 ws d) := by simp only [Hid]; rw [List.take_length]
      rw [F.out]
      generalize hLL : lastP a K 0 ws d = L at *
      have HLL := Lib.hid hLL
      clear F hb hLL
      go_wp2
      go_ret
      exact ⟨by rw [HLL.out]; rfl, hbw⟩
end Go.Proofs.Ytjmgocfoimhmjaa
