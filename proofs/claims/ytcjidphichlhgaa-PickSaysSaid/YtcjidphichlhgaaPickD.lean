/- container/heap.down over the queue, walked. -/
import Derived.Test.YtcjidphichlhgaaPickC
import Derived.WalkMore
namespace Go.Proofs.Ytcjidphichlhgaa
open Go.RowKit Pk

def DnI (w0 : World) (Q b o c N n n' i0 : Nat) (l : List OneV) (i : Nat) (l' : List OneV) (w : World) : Prop := QSt w0 Q b o c N n l' w ∧ l'.Perm l ∧ sift l i0 n' = sift l' i n'
def DnPost (w0 : World) (Q b o c N n : Nat) (l : List OneV) (e : Ending) (w' : World) : Prop := ∃ B, e = .returned (.bool B) ∧ QSt w0 Q b o c N n l w'
set_option maxRecDepth 20000 in
set_option maxHeartbeats 1000000 in
theorem down_any (w0 : World) (Q b o c N n n' i0 : Nat) (l : List OneV) (w : World) (h : QSt w0 Q b o c N n l w) (hn : n' ≤ n) (hN : N ≤ 1000) (hi0 : i0 ≤ 1000) (hok : ∀ x ∈ l, OneOk x) :
    Calls Try.prog 12 #[.iface 32 (.pointer (some ⟨Q, 0, none⟩)), .int .i64 i0, .int .i64 n'] w (DnPost w0 Q b o c N n (sift l i0 n')) := by
  have HI0 : Hid (DnI w0 Q b o c N n n' i0 l i0 l w) := ⟨h, List.Perm.refl _, rfl⟩
  have HOK := Lib.hid hok
  have hnN := h.le
  have n1 : (n' : Int) ≤ 1000 := by omega
  clear h hok
  go_enter Try.func12, Try.ntmps12
  go_wp2
  go_loopw [7] (fun v wr => ∃ (i : Nat) (l' : List OneV), v = .int .i64 i ∧ i ≤ 1000 ∧ Hid (DnI w0 Q b o c N n n' i0 l i l' wr)) (fun v _ => n' - (intOf v).toNat)
  case atStart => exact ⟨i0, l, rfl, hi0, HI0⟩
  case round =>
    obtain ⟨i, l', rfl, hi, HI⟩ := hrel
    by_cases hlt : 2 * i + 1 < n'
    · obtain ⟨hq, hp, hs⟩ := HI.out
      have HOK2 : Hid (∀ x ∈ l', OneOk x) := fun x hx => HOK.out x (hp.mem_iff.1 hx)
      have hlen := hq.len
      have hk := kid_lt (l := l') hlt
      have hko := kid_or l' i n'
      obtain ⟨j1, hj1⟩ : ∃ j1, j1 = 2 * i + 1 := ⟨_, rfl⟩
      obtain ⟨xi, ei⟩ : ∃ x, l'[i]? = some x := ⟨_, List.getElem?_eq_getElem (by omega)⟩
      obtain ⟨x1, e1⟩ : ∃ x, l'[j1]? = some x := ⟨_, List.getElem?_eq_getElem (by omega)⟩
      have j1I : 2 * (i : Int) + 1 = (j1 : Int) := by omega
      have c1 : ¬ (n' : Int) ≤ (j1 : Int) := by omega
      have c1' : (j1 : Int) < (n' : Int) := by omega
      have c2 : ¬ (j1 : Int) < 0 := by omega
      have mL : ∀ k, (method (k + 1) 32 (.pointer (some ⟨Q, 0, none⟩)) "Less").run Try.prog wr = .ok (33, .slice (some ⟨b, o, none⟩) n c) wr := fun k => run_meth meth_less k Q _ n c wr hq.q
      by_cases h2 : j1 + 1 < n'
      · obtain ⟨j2, hj2⟩ : ∃ j2, j2 = j1 + 1 := ⟨_, rfl⟩
        obtain ⟨x2, e2⟩ : ∃ x, l'[j2]? = some x := ⟨_, List.getElem?_eq_getElem (by omega)⟩
        have j2I : (j1 : Int) + 1 = (j2 : Int) := by omega
        have c3 : (j2 : Int) < (n' : Int) := by omega
        have HL1 := Lib.hid (less_any w0 Q b o c N n j2 j1 l' x2 x1 wr hq (by omega) (by omega) e2 e1 (HOK2.out _ (List.mem_of_getElem? e2)) (HOK2.out _ (List.mem_of_getElem? e1)))
        rcases Bool.eq_false_or_eq_true (bet x2 x1) with hb2 | hb2
        · have hkid : kid l' i n' = j2 := by
            unfold kid
            rw [if_pos ⟨by omega, by rw [show 2 * i + 2 = j2 by omega, show 2 * i + 1 = j1 by omega, getD_of e2, getD_of e1]; exact hb2⟩]; omega
          have hji : j2 < n ∧ i < n ∧ j2 ≤ 1000 ∧ i < j2 ∧ j2 < n' := by omega
          have HB02 := Lib.hid hb2
          rw [hb2] at HL1
          clear hb2
          have HIJ := Lib.hid hji
          have hLi : ∀ W, Below wr.heap.size wr W → Calls Try.prog 33 #[.slice (some ⟨b, o, none⟩) n c, .int .i64 j2, .int .i64 i] W fun e w' => e = .returned (.bool (bet x2 xi)) ∧ Below W.heap.size W w' := fun W hW => less_any w0 Q b o c N n j2 i l' x2 xi W (hq.below hW) (by omega) (by omega) e2 ei (HOK2.out _ (List.mem_of_getElem? e2)) (HOK2.out _ (List.mem_of_getElem? ei))
          have HL2 := Lib.hid hLi
          have hSw : ∀ W, QSt w0 Q b o c N n l' W → Calls Try.prog 34 #[.slice (some ⟨b, o, none⟩) n c, .int .i64 i, .int .i64 j2] W fun e w' => e = .returned (.tuple #[]) ∧ QSt w0 Q b o c N n (swp l' i j2) w' := fun W hW => swap_any w0 Q b o c N n i j2 l' W hW (by omega) (by omega)
          have HSW := Lib.hid hSw
          have HQ := Lib.hid hq
          have HP := Lib.hid hp
          have HS := Lib.hid hs
          have HK := Lib.hid hkid
          have HLT := Lib.hid hlt
          have GI := Lib.hid (getD_of ei)
          have GJ := Lib.hid (getD_of e2)
          have HJ := Lib.hid hj1
          clear hq hp hs hkid hji hLi hSw ei e1 hlt hlen hk hko hj1 hj2 e2
          rcases Bool.eq_false_or_eq_true (bet x2 xi) with hb | hb
          all_goals
            have HBB := Lib.hid hb
          · rw [hb] at HL2
            clear hb
            go_wp2_with (first
              | (go_at_call_of 33 (Value.int .i64 i); refine (HL2.out _ HB1.out).mono ?_; rintro e w2 ⟨rfl, hb2⟩; have HB2 := Lib.hid (HB1.out.trans (hb2.mono HB1.out.size)); have HQ2 := Lib.hid (HQ.out.below HB2.out); have mS : ∀ k, (method (k + 1) 32 (.pointer (some ⟨Q, 0, none⟩)) "Swap").run Try.prog w2 = .ok (34, .slice (some ⟨b, o, none⟩) n c) w2 := fun k => run_meth meth_swap k Q _ n c w2 HQ2.out.q)
              | (go_at_call 33; refine HL1.out.mono ?_; rintro e w1 ⟨rfl, hb1⟩; have HB1 := Lib.hid hb1; have HQ1 := Lib.hid (HQ.out.below hb1); have mL2 : ∀ k, (method (k + 1) 32 (.pointer (some ⟨Q, 0, none⟩)) "Less").run Try.prog w1 = .ok (33, .slice (some ⟨b, o, none⟩) n c) w1 := fun k => run_meth meth_less k Q _ n c w1 HQ1.out.q)
              | (go_at_call 34; refine (HSW.out _ HQ2.out).mono ?_; rintro e w9 ⟨rfl, hq9⟩))
            go_roundw
            case rel =>
              refine ⟨j2, swp l' i j2, rfl, by have := HIJ.out; omega, ?_⟩
              have h3 := hq9
              refine ⟨h3, (swp_perm (by rw [HQ.out.len]; have := HQ.out.le; have := HIJ.out; omega) (by rw [HQ.out.len]; have := HQ.out.le; have := HIJ.out; omega)).trans HP.out, ?_⟩
              rw [HS.out, sift_down HLT.out (by rw [HK.out, GI.out, GJ.out]; exact HBB.out), HK.out]
            case measure => (have := HIJ.out; simp [intOf]; omega)
          · rw [hb] at HL2
            clear hb
            go_wp2_with (first
              | (go_at_call_of 33 (Value.int .i64 i); refine (HL2.out _ HB1.out).mono ?_; rintro e w2 ⟨rfl, hb2⟩; have HB2 := Lib.hid (HB1.out.trans (hb2.mono HB1.out.size)); have HQ2 := Lib.hid (HQ.out.below HB2.out); have mS : ∀ k, (method (k + 1) 32 (.pointer (some ⟨Q, 0, none⟩)) "Swap").run Try.prog w2 = .ok (34, .slice (some ⟨b, o, none⟩) n c) w2 := fun k => run_meth meth_swap k Q _ n c w2 HQ2.out.q)
              | (go_at_call 33; refine HL1.out.mono ?_; rintro e w1 ⟨rfl, hb1⟩; have HB1 := Lib.hid hb1; have HQ1 := Lib.hid (HQ.out.below hb1); have mL2 : ∀ k, (method (k + 1) 32 (.pointer (some ⟨Q, 0, none⟩)) "Less").run Try.prog w1 = .ok (33, .slice (some ⟨b, o, none⟩) n c) w1 := fun k => run_meth meth_less k Q _ n c w1 HQ1.out.q)
              | (go_at_call 34; refine (HSW.out _ HQ2.out).mono ?_; rintro e w9 ⟨rfl, hq9⟩))
            go_ret
            exact ⟨_, rfl, by rw [HS.out, sift_rest HLT.out (by rw [HK.out, GI.out, GJ.out]; exact HBB.out)]; exact HQ2.out⟩
        · have hkid : kid l' i n' = j1 := by
            unfold kid
            rw [if_neg (fun q => by rw [show 2 * i + 2 = j2 by omega, show 2 * i + 1 = j1 by omega, getD_of e2, getD_of e1, hb2] at q; exact absurd q.2 (by decide))]; omega
          have hji : j1 < n ∧ i < n ∧ j1 ≤ 1000 ∧ i < j1 ∧ j1 < n' := by omega
          have HB02 := Lib.hid hb2
          rw [hb2] at HL1
          clear hb2
          have HIJ := Lib.hid hji
          have hLi : ∀ W, Below wr.heap.size wr W → Calls Try.prog 33 #[.slice (some ⟨b, o, none⟩) n c, .int .i64 j1, .int .i64 i] W fun e w' => e = .returned (.bool (bet x1 xi)) ∧ Below W.heap.size W w' := fun W hW => less_any w0 Q b o c N n j1 i l' x1 xi W (hq.below hW) (by omega) (by omega) e1 ei (HOK2.out _ (List.mem_of_getElem? e1)) (HOK2.out _ (List.mem_of_getElem? ei))
          have HL2 := Lib.hid hLi
          have hSw : ∀ W, QSt w0 Q b o c N n l' W → Calls Try.prog 34 #[.slice (some ⟨b, o, none⟩) n c, .int .i64 i, .int .i64 j1] W fun e w' => e = .returned (.tuple #[]) ∧ QSt w0 Q b o c N n (swp l' i j1) w' := fun W hW => swap_any w0 Q b o c N n i j1 l' W hW (by omega) (by omega)
          have HSW := Lib.hid hSw
          have HQ := Lib.hid hq
          have HP := Lib.hid hp
          have HS := Lib.hid hs
          have HK := Lib.hid hkid
          have HLT := Lib.hid hlt
          have GI := Lib.hid (getD_of ei)
          have GJ := Lib.hid (getD_of e1)
          have HJ := Lib.hid hj1
          clear hq hp hs hkid hji hLi hSw ei e1 hlt hlen hk hko hj1 hj2 e2
          rcases Bool.eq_false_or_eq_true (bet x1 xi) with hb | hb
          all_goals
            have HBB := Lib.hid hb
          · rw [hb] at HL2
            clear hb
            go_wp2_with (first
              | (go_at_call_of 33 (Value.int .i64 i); refine (HL2.out _ HB1.out).mono ?_; rintro e w2 ⟨rfl, hb2⟩; have HB2 := Lib.hid (HB1.out.trans (hb2.mono HB1.out.size)); have HQ2 := Lib.hid (HQ.out.below HB2.out); have mS : ∀ k, (method (k + 1) 32 (.pointer (some ⟨Q, 0, none⟩)) "Swap").run Try.prog w2 = .ok (34, .slice (some ⟨b, o, none⟩) n c) w2 := fun k => run_meth meth_swap k Q _ n c w2 HQ2.out.q)
              | (go_at_call 33; refine HL1.out.mono ?_; rintro e w1 ⟨rfl, hb1⟩; have HB1 := Lib.hid hb1; have HQ1 := Lib.hid (HQ.out.below hb1); have mL2 : ∀ k, (method (k + 1) 32 (.pointer (some ⟨Q, 0, none⟩)) "Less").run Try.prog w1 = .ok (33, .slice (some ⟨b, o, none⟩) n c) w1 := fun k => run_meth meth_less k Q _ n c w1 HQ1.out.q)
              | (go_at_call 34; refine (HSW.out _ HQ2.out).mono ?_; rintro e w9 ⟨rfl, hq9⟩))
            go_roundw
            case rel =>
              refine ⟨j1, swp l' i j1, rfl, by have := HIJ.out; omega, ?_⟩
              have h3 := hq9
              refine ⟨h3, (swp_perm (by rw [HQ.out.len]; have := HQ.out.le; have := HIJ.out; omega) (by rw [HQ.out.len]; have := HQ.out.le; have := HIJ.out; omega)).trans HP.out, ?_⟩
              rw [HS.out, sift_down HLT.out (by rw [HK.out, GI.out, GJ.out]; exact HBB.out), HK.out]
            case measure => (have := HIJ.out; simp [intOf]; omega)
          · rw [hb] at HL2
            clear hb
            go_wp2_with (first
              | (go_at_call_of 33 (Value.int .i64 i); refine (HL2.out _ HB1.out).mono ?_; rintro e w2 ⟨rfl, hb2⟩; have HB2 := Lib.hid (HB1.out.trans (hb2.mono HB1.out.size)); have HQ2 := Lib.hid (HQ.out.below HB2.out); have mS : ∀ k, (method (k + 1) 32 (.pointer (some ⟨Q, 0, none⟩)) "Swap").run Try.prog w2 = .ok (34, .slice (some ⟨b, o, none⟩) n c) w2 := fun k => run_meth meth_swap k Q _ n c w2 HQ2.out.q)
              | (go_at_call 33; refine HL1.out.mono ?_; rintro e w1 ⟨rfl, hb1⟩; have HB1 := Lib.hid hb1; have HQ1 := Lib.hid (HQ.out.below hb1); have mL2 : ∀ k, (method (k + 1) 32 (.pointer (some ⟨Q, 0, none⟩)) "Less").run Try.prog w1 = .ok (33, .slice (some ⟨b, o, none⟩) n c) w1 := fun k => run_meth meth_less k Q _ n c w1 HQ1.out.q)
              | (go_at_call 34; refine (HSW.out _ HQ2.out).mono ?_; rintro e w9 ⟨rfl, hq9⟩))
            go_ret
            exact ⟨_, rfl, by rw [HS.out, sift_rest HLT.out (by rw [HK.out, GI.out, GJ.out]; exact HBB.out)]; exact HQ2.out⟩
      · have c3 : ¬ (j1 : Int) + 1 < (n' : Int) := by omega
        have hkid : kid l' i n' = j1 := by
          unfold kid
          rw [if_neg (by omega)]; omega
        have hji : j1 < n ∧ i < n ∧ j1 ≤ 1000 ∧ i < j1 ∧ j1 < n' := by omega
        have HIJ := Lib.hid hji
        have hLi : ∀ W, Below wr.heap.size wr W → Calls Try.prog 33 #[.slice (some ⟨b, o, none⟩) n c, .int .i64 j1, .int .i64 i] W fun e w' => e = .returned (.bool (bet x1 xi)) ∧ Below W.heap.size W w' := fun W hW => less_any w0 Q b o c N n j1 i l' x1 xi W (hq.below hW) (by omega) (by omega) e1 ei (HOK2.out _ (List.mem_of_getElem? e1)) (HOK2.out _ (List.mem_of_getElem? ei))
        have HL2 := Lib.hid hLi
        have hSw : ∀ W, QSt w0 Q b o c N n l' W → Calls Try.prog 34 #[.slice (some ⟨b, o, none⟩) n c, .int .i64 i, .int .i64 j1] W fun e w' => e = .returned (.tuple #[]) ∧ QSt w0 Q b o c N n (swp l' i j1) w' := fun W hW => swap_any w0 Q b o c N n i j1 l' W hW (by omega) (by omega)
        have HSW := Lib.hid hSw
        have HQ := Lib.hid hq
        have HP := Lib.hid hp
        have HS := Lib.hid hs
        have HK := Lib.hid hkid
        have HLT := Lib.hid hlt
        have GI := Lib.hid (getD_of ei)
        have GJ := Lib.hid (getD_of e1)
        have HJ := Lib.hid hj1
        clear hq hp hs hkid hji hLi hSw ei e1 hlt hlen hk hko hj1
        rcases Bool.eq_false_or_eq_true (bet x1 xi) with hb | hb
        all_goals
          have HBB := Lib.hid hb
        · rw [hb] at HL2
          clear hb
          go_wp2_with (first
            | (go_at_call 33; refine (HL2.out wr (Below.refl _ _)).mono ?_; rintro e w2 ⟨rfl, hb2⟩; have HB2 := Lib.hid hb2; have HQ2 := Lib.hid (HQ.out.below HB2.out); have mS : ∀ k, (method (k + 1) 32 (.pointer (some ⟨Q, 0, none⟩)) "Swap").run Try.prog w2 = .ok (34, .slice (some ⟨b, o, none⟩) n c) w2 := fun k => run_meth meth_swap k Q _ n c w2 HQ2.out.q)
            | (go_at_call 34; refine (HSW.out _ HQ2.out).mono ?_; rintro e w9 ⟨rfl, hq9⟩))
          go_roundw
          case rel =>
            refine ⟨j1, swp l' i j1, rfl, by have := HIJ.out; omega, ?_⟩
            have h3 := hq9
            refine ⟨h3, (swp_perm (by rw [HQ.out.len]; have := HQ.out.le; have := HIJ.out; omega) (by rw [HQ.out.len]; have := HQ.out.le; have := HIJ.out; omega)).trans HP.out, ?_⟩
            rw [HS.out, sift_down HLT.out (by rw [HK.out, GI.out, GJ.out]; exact HBB.out), HK.out]
          case measure => (have := HIJ.out; simp [intOf]; omega)
        · rw [hb] at HL2
          clear hb
          go_wp2_with (first
            | (go_at_call 33; refine (HL2.out wr (Below.refl _ _)).mono ?_; rintro e w2 ⟨rfl, hb2⟩; have HB2 := Lib.hid hb2; have HQ2 := Lib.hid (HQ.out.below HB2.out); have mS : ∀ k, (method (k + 1) 32 (.pointer (some ⟨Q, 0, none⟩)) "Swap").run Try.prog w2 = .ok (34, .slice (some ⟨b, o, none⟩) n c) w2 := fun k => run_meth meth_swap k Q _ n c w2 HQ2.out.q)
            | (go_at_call 34; refine (HSW.out _ HQ2.out).mono ?_; rintro e w9 ⟨rfl, hq9⟩))
          go_ret
          exact ⟨_, rfl, by rw [HS.out, sift_rest HLT.out (by rw [HK.out, GI.out, GJ.out]; exact HBB.out)]; exact HQ2.out⟩
    · have c1 : (n' : Int) ≤ 2 * (i : Int) + 1 := by omega
      have HF : Hid (QSt w0 Q b o c N n (sift l i0 n') wr) := by
        obtain ⟨hq, _, hs⟩ := HI.out
        rw [hs, sift_stop hlt]; exact hq
      go_wp2
      go_ret
      exact ⟨_, rfl, HF.out⟩
end Go.Proofs.Ytcjidphichlhgaa
